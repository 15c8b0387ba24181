/- Words for the law ShardParts: Sh11, Sh13, Sh14. -/
import Derived.Test.YtlhmbkjdfjoilaaGreatShardPartsG0
import Derived.Test.YtlhmbkjdfjoilaaGreatShardPartsG18
import Derived.Test.YtlhmbkjdfjoilaaGreatShardPartsG19
import Derived.Deep.CutBlock
set_option linter.unusedSimpArgs false
set_option linter.unusedVariables false
set_option maxHeartbeats 32000000
set_option maxRecDepth 1000000
namespace Go.Proofs.YtlhmbkjdfjoilaaGreat
open Go.RowKit
theorem vg {P:World→Prop} (w:World) (cs:Array Value) (t:TypeId) (h:∀w',aj au w w'→w'.heap[w.heap.size]?=some (.cells cs t (0,0))→w'.heap.size=w.heap.size+1→P w'):P (w.alloc (.cells cs t)):=
 h _ (aj.alloc _ _ _) (heap_alloc_new w _) (by simp)
theorem GV {P:Program} {ops:Array Oper} {o:Oper} {a:Act} (w:World) {K:Act→World→Prop} {Q:Exit→Act→World→Prop} {E:Prop} (b:Nat) (news:List Value) (hgd:o.guard=none) (s x:Operand) (t:TypeId)
 (ho:o.op= .call {callee:= .builtin .append,args:= #[s,x],argTypes:= #[t,t]})
 (e:TypeId) (i:TypeInfo) (z:Value) (size bytes:Nat) (ht:P.underlying t=some (.slice e)) (hi:P.info? e=some i) (hz:i.zero=some z)
 (hsize:i.size=size) (hby:i.bytes=bytes) (hzs:z.cells.size=size) (hsz:0<size)
 (v:Value) (n:Nat) (xs:List Value) (hown:w.ownsRow 0 e size v n xs) (m c:Nat) (hv:a.eval s=v) (hx:a.eval x= .slice (some ⟨b,0,none⟩) m c)
 (hb:w.heap[b]?=some (.cells news.toArray e (0,0)))
 (hnl:news.length=m*size) (h1:∀u∈news,u.oneCell'=true) (h63:n+m≤maxLen) (hbytes:(n+m)*bytes≤140737488355328)
 (h:∀ad c w',w'.ownsRow 0 e size (.slice ad (n+m) c) (n+m) (xs++news)→aj (bY v) w w'→jk w v (.slice ad (n+m) c)→K (a.put o.dst (.slice ad (n+m) c)) w'):
 if Region.wanted o (yielded ops a.tmps)=true then Oper.wp P o a w K Q else E:=by
 have hw:Region.wanted o (yielded ops a.tmps)=true:=by simp[Region.wanted,hgd]
 rw[if_pos hw]
 have hs:Src P size t (.slice (some ⟨b,0,none⟩) m c) m news w:=
  Src.ofSlice _ ht ⟨b,0,none⟩ m c news hnl (fun j u hj=>by
   have hadd:(⟨b,0,none⟩:Addr).add j=⟨b,j,none⟩:=by unfold Addr.add;split<;>simp_all
   rw[hadd,cell_of_row w b j news.toArray e (0,0) hb]
   simpa using hj) h1
 obtain⟨v',w',hr,h2,h3,h4,⟨ad,c',rfl⟩,h6⟩:=vK (P:=P) w t t o.type e i z size bytes ht hi hz hsize hby hzs hsz v n xs hown _ m news hs h63 hbytes
 unfold Oper.wp execOp
 simp only[ho,resolve,invoke,builtin,Sem.run_bind,Sem.run_pure,Result.andThen_ok,List.map_toArray,List.map_cons,List.map_nil,hv,hx,hr]
 exact h ad c' w' h2 h3 h4
theorem WV:(Tryz.prog.info? 86).map (fun i=>(i.zero,i.size,i.bytes))=some (some (.agg #[.int .i64 0, .slice none 0 0, .slice none 0 0]),3,56):=by kernel_rfl
theorem Nj {L:Nat→Prop} {pb ib x:Nat} {sv sv':Value} {w1:World} (hx:¬L x) (h1:x<pb) (h2:x<ib) (hs:∀k,sv.ownBlock=some k→L k) (fs:jk w1 sv sv') (h3:x<w1.heap.size):¬grown L pb ib sv' x:=fun e=>by
 rcases e with e|e|e|e
 ·exact hx e
 ·omega
 ·omega
 ·rcases fs _ e with s|s
  ·exact hx (hs _ s)
  ·omega
theorem Nk {l:List Bool} {k:Nat} (h:k<l.length):(oH l).toArray[k]?=some (.bool (l.getD k false)):=by
 unfold oH
 rw[getD_at false h]
 simp[h]
section
variable {L:Nat→Prop} {w:World} {b n vb:Nat} {sv:Value} {vs:List bD} {rs:List aW}
theorem WW (h:dY L w b n vb sv vs rs) (pV:Int) (k:Nat) (hk:k<n) (ks:aH) (c:aU) (ev kv cv:Value) (ha:jc (fun k=>¬L k) w ⟨[],ks,c,ev,kv,cv⟩) (hg:Good (ks,c)) (hcut:bH (dA n k) ks=ks):
 Calls Tryz.prog 18 #[.pointer (some ⟨b,0,none⟩), .int .i64 pV, .int .i64 k, .agg #[ev,kv,cv]] w fun e w'=>e= .returned (.int .i64 (tV n pV k (ks,c) (rs.map aW.con)).1)∧
  ∃L' sv' rs',Turned L w L' w'∧dY L' w' b n vb sv' vs rs'∧rs'.map aW.con=(tV n pV k (ks,c) (rs.map aW.con)).2:=by
 obtain⟨i0,hi0,hz0,hz1,hz2⟩:=info_parts WV
 have HH:=ah (fun W (f:aj au w W)=>LX b n n (some ⟨vb,0,none⟩) k W (h.aN f).nN)
 have hhk:decide (0≤(k:Int)∧(k:Int)<(n:Int))=true:=by rw[decide_eq_true_eq];omega
 rw[hhk]at HH
 have hat:∀W,aj au w W→fP (fun k=>¬L k) W ev kv cv [] ks c:=fun W f=>(ha.aN f).at_
 have HR:=ah (fun W (f:aj au w W)=>dD hg.right▸sW _ [] ks c W ev kv cv (hat W f) hg.ok)
 have hc0:∀W,aj au w W→Calls Tryz.prog 41 #[.pointer (some ⟨b,0,none⟩), .agg #[ev,kv,cv], .int .i64 k] W fun e w'=>∃kv cv,e= .returned (.agg #[.slice none 0 0,kv,cv])∧bg (fun b=>W.heap.size≤b) w' (.slice none 0 0) kv [] ks∧OwnAt W w' 92 3 cv c.length (cO c):=fun W f=>by
  have:=LZ _ [] ks c W ev kv cv (hat W f) hg.ok hg.right b n n (some ⟨vb,0,none⟩) k (h.aN f).nN
  unfold FZ at this
  rwa [hcut]at this
 have HC:=ah hc0;clear hc0
 have nT:=ah (fun W (f:aj au w W) Q jB oD (h3:fP Q W (.slice none 0 0) jB oD [] ks c)=>dD (⟨hg.right,hg.right,⟨rfl,rfl⟩,rfl⟩:f_ [] ks c∧f_ [] ks c∧(([]:List aF)=[]∧ks=ks)∧c=c)▸WT Q _ [] ks c [] ks c W (.slice none 0 0) jB oD ev kv cv h3 hg.ok (hat W f) hg.ok)
 have HA:=ah (fun W (f:aj au w W)=>Gy n rs▸BZ pV (rs.map (aW.q n)) b W sv (h.aN f).rd zG (by rw[List.length_map];have:=h.few;omega) (h.aN f).pR)
 obtain⟨P,hP⟩:∃P,P=iE pV (rs.map aW.id):=⟨_,rfl⟩
 rw[←hP]at HA
 have HP:=ah hP;clear hP
 have hn1:=h.n1
 have hn4:=h.n4
 have HST:=ah h
 have zK:=ah ha
 have rF:=ah hg
 obtain⟨a0,c0,a1,c1,a2,c2,rfl,rfl,rfl⟩:=(hat w (aj.refl _ _)).shape
 have hm1:=Gj n hn1 hn4
 have hm2:=make_is n hn1 hn4
 obtain⟨Z1,hZ1⟩:∃Z,Z=((jY n).flatMap bD.cells).toArray:=⟨_,rfl⟩
 obtain⟨Z2,hZ2⟩:∃Z,Z=(oH (List.replicate n false)).toArray:=⟨_,rfl⟩
 rw[←hZ1]at hm1
 rw[←hZ2]at hm2
 have HZ1:=ah hZ1;clear hZ1
 have HZ2:=ah hZ2;clear hZ2
 obtain⟨R,hR⟩:∃R,R=tV n pV k (ks,c) (rs.map aW.con):=⟨_,rfl⟩
 have HRR:=ah hR
 rw[←hR]
 clear hR
 have iI:=ah (fun Y Y' (f:aj au Y Y') (hS:aj au w Y∧Y.cell? ⟨w.heap.size,0,none⟩=some (.slice a0 0 c0)∧Y.cell? ⟨w.heap.size,1,none⟩=some (.slice a1 ks.len c1)∧Y.cell? ⟨w.heap.size,2,none⟩=some (.slice a2 c.length c2))=>
  (⟨hS.1.aG f,f.cell' hS.2.1 id,f.cell' hS.2.2.1 id,f.cell' hS.2.2.2 id⟩:aj au w Y'∧Y'.cell? ⟨w.heap.size,0,none⟩=some (.slice a0 0 c0)∧Y'.cell? ⟨w.heap.size,1,none⟩=some (.slice a1 ks.len c1)∧Y'.cell? ⟨w.heap.size,2,none⟩=some (.slice a2 c.length c2)))
 obtain⟨sa,cs,hsv⟩:=h.rd.sl
 rw[List.length_map]at hsv
 subst hsv
 clear h ha hg hcut hhk hat
 go_enter Tryz.func18,Tryz.ntmps18
 go_wp2_with fail
 refine iZ (S:=fun Y=>aj au w Y∧Y.cell? ⟨w.heap.size,0,none⟩=some (.slice a0 0 c0)∧Y.cell? ⟨w.heap.size,1,none⟩=some (.slice a1 ks.len c1)∧Y.cell? ⟨w.heap.size,2,none⟩=some (.slice a2 c.length c2)) 25 (by kernel_rfl) (iI.out _ _ (aj.drew au _) ⟨aj.alloc au w _,aJ (heap_alloc_new w _) 0 rfl,aJ (heap_alloc_new w _) 1 rfl,aJ (heap_alloc_new w _) 2 rfl⟩) ?_
 intro hS
 generalize World.drew _=Y0 at*
 refine dN 0 10 (v:=?_) rfl rfl (by kernel_rfl) (by rfl) (by kernel_rfl) (by kernel_rfl) (fun _ _ _ h=>h) (Or.inl ⟨by rfl,?_⟩) (by assumption) ?_
 rotate_left 1
 ·(intro w hSw;(try dsimp only at hSw);go_simp;(try with_reducible rfl))
 try simp only[Act.put,aP,aQ,aO]
 refine dN 1 11 (v:=?_) rfl rfl (by kernel_rfl) (by rfl) (by kernel_rfl) (by kernel_rfl) (fun _ _ _ h=>h) (Or.inl ⟨by rfl,?_⟩) (by assumption) ?_
 rotate_left 1
 ·(intro w hSw;(try dsimp only at hSw);go_simp;(try with_reducible rfl))
 try simp only[Act.put,aP,aQ,aO]
 refine bK (i:=2) (by kernel_rfl) rfl (fun K hK=>?_)
 go_simp
 refine(HH.out _ hS.1).mono ?_
 rintro e Y1 ⟨rfl,rfl⟩
 refine hK.out _ _ hS ?_
 clear hK K
 try simp only[Act.put,aP,aQ,aO]
 refine dN 3 13 (v:=?_) rfl rfl (by kernel_rfl) (by rfl) (by kernel_rfl) (by kernel_rfl) (fun _ _ _ h=>h) (Or.inl ⟨by rfl,?_⟩) (by assumption) ?_
 rotate_left 1
 ·(intro w hSw;(try dsimp only at hSw);go_simp;(try with_reducible rfl))
 try simp only[Act.put,aP,aQ,aO]
 refine dN 4 14 (v:=?_) rfl rfl (by kernel_rfl) (by rfl) (by kernel_rfl) (by kernel_rfl) (fun _ _ _ h=>h) (Or.inl ⟨by rfl,?_⟩) (by assumption) ?_
 rotate_left 1
 ·(intro w hSw;(try dsimp only at hSw);go_simp;(try with_reducible rfl))
 try simp only[Act.put,aP,aQ,aO]
 refine dN 5 15 (v:=?_) rfl rfl (by kernel_rfl) (by rfl) (by kernel_rfl) (by kernel_rfl) (fun _ _ _ h=>h) (Or.inl ⟨by rfl,?_⟩) (by assumption) ?_
 rotate_left 1
 ·(intro w hSw;(try dsimp only at hSw);go_simp;(try with_reducible rfl))
 try simp only[Act.put,aP,aQ,aO]
 refine bK (i:=6) (by kernel_rfl) rfl (fun K hK=>?_)
 go_simp
 refine(HR.out _ hS.1).mono ?_
 rintro e Y2 ⟨rfl,hf2⟩
 have hS1:=iI.out _ _ hf2 hS
 refine hK.out _ _ hS1 ?_
 clear hK K hS hf2
 have hS:=hS1
 clear hS1
 try simp only[Act.put,aP,aQ,aO]
 refine dN 7 17 (v:=?_) rfl rfl (by kernel_rfl) (by rfl) (by kernel_rfl) (by kernel_rfl) (fun _ _ _ h=>h) (Or.inl ⟨by rfl,?_⟩) (by assumption) ?_
 rotate_left 1
 ·(intro w hSw;(try dsimp only at hSw);go_simp;(try with_reducible rfl))
 try simp only[Act.put,aP,aQ,aO]
 refine dN 8 18 (v:=?_) rfl rfl (by kernel_rfl) (by rfl) (by kernel_rfl) (by kernel_rfl) (fun _ _ _ h=>h) (Or.inl ⟨by rfl,?_⟩) (by assumption) ?_
 rotate_left 1
 ·(intro w hSw;(try dsimp only at hSw);go_simp;(try with_reducible rfl))
 try simp only[Act.put,aP,aQ,aO]
 refine dN 9 19 (v:=?_) rfl rfl (by kernel_rfl) (by rfl) (by kernel_rfl) (by kernel_rfl) (fun _ _ _ h=>h) (Or.inl ⟨by rfl,?_⟩) (by assumption) ?_
 rotate_left 1
 ·(intro w hSw;(try dsimp only at hSw);go_simp;(try with_reducible rfl))
 try simp only[Act.put,aP,aQ,aO]
 refine dN 10 20 (v:=?_) rfl rfl (by kernel_rfl) (by rfl) (by kernel_rfl) (by kernel_rfl) (fun _ _ _ h=>h) (Or.inl ⟨by rfl,?_⟩) (by assumption) ?_
 rotate_left 1
 ·(intro w hSw;(try dsimp only at hSw);go_simp;(try with_reducible rfl))
 try simp only[Act.put,aP,aQ,aO]
 refine dN 11 21 (v:=?_) rfl rfl (by kernel_rfl) (by rfl) (by kernel_rfl) (by kernel_rfl) (fun _ _ _ h=>h) (Or.inl ⟨by rfl,?_⟩) (by assumption) ?_
 rotate_left 1
 ·(intro w hSw;(try dsimp only at hSw);go_simp;(try with_reducible rfl))
 try simp only[Act.put,aP,aQ,aO]
 refine dN 12 22 (v:=?_) rfl rfl (by kernel_rfl) (by rfl) (by kernel_rfl) (by kernel_rfl) (fun _ _ _ h=>h) (Or.inl ⟨by rfl,?_⟩) (by assumption) ?_
 rotate_left 1
 ·(intro w hSw;(try dsimp only at hSw);go_simp;(try with_reducible rfl))
 try simp only[Act.put,aP,aQ,aO]
 refine dN 13 23 (v:=?_) rfl rfl (by kernel_rfl) (by rfl) (by kernel_rfl) (by kernel_rfl) (fun _ _ _ h=>h) (Or.inl ⟨by rfl,?_⟩) (by assumption) ?_
 rotate_left 1
 ·(intro w hSw;(try dsimp only at hSw);go_simp;(try with_reducible rfl))
 try simp only[Act.put,aP,aQ,aO]
 refine dN 14 24 (v:=?_) rfl rfl (by kernel_rfl) (by rfl) (by kernel_rfl) (by kernel_rfl) (fun _ _ _ h=>h) (Or.inl ⟨by rfl,?_⟩) (by assumption) ?_
 rotate_left 1
 ·(intro w hSw;(try dsimp only at hSw);go_simp;(try with_reducible rfl))
 try simp only[Act.put,aP,aQ,aO]
 refine dN 15 25 (v:=?_) rfl rfl (by kernel_rfl) (by rfl) (by kernel_rfl) (by kernel_rfl) (fun _ _ _ h=>h) (Or.inl ⟨by rfl,?_⟩) (by assumption) ?_
 rotate_left 1
 ·(intro w hSw;(try dsimp only at hSw);go_simp;(try with_reducible rfl))
 try simp only[Act.put,aP,aQ,aO]
 refine dN 16 26 (v:=?_) rfl rfl (by kernel_rfl) (by rfl) (by kernel_rfl) (by kernel_rfl) (fun _ _ _ h=>h) (Or.inl ⟨by rfl,?_⟩) (by assumption) ?_
 rotate_left 1
 ·(intro w hSw;(try dsimp only at hSw);go_simp;(try with_reducible rfl))
 try simp only[Act.put,aP,aQ,aO]
 refine dN 17 27 (v:=?_) rfl rfl (by kernel_rfl) (by rfl) (by kernel_rfl) (by kernel_rfl) (fun _ _ _ h=>h) (Or.inl ⟨by rfl,?_⟩) (by assumption) ?_
 rotate_left 1
 ·(intro w hSw;(try dsimp only at hSw);go_simp;(try with_reducible rfl))
 try simp only[Act.put,aP,aQ,aO]
 refine dN 18 28 (v:=?_) rfl rfl (by kernel_rfl) (by rfl) (by kernel_rfl) (by kernel_rfl) (fun _ _ _ h=>h) (Or.inl ⟨by rfl,?_⟩) (by assumption) ?_
 rotate_left 1
 ·(intro w hSw;(try dsimp only at hSw);go_simp;(try with_reducible rfl))
 try simp only[Act.put,aP,aQ,aO]
 refine dN 19 29 (v:=?_) rfl rfl (by kernel_rfl) (by rfl) (by kernel_rfl) (by kernel_rfl) (fun _ _ _ h=>h) (Or.inl ⟨by rfl,?_⟩) (by assumption) ?_
 rotate_left 1
 ·(intro w hSw;(try dsimp only at hSw);go_simp;(try with_reducible rfl))
 try simp only[Act.put,aP,aQ,aO]
 refine dN 21 31 (v:=?_) rfl rfl (by kernel_rfl) (by rfl) (by kernel_rfl) (by kernel_rfl) (fun _ _ _ h=>h) (Or.inl ⟨by rfl,?_⟩) (by assumption) ?_
 rotate_left 1
 ·(intro w hSw;(try dsimp only at hSw);go_simp;(try with_reducible rfl))
 try simp only[Act.put,aP,aQ,aO]
 refine bK (i:=20) (by kernel_rfl) rfl (fun K hK=>?_)
 go_simp
 refine(HC.out _ hS.1).mono ?_
 rintro e Y3 ⟨jB,oD,rfl,hta,ho3⟩
 obtain⟨rQ,kT,-⟩:=hta.kids
 obtain⟨a5,c5,rfl⟩:=kT.rd.sl
 obtain⟨a6,c6,rfl⟩:=ho3.shape
 have Nl:=ah (⟨hta,ho3.rd⟩:fP _ Y3 _ _ _ [] ks c)
 have hS1:=iI.out _ _ ho3.aI hS
 refine hK.out _ _ hS1 ?_
 clear hK K hS kT hta ho3
 have hS:=hS1
 clear hS1
 try simp only[Act.put,aP,aQ,aO]
 refine bK (i:=22) (by kernel_rfl) rfl (fun K hK=>?_)
 go_simp
 refine(nT.out _ hS.1 _ _ _ Nl.out).mono ?_
 rintro e Y4 ⟨rfl,hf4⟩
 have hS1:=iI.out _ _ hf4 hS
 refine hK.out _ _ hS1 ?_
 clear hK K hS hf4 Nl
 have hS:=hS1
 clear hS1
 try simp only[Act.put,aP,aQ,aO]
 refine dN 23 33 (v:=?_) rfl rfl (by kernel_rfl) (by rfl) (by kernel_rfl) (by kernel_rfl) (fun _ _ _ h=>h) (Or.inl ⟨by rfl,?_⟩) (by assumption) ?_
 rotate_left 1
 ·(intro w hSw;(try dsimp only at hSw);go_simp;(try with_reducible rfl))
 try simp only[Act.put,aP,aQ,aO]
 refine bK (i:=24) (by kernel_rfl) rfl (fun K hK=>?_)
 go_simp
 refine hK.out _ _ hS ?_
 clear hK K
 refine GN (by kernel_rfl) ?_
 clear HH HR HC nT
 go_upto_block 0 with(go_at_call 38;refine(HA.out _ hS.1).mono ?_;rintro e Y5 ⟨rfl,hf5⟩;have hS5:=iI.out _ _ hf5 hS;clear hS hf5;have hS:=hS5;clear hS5)
 clear HA
 go_cut [9] (fun v wx=>∃(i:Nat) (L1:Nat→Prop) (zL:Value) (iK:List aW),v= .int .i64 i∧Turned L w L1 wx∧dY L1 wx b n vb zL vs iK∧i<iK.length∧R=(0,(iK.map aW.con).set i (r_ ((iK.map aW.con).getD i default) k (ks,c)))∧jc (fun k=>¬L1 k) wx ⟨[],ks,c, .slice a0 0 c0, .slice a1 ks.len c1, .slice a2 c.length c2⟩∧¬L1 w.heap.size∧
  wx.cell? ⟨w.heap.size,0,none⟩=some (.slice a0 0 c0)∧wx.cell? ⟨w.heap.size,1,none⟩=some (.slice a1 ks.len c1)∧wx.cell? ⟨w.heap.size,2,none⟩=some (.slice a2 c.length c2))
 case first=>
  rcases GH pV (rs.map aW.id)with⟨hp,hnm⟩|⟨i,hi,hp,he⟩
  ·have hP:=HP.out.trans hp
   subst hP
   have hRR:R=if 4≤rs.length then(4,rs.map aW.con)else(0,((rs.map aW.con)++ [newS n pV]).set rs.length (r_ (newS n pV) k (ks,c))):=by rw[HRR.out];unfold tV;rw[Ce,if_pos hp,List.length_map]
   clear hp HP
   have ny:=ah hnm;clear hnm
   by_cases hl:4≤rs.length
   ·rw[if_pos hl]at hRR
    have jg:=ah hRR;clear hRR
    have y0:=(HST.out.aN hS.1).pR
    have hb0:=World.block_lt_of_cell? _ _ y0
    go_wp2
    go_ret
    refine⟨by rw[jg.out];rfl,?_⟩
    exact⟨L,Turned.zH hS.1,_,_,HST.out.aN hS.1,by rw[jg.out]⟩
   ·rw[if_neg hl]at hRR
    have jg:=ah hRR;clear hRR
    have y0:=(HST.out.aN hS.1).pR
    have y1:=(HST.out.aN hS.1).nN
    have hb0:=World.block_lt_of_cell? _ _ y0
    go_wp2_with fail
    have dM:=ah (hS.1.aG (aj.drew au _))
    have bF:=ah ((iI.out _ _ (aj.drew au _) hS).2)
    clear y0 y1 hb0
    have jO:(World.drew Y5).cell? ⟨b,0,none⟩=some (.slice (some ⟨vb,0,none⟩) n n)∧(World.drew Y5).cell? ⟨b,1,none⟩=some (.slice sa rs.length cs):=⟨(HST.out.aN dM.out).nN,(HST.out.aN dM.out).pR⟩
    refine iZ (S:=fun Y=>Y.cell? ⟨b,0,none⟩=some (.slice (some ⟨vb,0,none⟩) n n)∧Y.cell? ⟨b,1,none⟩=some (.slice sa rs.length cs)) 23 (by kernel_rfl) jO ?_
    clear hS
    intro hS
    clear jO
    generalize World.drew Y5=Y6 at*
    refine iy 0 73 rfl rfl (v:=?_) (.inl ⟨by rfl,?_⟩) ?_
    rotate_left 1
    ·(intro w hSw;(try dsimp only at hSw);go_simp;(try with_reducible rfl))
    refine iy 1 74 rfl rfl (v:=?_) (.inl ⟨by rfl,?_⟩) ?_
    rotate_left 1
    ·(intro w hSw;(try dsimp only at hSw);go_simp;(try with_reducible rfl))
    try simp only[Act.put,aP,aQ,aO]
    refine iy 2 75 rfl rfl (v:=?_) (.inl ⟨by rfl,?_⟩) ?_
    rotate_left 1
    ·(intro w hSw;(try dsimp only at hSw);go_simp;(try with_reducible rfl))
    refine iy 3 76 rfl rfl (v:=?_) (.inl ⟨by rfl,?_⟩) ?_
    rotate_left 1
    ·(intro w hSw;(try dsimp only at hSw);go_simp;(try with_reducible rfl))
    try simp only[Act.put,aP,aQ,aO]
    refine iy 4 77 rfl rfl (v:=?_) (.inl ⟨by rfl,?_⟩) ?_
    rotate_left 1
    ·(intro w hSw;(try dsimp only at hSw);go_simp;(try with_reducible rfl))
    refine iy 5 78 rfl rfl (v:=?_) (.inl ⟨by rfl,?_⟩) ?_
    rotate_left 1
    ·(intro w hSw;(try dsimp only at hSw);go_simp;(try with_reducible rfl))
    try simp only[Act.put,aP,aQ,aO]
    refine iy 6 79 rfl rfl (v:=?_) (.inl ⟨by rfl,?_⟩) ?_
    rotate_left 1
    ·(intro w hSw;(try dsimp only at hSw);go_simp;(try with_reducible rfl))
    refine iy 7 80 rfl rfl (v:=?_) (.inl ⟨by rfl,?_⟩) ?_
    rotate_left 1
    ·(intro w hSw;(try dsimp only at hSw);go_simp;(try with_reducible rfl))
    try simp only[Act.put,aP,aQ,aO]
    refine iy 8 81 rfl rfl (v:=?_) (.inl ⟨by rfl,?_⟩) ?_
    rotate_left 1
    ·(intro w hSw;(try dsimp only at hSw);go_simp;(try with_reducible rfl))
    refine iy 9 82 rfl rfl (v:=?_) (.inl ⟨by rfl,?_⟩) ?_
    rotate_left 1
    ·(intro w hSw;(try dsimp only at hSw);go_simp;(try with_reducible rfl))
    try simp only[Act.put,aP,aQ,aO]
    refine iy 10 83 rfl rfl (v:=?_) (.inl ⟨by rfl,?_⟩) ?_
    rotate_left 1
    ·(intro w hSw;(try dsimp only at hSw);go_simp;(try with_reducible rfl))
    refine iy 12 85 rfl rfl (v:=?_) (.inl ⟨by rfl,?_⟩) ?_
    rotate_left 1
    ·(intro w hSw;(try dsimp only at hSw);go_simp;(try with_reducible rfl))
    try simp only[Act.put,aP,aQ,aO]
    refine iy 13 86 rfl rfl (v:=?_) (.inl ⟨by rfl,?_⟩) ?_
    rotate_left 1
    ·(intro w hSw;(try dsimp only at hSw);go_simp;(try with_reducible rfl))
    refine iy 14 87 rfl rfl (v:=?_) (.inl ⟨by rfl,?_⟩) ?_
    rotate_left 1
    ·(intro w hSw;(try dsimp only at hSw);go_simp;(try with_reducible rfl))
    try simp only[Act.put,aP,aQ,aO]
    refine iy 15 88 rfl rfl (v:=?_) (.inl ⟨by rfl,?_⟩) ?_
    rotate_left 1
    ·(intro w hSw;(try dsimp only at hSw);go_simp;(try with_reducible rfl))
    refine iy 16 89 rfl rfl (v:=?_) (.inl ⟨by rfl,?_⟩) ?_
    rotate_left 1
    ·(intro w hSw;(try dsimp only at hSw);go_simp;(try with_reducible rfl))
    try simp only[Act.put,aP,aQ,aO]
    refine sV (i:=11) (j:=17) (by kernel_rfl) rfl rfl (fun K hK=>?_) (fun K hK=>?_)
    ·go_simp
     refine vg _ _ _ (fun Y7 jq hb7 hs7=>?_)
     have zM:=World.block_lt_of_cell? _ _ bF.out.1
     have iP:=ah (⟨hb7,zM⟩:_∧w.heap.size<_)
     (try(have g:=jq.blk iq.out.1 id;have g2:=iq.out.2;clear iq;have iq:=ah (⟨g,g2⟩:_∧w.heap.size<_);clear g g2))
     have hf:=dM.out.aG jq
     clear dM
     have dM:=ah hf
     have hbx:=(⟨jq.cell' bF.out.1 id,jq.cell' bF.out.2.1 id,jq.cell' bF.out.2.2 id⟩:Y7.cell? ⟨w.heap.size,0,none⟩=some (.slice a0 0 c0)∧Y7.cell? ⟨w.heap.size,1,none⟩=some (.slice a1 ks.len c1)∧Y7.cell? ⟨w.heap.size,2,none⟩=some (.slice a2 c.length c2))
     clear bF
     have bF:=ah hbx
     have hS1:Y7.cell? ⟨b,0,none⟩=some (.slice (some ⟨vb,0,none⟩) n n)∧Y7.cell? ⟨b,1,none⟩=some (.slice sa rs.length cs):=⟨jq.cell' hS.1 id,jq.cell' hS.2 id⟩
     refine hK.out _ _ hS1 ?_
     clear hK K hS jq hb7 hs7 zM hf hbx
     have hS:=hS1
     clear hS1
     try simp only[Act.put,aP,aQ,aO]
     refine bK (i:=17) (by kernel_rfl) rfl (fun K hK=>?_)
     go_simp
     refine vg _ _ _ (fun Y8 jr hb8 hs8=>?_)
     have zN:=World.block_lt_of_cell? _ _ bF.out.1
     have iq:=ah (⟨hb8,zN⟩:_∧w.heap.size<_)
     (try(have g:=jr.blk iP.out.1 id;have g2:=iP.out.2;clear iP;have iP:=ah (⟨g,g2⟩:_∧w.heap.size<_);clear g g2))
     have hf:=dM.out.aG jr
     clear dM
     have dM:=ah hf
     have hbx:=(⟨jr.cell' bF.out.1 id,jr.cell' bF.out.2.1 id,jr.cell' bF.out.2.2 id⟩:Y8.cell? ⟨w.heap.size,0,none⟩=some (.slice a0 0 c0)∧Y8.cell? ⟨w.heap.size,1,none⟩=some (.slice a1 ks.len c1)∧Y8.cell? ⟨w.heap.size,2,none⟩=some (.slice a2 c.length c2))
     clear bF
     have bF:=ah hbx
     have hS1:Y8.cell? ⟨b,0,none⟩=some (.slice (some ⟨vb,0,none⟩) n n)∧Y8.cell? ⟨b,1,none⟩=some (.slice sa rs.length cs):=⟨jr.cell' hS.1 id,jr.cell' hS.2 id⟩
     refine hK.out _ _ hS1 ?_
     clear hK K hS jr hb8 hs8 zN hf hbx
     have hS:=hS1
     clear hS1
     try simp only[Act.put,aP,aQ,aO]
     refine iy 18 91 rfl rfl (v:=?_) (.inl ⟨by rfl,?_⟩) ?_
     rotate_left 1
     ·(intro w hSw;(try dsimp only at hSw);go_simp;(try with_reducible rfl))
     try simp only[Act.put,aP,aQ,aO]
     refine bK (i:=19) (by kernel_rfl) rfl (fun K hK=>?_)
     go_simp
     refine vg _ _ _ (fun Y9 jZ zO hs9=>?_)
     have vw:=ah zO
     have g:=jZ.blk iP.out.1 id
     have g2:=iP.out.2
     clear iP
     have iP:=ah (⟨g,g2⟩:_∧w.heap.size<_)
     clear g g2
     have g:=jZ.blk iq.out.1 id
     have g2:=iq.out.2
     clear iq
     have iq:=ah (⟨g,g2⟩:_∧w.heap.size<_)
     clear g g2
     have hf:=dM.out.aG jZ
     clear dM
     have dM:=ah hf
     have hbx:=(⟨jZ.cell' bF.out.1 id,jZ.cell' bF.out.2.1 id,jZ.cell' bF.out.2.2 id⟩:Y9.cell? ⟨w.heap.size,0,none⟩=some (.slice a0 0 c0)∧Y9.cell? ⟨w.heap.size,1,none⟩=some (.slice a1 ks.len c1)∧Y9.cell? ⟨w.heap.size,2,none⟩=some (.slice a2 c.length c2))
     clear bF
     have bF:=ah hbx
     have hS1:Y9.cell? ⟨b,0,none⟩=some (.slice (some ⟨vb,0,none⟩) n n)∧Y9.cell? ⟨b,1,none⟩=some (.slice sa rs.length cs):=⟨jZ.cell' hS.1 id,jZ.cell' hS.2 id⟩
     refine hK.out _ _ hS1 ?_
     clear hK K hS jZ zO hs9 hf hbx
     have hS:=hS1
     clear hS1
     try simp only[Act.put,aP,aQ,aO]
     refine bK (i:=20) (by kernel_rfl) rfl (fun K hK=>?_)
     refine GV Y9 _ [.int .i64 pV, .slice _ n n, .slice _ n n] rfl (.tmp 77) (.tmp 92) 79 rfl 86 i0 _ 3 56 Tryz.underlying79 hi0 hz0 hz1 hz2 (by decide) (by decide) (.slice sa rs.length cs) rs.length _ (HST.out.aN dM.out).own 1 1 (by simp[Act.eval]) (by simp[Act.eval]) vw.out rfl (by simp[Value.oneCell']) (by have:=HST.out.few;simp only[maxLen];omega) (by have:=HST.out.few;omega) ?_
     intro ad cc w2 bn jP nS
     have hgr:=HST.out.grow dM.out (Nat.le_of_lt iP.out.2) (Nat.le_of_lt iq.out.2) (by rw[←HZ1.out];exact iP.out.1) (by rw[←HZ2.out];exact iq.out.1) jP nS bn ny.out (by omega)
     have kV:=ah hgr;clear hgr
     have tZ:w.heap.size<Y9.heap.size:=World.block_lt_of_cell? _ _ bF.out.1
     have jT:=ah (Nj (fun e=>by have:=HST.out.Ls _ e;omega) iP.out.2 iq.out.2 HST.out.sL nS tZ)
     have nb:¬bY (.slice sa rs.length cs) w.heap.size:=fun s=>by have:=HST.out.Ls _ (HST.out.sL _ s);omega
     have hbx:=(⟨jP.cell' bF.out.1 nb,jP.cell' bF.out.2.1 nb,jP.cell' bF.out.2.2 nb⟩:w2.cell? ⟨w.heap.size,0,none⟩=some (.slice a0 0 c0)∧w2.cell? ⟨w.heap.size,1,none⟩=some (.slice a1 ks.len c1)∧w2.cell? ⟨w.heap.size,2,none⟩=some (.slice a2 c.length c2))
     have pW:=ah hbx;clear hbx
     have hS1:w2.cell? ⟨b,0,none⟩=some (.slice (some ⟨vb,0,none⟩) n n)∧w2.cell? ⟨b,1,none⟩=some (.slice sa rs.length cs):=⟨aJ kV.out.1 0 rfl,aJ kV.out.1 1 rfl⟩
     refine hK.out _ _ hS1 ?_
     clear hK K hS bn jP nS nb tZ
     have hS:=hS1
     clear hS1
     try simp only[Act.put,aP,aQ,aO]
     refine bK (i:=21) (by kernel_rfl) rfl (fun K hK=>?_)
     go_simp
     refine hK.out _ _ hS ?_
     clear hK K
     try simp only[Act.put,aP,aQ,aO]
     refine iy 22 95 rfl rfl (v:=?_) (.inl ⟨by rfl,?_⟩) ?_
     rotate_left 1
     ·(intro w hSw;(try dsimp only at hSw);go_simp;(try with_reducible rfl))
     try simp only[Act.put,aP,aQ,aO]
     refine gQ (by kernel_rfl) (by kernel_rfl) rfl (fun K hK=>?_)
     have g1:=bG kV.out.1 1
     have gl:=lt_of_block kV.out.1
     have q1:=hS.2
     go_simp
     refine hK.out _ _ ?_
     clear hK K hS q1 g1 gl
     go_wp2
     go_meet
     case rel=>
      have hbn:b≠w.heap.size:=fun e=>by have:=HST.out.Ls _ HST.out.bL;omega
      have fb:=aj.setCell (S:=fun x=>x=b) w2 (p:=⟨b,1,none⟩) (.inl rfl) (.slice ad (rs.length+1) cc)
      refine⟨rs.length,_,_,_,rfl,kV.out.2.2,kV.out.2.1,by simp,?_,zK.out.turn fun x hx hl=>⟨kV.out.2.2.aI.block x hx hl,fun e=>?_⟩,jT.out,fb.cell' pW.out.1 hbn.symm,fb.cell' pW.out.2.1 hbn.symm,fb.cell' pW.out.2.2 hbn.symm⟩
      ·rw[jg.out,List.map_append,List.map_cons,List.map_nil,MS,getD_at _ (by simp),List.getElem_append_right (by simp)]
       simp
      ·rcases kV.out.2.2.own x e with g|g
       ·exact hl g
       ·omega
    ·go_simp
     refine vg _ _ _ (fun Y8 jr hb8 hs8=>?_)
     have zN:=World.block_lt_of_cell? _ _ bF.out.1
     have iq:=ah (⟨hb8,zN⟩:_∧w.heap.size<_)
     (try(have g:=jr.blk iP.out.1 id;have g2:=iP.out.2;clear iP;have iP:=ah (⟨g,g2⟩:_∧w.heap.size<_);clear g g2))
     have hf:=dM.out.aG jr
     clear dM
     have dM:=ah hf
     have hbx:=(⟨jr.cell' bF.out.1 id,jr.cell' bF.out.2.1 id,jr.cell' bF.out.2.2 id⟩:Y8.cell? ⟨w.heap.size,0,none⟩=some (.slice a0 0 c0)∧Y8.cell? ⟨w.heap.size,1,none⟩=some (.slice a1 ks.len c1)∧Y8.cell? ⟨w.heap.size,2,none⟩=some (.slice a2 c.length c2))
     clear bF
     have bF:=ah hbx
     have hS1:Y8.cell? ⟨b,0,none⟩=some (.slice (some ⟨vb,0,none⟩) n n)∧Y8.cell? ⟨b,1,none⟩=some (.slice sa rs.length cs):=⟨jr.cell' hS.1 id,jr.cell' hS.2 id⟩
     refine hK.out _ _ hS1 ?_
     clear hK K hS jr hb8 hs8 zN hf hbx
     have hS:=hS1
     clear hS1
     try simp only[Act.put,aP,aQ,aO]
     refine bK (i:=11) (by kernel_rfl) rfl (fun K hK=>?_)
     go_simp
     refine vg _ _ _ (fun Y7 jq hb7 hs7=>?_)
     have zM:=World.block_lt_of_cell? _ _ bF.out.1
     have iP:=ah (⟨hb7,zM⟩:_∧w.heap.size<_)
     (try(have g:=jq.blk iq.out.1 id;have g2:=iq.out.2;clear iq;have iq:=ah (⟨g,g2⟩:_∧w.heap.size<_);clear g g2))
     have hf:=dM.out.aG jq
     clear dM
     have dM:=ah hf
     have hbx:=(⟨jq.cell' bF.out.1 id,jq.cell' bF.out.2.1 id,jq.cell' bF.out.2.2 id⟩:Y7.cell? ⟨w.heap.size,0,none⟩=some (.slice a0 0 c0)∧Y7.cell? ⟨w.heap.size,1,none⟩=some (.slice a1 ks.len c1)∧Y7.cell? ⟨w.heap.size,2,none⟩=some (.slice a2 c.length c2))
     clear bF
     have bF:=ah hbx
     have hS1:Y7.cell? ⟨b,0,none⟩=some (.slice (some ⟨vb,0,none⟩) n n)∧Y7.cell? ⟨b,1,none⟩=some (.slice sa rs.length cs):=⟨jq.cell' hS.1 id,jq.cell' hS.2 id⟩
     refine hK.out _ _ hS1 ?_
     clear hK K hS jq hb7 hs7 zM hf hbx
     have hS:=hS1
     clear hS1
     try simp only[Act.put,aP,aQ,aO]
     refine iy 18 91 rfl rfl (v:=?_) (.inl ⟨by rfl,?_⟩) ?_
     rotate_left 1
     ·(intro w hSw;(try dsimp only at hSw);go_simp;(try with_reducible rfl))
     try simp only[Act.put,aP,aQ,aO]
     refine bK (i:=19) (by kernel_rfl) rfl (fun K hK=>?_)
     go_simp
     refine vg _ _ _ (fun Y9 jZ zO hs9=>?_)
     have vw:=ah zO
     have g:=jZ.blk iP.out.1 id
     have g2:=iP.out.2
     clear iP
     have iP:=ah (⟨g,g2⟩:_∧w.heap.size<_)
     clear g g2
     have g:=jZ.blk iq.out.1 id
     have g2:=iq.out.2
     clear iq
     have iq:=ah (⟨g,g2⟩:_∧w.heap.size<_)
     clear g g2
     have hf:=dM.out.aG jZ
     clear dM
     have dM:=ah hf
     have hbx:=(⟨jZ.cell' bF.out.1 id,jZ.cell' bF.out.2.1 id,jZ.cell' bF.out.2.2 id⟩:Y9.cell? ⟨w.heap.size,0,none⟩=some (.slice a0 0 c0)∧Y9.cell? ⟨w.heap.size,1,none⟩=some (.slice a1 ks.len c1)∧Y9.cell? ⟨w.heap.size,2,none⟩=some (.slice a2 c.length c2))
     clear bF
     have bF:=ah hbx
     have hS1:Y9.cell? ⟨b,0,none⟩=some (.slice (some ⟨vb,0,none⟩) n n)∧Y9.cell? ⟨b,1,none⟩=some (.slice sa rs.length cs):=⟨jZ.cell' hS.1 id,jZ.cell' hS.2 id⟩
     refine hK.out _ _ hS1 ?_
     clear hK K hS jZ zO hs9 hf hbx
     have hS:=hS1
     clear hS1
     try simp only[Act.put,aP,aQ,aO]
     refine bK (i:=20) (by kernel_rfl) rfl (fun K hK=>?_)
     refine GV Y9 _ [.int .i64 pV, .slice _ n n, .slice _ n n] rfl (.tmp 77) (.tmp 92) 79 rfl 86 i0 _ 3 56 Tryz.underlying79 hi0 hz0 hz1 hz2 (by decide) (by decide) (.slice sa rs.length cs) rs.length _ (HST.out.aN dM.out).own 1 1 (by simp[Act.eval]) (by simp[Act.eval]) vw.out rfl (by simp[Value.oneCell']) (by have:=HST.out.few;simp only[maxLen];omega) (by have:=HST.out.few;omega) ?_
     intro ad cc w2 bn jP nS
     have hgr:=HST.out.grow dM.out (Nat.le_of_lt iP.out.2) (Nat.le_of_lt iq.out.2) (by rw[←HZ1.out];exact iP.out.1) (by rw[←HZ2.out];exact iq.out.1) jP nS bn ny.out (by omega)
     have kV:=ah hgr;clear hgr
     have tZ:w.heap.size<Y9.heap.size:=World.block_lt_of_cell? _ _ bF.out.1
     have jT:=ah (Nj (fun e=>by have:=HST.out.Ls _ e;omega) iP.out.2 iq.out.2 HST.out.sL nS tZ)
     have nb:¬bY (.slice sa rs.length cs) w.heap.size:=fun s=>by have:=HST.out.Ls _ (HST.out.sL _ s);omega
     have hbx:=(⟨jP.cell' bF.out.1 nb,jP.cell' bF.out.2.1 nb,jP.cell' bF.out.2.2 nb⟩:w2.cell? ⟨w.heap.size,0,none⟩=some (.slice a0 0 c0)∧w2.cell? ⟨w.heap.size,1,none⟩=some (.slice a1 ks.len c1)∧w2.cell? ⟨w.heap.size,2,none⟩=some (.slice a2 c.length c2))
     have pW:=ah hbx;clear hbx
     have hS1:w2.cell? ⟨b,0,none⟩=some (.slice (some ⟨vb,0,none⟩) n n)∧w2.cell? ⟨b,1,none⟩=some (.slice sa rs.length cs):=⟨aJ kV.out.1 0 rfl,aJ kV.out.1 1 rfl⟩
     refine hK.out _ _ hS1 ?_
     clear hK K hS bn jP nS nb tZ
     have hS:=hS1
     clear hS1
     try simp only[Act.put,aP,aQ,aO]
     refine bK (i:=21) (by kernel_rfl) rfl (fun K hK=>?_)
     go_simp
     refine hK.out _ _ hS ?_
     clear hK K
     try simp only[Act.put,aP,aQ,aO]
     refine iy 22 95 rfl rfl (v:=?_) (.inl ⟨by rfl,?_⟩) ?_
     rotate_left 1
     ·(intro w hSw;(try dsimp only at hSw);go_simp;(try with_reducible rfl))
     try simp only[Act.put,aP,aQ,aO]
     refine gQ (by kernel_rfl) (by kernel_rfl) rfl (fun K hK=>?_)
     have g1:=bG kV.out.1 1
     have gl:=lt_of_block kV.out.1
     have q1:=hS.2
     go_simp
     refine hK.out _ _ ?_
     clear hK K hS q1 g1 gl
     go_wp2
     go_meet
     case rel=>
      have hbn:b≠w.heap.size:=fun e=>by have:=HST.out.Ls _ HST.out.bL;omega
      have fb:=aj.setCell (S:=fun x=>x=b) w2 (p:=⟨b,1,none⟩) (.inl rfl) (.slice ad (rs.length+1) cc)
      refine⟨rs.length,_,_,_,rfl,kV.out.2.2,kV.out.2.1,by simp,?_,zK.out.turn fun x hx hl=>⟨kV.out.2.2.aI.block x hx hl,fun e=>?_⟩,jT.out,fb.cell' pW.out.1 hbn.symm,fb.cell' pW.out.2.1 hbn.symm,fb.cell' pW.out.2.2 hbn.symm⟩
      ·rw[jg.out,List.map_append,List.map_cons,List.map_nil,MS,getD_at _ (by simp),List.getElem_append_right (by simp)]
       simp
      ·rcases kV.out.2.2.own x e with g|g
       ·exact hl g
       ·omega
  ·rw[List.length_map]at hi
   have hP:=HP.out.trans hp
   subst hP
   have hpn:¬((i:Int)=-1):=by omega
   have hit:(i:Int).toNat=i:=by omega
   have hRR:R=if(rs.getD i default).is.getD k false=true then(8,rs.map aW.con)else(0,(rs.map aW.con).set i (r_ ((rs.map aW.con).getD i default) k (ks,c))):=by
    rw[HRR.out];unfold tV;rw[Ce,hp,if_neg hpn,hit,GI hi];rfl
   clear hp HP he hpn hit
   have hs:=(HST.out.aN hS.1).lD _ (getD_mem default hi)
   obtain⟨g0,g1,g2⟩:=xF (rs.map (aW.q n)) i (by rw[List.length_map];exact hi)
   have hrd:=(HST.out.aN hS.1).rd
   have y1:=(HST.out.aN hS.1).pR
   rw[Cb hi]at g2
   rw[List.length_map]at hrd
   have y3:=aJ hs.is k (u:= .bool ((rs.getD i default).is.getD k false)) (Nk (by rw[hs.xI];exact hk))
   generalize (rs.getD i default).is.getD k false=fl at*
   have g2:((rs.map (aW.q n)).flatMap bM.cells)[i*3+2]?=some (.slice (some ⟨(rs.getD i default).ib,0,none⟩) n n):=g2
   generalize (rs.getD i default).ib=ib at*
   rcases Rd.shape hrd with⟨ad,he,h0⟩|⟨p,off,cp,he,hmx⟩
   ·omega
   injection he with e1 e2 e3
   subst e1 e3
   clear e2
   have y2:Y5.cell? ⟨p,off+i*3+2,none⟩=_:=hrd.cell (i*3+2) _ g2
   have hb1:=World.block_lt_of_cell? _ _ y1
   have hb2:=World.block_lt_of_cell? _ _ y2
   have hb3:=World.block_lt_of_cell? _ _ y3
   clear hrd g0 g1 g2 hs
   have hin:(i:Int)<(rs.length:Int):=by omega
   have hkn:(k:Int)<(n:Int):=by omega
   cases fl with
   |true=>
    rw[if_pos rfl]at hRR
    have jg:=ah hRR;clear hRR
    go_wp2
    go_ret
    refine⟨by rw[jg.out];rfl,?_⟩
    exact⟨L,Turned.zH hS.1,_,_,HST.out.aN hS.1,by rw[jg.out]⟩
   |false=>
    rw[if_neg (by decide)]at hRR
    have jg:=ah hRR;clear hRR
    go_wp2
    go_meet
    case rel=>exact⟨i,L,_,rs,rfl,Turned.zH hS.1,HST.out.aN hS.1,hi,jg.out,zK.out.aN hS.1,fun e=>by(have:=HST.out.Ls _ e;omega),hS.2⟩
 case rest=>
  obtain⟨i,L1,zL,iK,rfl,ht1,h1,hi,hst,ha1,hnb,y0,y1,y2⟩:=hcut
  have hs:=h1.lD _ (getD_mem default hi)
  obtain⟨g0,g1,g2⟩:=xF (iK.map (aW.q n)) i (by rw[List.length_map];exact hi)
  have hrd:=h1.rd
  have x1:=h1.pR
  rw[Cb hi]at g1 g2
  obtain⟨r,hr⟩:∃r,iK.getD i default=r:=⟨_,rfl⟩
  rw[hr]at hs g1 g2
  obtain⟨q0,q1,q2⟩:=zB r.part k (by rw[hs.part.len];exact hk)
  have eF:=ah hs
  rw[List.length_map]at hrd
  rcases Rd.shape hrd with⟨ad,he,h0⟩|⟨p,off,cp,he,hmx⟩
  ·omega
  subst he
  have x2:wc.cell? ⟨p,off+i*3+1,none⟩=some (.slice (some ⟨r.pb,0,none⟩) n n):=hrd.cell (i*3+1) _ g1
  have x3:wc.cell? ⟨p,off+i*3+2,none⟩=some (.slice (some ⟨r.ib,0,none⟩) n n):=hrd.cell (i*3+2) _ g2
  have hpt:p≠r.pb:=by
   rcases h1.own.2 with⟨e1,_⟩|⟨g',cap',cur,e1,_,e2,_⟩
   ·cases e1
   ·cases e1;exact fU e2 hs.part.blk (by decide)
  have WX:=ah (⟨hpt,fU h1.box hs.part.blk (by decide),fun e=>hnb (e▸hs.pL)⟩:p≠r.pb∧b≠r.pb∧w.heap.size≠r.pb)
  have WY:=ah (fun W (f:aj au wc W)=>Ku (fun k=>¬L1 k) [] ks c W (.slice a0 0 c0) (.slice a1 ks.len c1) (.slice a2 c.length c2) (ha1.aN f).at_ rF.out.ok rF.out.right)
  have HT1:=ah ht1
  have Np:=ah hst
  have H1:=ah h1
  have xg:=ah (fun(N:Nat→Prop) Y Y' (f:aj N Y Y') (hn:¬N p∧¬N b∧¬N w.heap.size) (hS:Y.cell? ⟨w.heap.size,0,none⟩=some (.slice a0 0 c0)∧Y.cell? ⟨w.heap.size,1,none⟩=some (.slice a1 ks.len c1)∧Y.cell? ⟨w.heap.size,2,none⟩=some (.slice a2 c.length c2)∧Y.cell? ⟨b,1,none⟩=some (.slice (some ⟨p,off,none⟩) iK.length cp)∧Y.cell? ⟨p,off+i*3+1,none⟩=some (.slice (some ⟨r.pb,0,none⟩) n n)∧Y.cell? ⟨p,off+i*3+2,none⟩=some (.slice (some ⟨r.ib,0,none⟩) n n))=>
   (⟨f.cell' hS.1 hn.2.2,f.cell' hS.2.1 hn.2.2,f.cell' hS.2.2.1 hn.2.2,f.cell' hS.2.2.2.1 hn.2.1,f.cell' hS.2.2.2.2.1 hn.1,f.cell' hS.2.2.2.2.2 hn.1⟩:Y'.cell? ⟨w.heap.size,0,none⟩=some (.slice a0 0 c0)∧Y'.cell? ⟨w.heap.size,1,none⟩=some (.slice a1 ks.len c1)∧Y'.cell? ⟨w.heap.size,2,none⟩=some (.slice a2 c.length c2)∧Y'.cell? ⟨b,1,none⟩=some (.slice (some ⟨p,off,none⟩) iK.length cp)∧Y'.cell? ⟨p,off+i*3+1,none⟩=some (.slice (some ⟨r.pb,0,none⟩) n n)∧Y'.cell? ⟨p,off+i*3+2,none⟩=some (.slice (some ⟨r.ib,0,none⟩) n n)))
  have jO:=xg.out au _ _ (aj.drew au wc) ⟨id,id,id⟩ ⟨y0,y1,y2,x1,x2,x3⟩
  have gu:=ah (aj.drew au wc)
  have HQ:=ah (⟨q0,q1,q2⟩:_∧_∧_)
  have hin:(i:Int)<(iK.length:Int):=by omega
  have hkn:(k:Int)<(n:Int):=by omega
  have Nq:=ah hi
  have Nr:=ah hr
  clear y0 y1 y2 x1 x2 x3 hrd g0 g1 g2 hs ht1 h1 hst ha1 hnb q0 q1 q2 hmx hpt hi hr
  go_wp2_with fail
  refine iZ (S:=fun Y=>Y.cell? ⟨w.heap.size,0,none⟩=some (.slice a0 0 c0)∧Y.cell? ⟨w.heap.size,1,none⟩=some (.slice a1 ks.len c1)∧Y.cell? ⟨w.heap.size,2,none⟩=some (.slice a2 c.length c2)∧Y.cell? ⟨b,1,none⟩=some (.slice (some ⟨p,off,none⟩) iK.length cp)∧Y.cell? ⟨p,off+i*3+1,none⟩=some (.slice (some ⟨r.pb,0,none⟩) n n)∧Y.cell? ⟨p,off+i*3+2,none⟩=some (.slice (some ⟨r.ib,0,none⟩) n n)) 23 (by kernel_rfl) jO ?_
  clear jO
  intro hS
  generalize World.drew wc=Y0 at*
  refine aT 0 96 rfl rfl (v:=?_) (.inl ⟨by rfl,?_⟩) ?_
  rotate_left 1
  ·(intro w hSw;(try dsimp only at hSw);go_simp;(try with_reducible rfl))
  refine aT 1 97 rfl rfl (v:=?_) (.inl ⟨by rfl,?_⟩) ?_
  rotate_left 1
  ·(intro w hSw;(try dsimp only at hSw);go_simp;(try with_reducible rfl))
  try simp only[Act.put,aP,aQ,aO]
  refine aT 2 98 rfl rfl (v:=?_) (.inl ⟨by rfl,?_⟩) ?_
  rotate_left 1
  ·(intro w hSw;(try dsimp only at hSw);go_simp;(try with_reducible rfl))
  refine aT 3 99 rfl rfl (v:=?_) (.inl ⟨by rfl,?_⟩) ?_
  rotate_left 1
  ·(intro w hSw;(try dsimp only at hSw);go_simp;(try with_reducible rfl))
  try simp only[Act.put,aP,aQ,aO]
  refine aT 4 100 rfl rfl (v:=?_) (.inl ⟨by rfl,?_⟩) ?_
  rotate_left 1
  ·(intro w hSw;(try dsimp only at hSw);go_simp;(try with_reducible rfl))
  refine aT 5 101 rfl rfl (v:=?_) (.inl ⟨by rfl,?_⟩) ?_
  rotate_left 1
  ·(intro w hSw;(try dsimp only at hSw);go_simp;(try with_reducible rfl))
  try simp only[Act.put,aP,aQ,aO]
  refine aT 6 102 rfl rfl (v:=?_) (.inl ⟨by rfl,?_⟩) ?_
  rotate_left 1
  ·(intro w hSw;(try dsimp only at hSw);go_simp;(try with_reducible rfl))
  refine aT 7 103 rfl rfl (v:=?_) (.inl ⟨by rfl,?_⟩) ?_
  rotate_left 1
  ·(intro w hSw;(try dsimp only at hSw);go_simp;(try with_reducible rfl))
  try simp only[Act.put,aP,aQ,aO]
  refine aT 8 104 rfl rfl (v:=?_) (.inl ⟨by rfl,?_⟩) ?_
  rotate_left 1
  ·(intro w hSw;(try dsimp only at hSw);go_simp;(try with_reducible rfl))
  refine aT 9 105 rfl rfl (v:=?_) (.inl ⟨by rfl,?_⟩) ?_
  rotate_left 1
  ·(intro w hSw;(try dsimp only at hSw);go_simp;(try with_reducible rfl))
  try simp only[Act.put,aP,aQ,aO]
  refine aT 10 106 rfl rfl (v:=?_) (.inl ⟨by rfl,?_⟩) ?_
  rotate_left 1
  ·(intro w hSw;(try dsimp only at hSw);go_simp;(try with_reducible rfl))
  refine aT 11 107 rfl rfl (v:=?_) (.inl ⟨by rfl,?_⟩) ?_
  rotate_left 1
  ·(intro w hSw;(try dsimp only at hSw);go_simp;(try with_reducible rfl))
  try simp only[Act.put,aP,aQ,aO]
  refine aT 12 108 rfl rfl (v:=?_) (.inl ⟨by rfl,?_⟩) ?_
  rotate_left 1
  ·(intro w hSw;(try dsimp only at hSw);go_simp;(try with_reducible rfl))
  refine aT 13 109 rfl rfl (v:=?_) (.inl ⟨by rfl,?_⟩) ?_
  rotate_left 1
  ·(intro w hSw;(try dsimp only at hSw);go_simp;(try with_reducible rfl))
  try simp only[Act.put,aP,aQ,aO]
  refine aT 14 110 rfl rfl (v:=?_) (.inl ⟨by rfl,?_⟩) ?_
  rotate_left 1
  ·(intro w hSw;(try dsimp only at hSw);go_simp;(try with_reducible rfl))
  refine aT 15 111 rfl rfl (v:=?_) (.inl ⟨by rfl,?_⟩) ?_
  rotate_left 1
  ·(intro w hSw;(try dsimp only at hSw);go_simp;(try with_reducible rfl))
  try simp only[Act.put,aP,aQ,aO]
  refine aT 16 112 rfl rfl (v:=?_) (.inl ⟨by rfl,?_⟩) ?_
  rotate_left 1
  ·(intro w hSw;(try dsimp only at hSw);go_simp;(try with_reducible rfl))
  refine aT 17 113 rfl rfl (v:=?_) (.inl ⟨by rfl,?_⟩) ?_
  rotate_left 1
  ·(intro w hSw;(try dsimp only at hSw);go_simp;(try with_reducible rfl))
  try simp only[Act.put,aP,aQ,aO]
  refine aT 18 114 rfl rfl (v:=?_) (.inl ⟨by rfl,?_⟩) ?_
  rotate_left 1
  ·(intro w hSw;(try dsimp only at hSw);go_simp;(try with_reducible rfl))
  try simp only[Act.put,aP,aQ,aO]
  refine bK (i:=19) (by kernel_rfl) rfl (fun K hK=>?_)
  go_simp
  refine(WY.out _ gu.out).mono ?_
  rintro e Y1 ⟨oU,jB,oD,rfl,hta,ho3⟩
  obtain⟨a3,c3,rfl⟩:=hta.ents.rd.sl
  obtain⟨rQ,kT,-⟩:=hta.kids
  obtain⟨a5,c5,rfl⟩:=kT.rd.sl
  obtain⟨a6,c6,rfl⟩:=ho3.shape
  have dB:=ah (gu.out.aG ho3.aI)
  have hput:=(H1.out.aN dB.out).put Nq.out hk ⟨[],ks,c,_,_,_⟩ rfl ⟨hta.turn (Q':=fun x=>¬L1 x) fun x hx hQ=>⟨rfl,fun hl=>by have:=H1.out.Ls x hl;have:=gu.out.size;omega⟩,ho3.rd,fun _ x hx hl=>by have:=ho3.new x hx;have:=H1.out.Ls x hl;have:=gu.out.size;omega⟩ rF.out Nr.out
  have xK:=ah hput;clear hput
  have hS1:=xg.out au _ _ ho3.aI ⟨id,id,id⟩ hS
  refine hK.out _ _ hS1 ?_
  clear hK K hS kT hta ho3
  have hS:=hS1
  clear hS1
  try simp only[Act.put,aP,aQ,aO]
  refine aT 20 116 rfl rfl (v:=?_) (.inl ⟨by rfl,?_⟩) ?_
  rotate_left 1
  ·(intro w hSw;(try dsimp only at hSw);go_simp;(try with_reducible rfl))
  try simp only[Act.put,aP,aQ,aO]
  refine bK (i:=21) (by kernel_rfl) rfl (fun K hK=>?_)
  have hb:=dB.out.blk eF.out.part.blk id
  have z0:=aJ hb (k*3) (by simpa using HQ.out.1)
  have z1:=aJ hb (k*3+1) (by simpa using HQ.out.2.1)
  have z2:=aJ hb (k*3+2) (by simpa using HQ.out.2.2)
  have e0:=bG hb (k*3)
  have e1:=bG hb (k*3+1)
  have e2:=bG hb (k*3+2)
  have hbl:=lt_of_block hb
  clear hb
  go_simp
  clear z0 z1 z2 e0 e1 e2 hbl
  have f3:=((aj.setCell (S:=fun x=>x=r.pb) Y1 (p:=⟨r.pb,k*3,none⟩) (.inl rfl) (.slice a3 0 c3)).trans (aj.setCell (S:=fun x=>x=r.pb) _ (p:=⟨r.pb,k*3+1,none⟩) (.inl rfl) (.slice a5 ks.len c5)) fun _ _ h=>h).trans (aj.setCell (S:=fun x=>x=r.pb) _ (p:=⟨r.pb,k*3+2,none⟩) (.inl rfl) (.slice a6 c.length c6)) fun _ _ h=>h
  have hS1:=xg.out _ _ _ f3 WX.out hS
  have hpi:r.ib≠r.pb:=(fU eF.out.part.blk eF.out.is (by decide)).symm
  have hib:=f3.blk (dB.out.blk eF.out.is id) hpi
  have iq:=ah hib;clear hib
  obtain⟨W3,hW3⟩:∃W3,W3=((Y1.setCell ⟨r.pb,k*3,none⟩ (.slice a3 0 c3)).setCell ⟨r.pb,k*3+1,none⟩ (.slice a5 ks.len c5)).setCell ⟨r.pb,k*3+2,none⟩ (.slice a6 c.length c6):=⟨_,rfl⟩
  have CB:=xK.out
  clear xK
  rw[←hW3]at hS1 iq⊢
  have Ns:=ah (show dY L1 (W3.setCell ⟨r.ib,k,none⟩ (.bool true)) b n vb _ vs _∧aj L1 Y1 (W3.setCell ⟨r.ib,k,none⟩ (.bool true)) by rw[hW3];exact CB)
  clear CB hW3 f3 hpi
  refine hK.out _ _ hS1 ?_
  clear hK K hS
  have hS:=hS1
  clear hS1
  try simp only[Act.put,aP,aQ,aO]
  refine aT 22 117 rfl rfl (v:=?_) (.inl ⟨by rfl,?_⟩) ?_
  rotate_left 1
  ·(intro w hSw;(try dsimp only at hSw);go_simp;(try with_reducible rfl))
  try simp only[Act.put,aP,aQ,aO]
  refine gQ (by kernel_rfl) (by kernel_rfl) rfl (fun K hK=>?_)
  have z0:=aJ iq.out k (u:= .bool (r.is.getD k false)) (Nk (by rw[eF.out.xI];exact hk))
  have e0:=bG iq.out k
  have hbl:=lt_of_block iq.out
  go_simp
  refine hK.out _ _ ?_
  clear hK K hS z0 e0 hbl
  go_wp2
  go_ret
  refine⟨by rw[Np.out];rfl,?_⟩
  refine⟨L1,_,_,HT1.out.trans ⟨(dB.out.mono fun _ _ h=>h.elim).trans Ns.out.2 fun _ _ h=>h,fun _ h=> .inl h⟩,Ns.out.1,?_⟩
  rw[Np.out,GI Nq.out,Nr.out,List.map_set]
  show _=List.set _ i (r_ r.con k (ks,c))
  congr 1
  unfold aW.con r_
  rw[List.map_set]
  rfl
end
open Go.RowKit
theorem Nu {x:Int} {l:List Int} (h:x∉l):iE x l=-1:=by
 rcases GH x l with⟨h1,_⟩|⟨k,hk,_,he⟩
 ·exact h1
 ·exact absurd (he▸getD_mem 0 hk) h
theorem Nv {x:Int} {l:List Int} (h:x∉l):iE x (l++ [x])=l.length:=by
 refine Md (by simp) (fun j hj e=>h ?_) ?_
 ·rw[getD_at 0 (by simp;omega),List.getElem_append_left hj]at e
  rw[←e]
  exact List.getElem_mem hj
 ·rw[getD_at 0 (by simp),List.getElem_append_right (Nat.le_refl _)]
  simp
def pX (n:Nat) (x:Int) (t:dO) (st:List iW) (j:Nat):List iW:=
 if j=0 then st else st++ [⟨x,(List.range n).map fun s:Nat=>if s<j then(bH (dA n s) t.1,t.2)else gJ,(List.range n).map fun s:Nat=>decide (s<j)⟩]
theorem WZ {α:Type} (n j:Nat) (f:Nat→α) (d:α):((List.range n).map fun s=>if s<j then f s else d).set j (f j)=(List.range n).map fun s=>if s<j+1 then f s else d:=by
 refine List.ext_getElem (by simp) fun i h1 h2=>?_
 simp only[List.getElem_map,List.getElem_range,List.getElem_set]
 by_cases e:j=i
 ·subst e;simp
 ·rw[if_neg e]
  have:(i<j+1)↔(i<j):=by omega
  simp only[this]
theorem W_ (n j:Nat):((List.range n).map fun s:Nat=>decide (s<j)).set j true=(List.range n).map fun s:Nat=>decide (s<j+1):=by
 refine List.ext_getElem (by simp) fun i h1 h2=>?_
 simp only[List.getElem_map,List.getElem_range,List.getElem_set]
 by_cases e:j=i
 ·subst e;simp
 ·rw[if_neg e]
  refine decide_eq_decide.2 ?_
  omega
theorem map_none {α:Type} (n:Nat) (f:Nat→α) (d:α):((List.range n).map fun s=>if s<0 then f s else d)=List.replicate n d:=by
 rw[←List.length_range (n:=n),←List.map_const']
 simp
theorem Xa (n:Nat):((List.range n).map fun s:Nat=>decide (s<0))=List.replicate n false:=by
 rw[←List.length_range (n:=n),←List.map_const']
 simp
theorem Xb {n j:Nat} {x:Int} {t:dO} {st:List iW} (hx:x∉st.map iW.id) (h4:st.length<4) (hj:j<n):
 tV n x j (bH (dA n j) t.1,t.2) (pX n x t st j)=(0,pX n x t st (j+1)):=by
 obtain⟨S,hS⟩:∃S:Nat→iW,S=fun j=>⟨x,(List.range n).map fun s:Nat=>if s<j then(bH (dA n s) t.1,t.2)else gJ,(List.range n).map fun s:Nat=>decide (s<j)⟩:=⟨_,rfl⟩
 have hput:∀j,r_ (S j) j (bH (dA n j) t.1,t.2)=S (j+1):=fun j=>by
  rw[hS]
  unfold r_
  simp only
  rw[WZ n j (fun s:Nat=>((bH (dA n s) t.1,t.2):dO)) gJ,W_]
 have hnew:newS n x=S 0:=by
  rw[hS]
  unfold newS
  simp only
  rw[map_none n (fun s:Nat=>((bH (dA n s) t.1,t.2):dO)) gJ,Xa]
 have hset:∀a b:iW,(st++ [a]).set st.length b=st++ [b]:=fun a b=>by
  rw[List.set_append_right _ _ (Nat.le_refl _)]
  simp
 have hnext:pX n x t st (j+1)=st++ [S (j+1)]:=by unfold pX;rw[if_neg (by omega),hS]
 by_cases h0:j=0
 ·subst h0
  have e:pX n x t st 0=st:=rfl
  rw[e,hnext]
  unfold tV
  rw[if_pos (Nu hx),if_neg (by omega),hset,hnew,hput]
 ·have e:pX n x t st j=st++ [S j]:=by unfold pX;rw[if_neg h0,hS]
  rw[e,hnext]
  have hid:(st++ [S j]).map iW.id=st.map iW.id++ [x]:=by rw[List.map_append,hS];rfl
  have hp:iE x ((st++ [S j]).map iW.id)=(st.length:Int):=by rw[hid,Nv hx,List.length_map]
  have hg:(st++ [S j]).getD st.length default=S j:=by
   rw[getD_at _ (by simp),List.getElem_append_right (Nat.le_refl _)]
   simp
  have hfl:(S j).is.getD j false=false:=by
   rw[hS]
   simp only
   rw[getD_at _ (by simpa using hj)]
   simp
  unfold tV
  rw[hp,if_neg (by omega),Int.toNat_natCast,hg,if_neg (by rw[hfl];decide),hset,hput]
open Go.RowKit
section
variable {L:Nat→Prop} {w:World} {b n vb:Nat} {sv:Value} {vs:List bD} {rs:List aW}
theorem Xc (h:dY L w b n vb sv vs rs) (x:Int):Calls Tryz.prog 38 #[.pointer (some ⟨b,0,none⟩), .int .i64 x] w fun e w'=>e= .returned (.int .i64 (iE x (rs.map aW.id)))∧aj au w w':=by
 have:=BZ x (rs.map (aW.q n)) b w sv h.rd zG (by rw[List.length_map];have:=h.few;omega) h.pR
 rwa [Gy]at this
end
end Go.Proofs.YtlhmbkjdfjoilaaGreat
