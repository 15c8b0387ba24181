/- Words for the law ShardFull: Sh25, ShFullW. -/
import Derived.Test.YtlhmbkjdfjoilaaGreatShSetG0
import Derived.Test.YtlhmbkjdfjoilaaGreatShSetG22
import Derived.Test.YtlhmbkjdfjoilaaGreatShSetG23
set_option linter.unusedSimpArgs false
set_option linter.unusedVariables false
set_option maxHeartbeats 32000000
set_option maxRecDepth 1000000
namespace Go.Proofs.YtlhmbkjdfjoilaaGreat
open Go.RowKit
def fI (x0 x1 x2 x3 x4:Int) (i:Nat):Int:=[x0,x1,x2,x3,x4].getD i 0
theorem Yz (x0 x1 x2 x3 x4:Int):∀i,i<5→ #[Value.int .i64 x0, .int .i64 x1, .int .i64 x2, .int .i64 x3, .int .i64 x4][i]?=some (.int .i64 (fI x0 x1 x2 x3 x4 i))
 |0,_=>rfl
 |1,_=>rfl
 |2,_=>rfl
 |3,_=>rfl
 |4,_=>rfl
theorem YA {n:Nat} {x:Int} {k:Nat} {t:dG} {st:List gu} (hx:x∉st.map gu.id) (h4:st.length<4):∃st',pK n x k t st=(0,st')∧st'.map gu.id=st.map gu.id++ [x]:=by
 refine⟨(st++ [newS n x]).set st.length (qJ (newS n x) k t),?_,?_⟩
 ·unfold pK
  rw[if_pos (LH hx),if_neg (by omega)]
 ·rw[List.set_append_right _ _ (Nat.le_refl _)]
  simp[qJ,newS]
theorem YB {n:Nat} {x:Int} {k:Nat} {t:dG} {st:List gu} (hx:x∉st.map gu.id) (h4:4≤st.length):pK n x k t st=(4,st):=by
 unfold pK
 rw[if_pos (LH hx),if_pos h4]
theorem Yg {rs:List aW} {st:List gu} (h:rs.map aW.con=st):rs.map aW.id=st.map gu.id:=by rw[←h,qK]
theorem Yk {f:Nat→Int} {k:Nat} (h:∀i,i<k→f i≠f k):f k∉(List.range k).map f:=fun hm=>by
 obtain⟨i,hi,e⟩:=List.mem_map.1 hm
 exact h i (List.mem_range.1 hi) e
theorem YC (w:World) (x0 x1 x2 x3 x4:Int) (s:Int) (hs:0≤s∧s≤255) (d:Int) (hd:0≤d∧d≤255):
 Calls Tryz.prog 6 #[.agg #[.int .i64 x0, .int .i64 x1, .int .i64 x2, .int .i64 x3, .int .i64 x4], .int .u8 s, .int .u8 d] w fun e w'=>e= .returned (.bool true)∧aj (fun _=>False) w w':=by
 have HA:=ah MB
 have Yl:=ah (Yz x0 x1 x2 x3 x4)
 have HB:=ah (heap_alloc_new w (.cells #[.int .i64 x0, .int .i64 x1, .int .i64 x2, .int .i64 x3, .int .i64 x4] 57))
 have fM:=ah (aj.alloc au w (.cells #[.int .i64 x0, .int .i64 x1, .int .i64 x2, .int .i64 x3, .int .i64 x4] 57))
 obtain⟨f,hf⟩:∃f,f=fI x0 x1 x2 x3 x4:=⟨_,rfl⟩
 rw[←hf]at Yl
 clear hf
 obtain⟨hn1,hn4⟩:=WS s
 have HN:=ah (fun W=>(show Calls Tryz.prog 14 #[.int .i64 (1+s%4)] W fun e w'=>e= .returned (.tuple #[.pointer (some ⟨W.heap.size+1,0,none⟩), .int .i64 0])∧
  cZ (newL W) w' (W.heap.size+1) (oG s) W.heap.size (.slice none 0 0) (je (oG s)) []∧(je (oG s)).map aU.g=gX (oG s) eU∧aj au W w' from by have:=LX (oG s) hn1 hn4 W;rwa [WR]at this))
 generalize oG s=n at*
 have Ee:=ah (fun(W:World) (hb:W.heap[w.heap.size]?=some (.cells #[.int .i64 x0, .int .i64 x1, .int .i64 x2, .int .i64 x3, .int .i64 x4] 57 (0,0))) i (hi:i<5)=>aI hb i (Yl.out i hi))
 go_enter Tryz.func6,Tryz.ntmps6
 go_upto_region 3 with(go_at_call 9;refine(HA.out _).mono ?_;rintro e w1 ⟨rfl,hf1⟩;have bQ:=ah (fM.out.aF hf1);have HB1:=ah (hf1.blk HB.out id);clear hf1)
 go_wp2
 go_loopw [14] (fun iv W=>∃k:Nat,k≤5∧iv= .int .i64 k∧(∀j,j<k→∀i,i<j→f i≠f j)∧aj au w W∧W.heap[w.heap.size]?=some (.cells #[.int .i64 x0, .int .i64 x1, .int .i64 x2, .int .i64 x3, .int .i64 x4] 57 (0,0))) (fun iv _=>5-(intOf iv).toNat)
 case atStart=>exact⟨0,by omega,rfl,fun j hj=>by omega,bQ.out,HB1.out⟩
 case round=>
  obtain⟨k,hk,rfl,hall,hfw,hbk⟩:=hrel
  have wW:=ah hall
  have gq:=ah hfw
  have gK:=ah hbk
  clear hall hfw hbk
  by_cases hlt:k<5
  ·have hk5:(k:Int)<5:=by omega
   go_wp2
   go_loopw [18] (fun iv W=>∃i:Nat,i≤k∧iv= .int .i64 i∧(∀j,j<i→f j≠f k)∧aj au w W∧W.heap[w.heap.size]?=some (.cells #[.int .i64 x0, .int .i64 x1, .int .i64 x2, .int .i64 x3, .int .i64 x4] 57 (0,0))) (fun iv _=>k-(intOf iv).toNat)
   case atStart=>exact⟨0,Nat.zero_le _,rfl,fun j hj=>by omega,gq.out,gK.out⟩
   case round=>
    rename_i YS
    obtain⟨i,hi,rfl,hin,hfv,hbv⟩:=hrel
    have t_:=ah hin
    have Yh:=ah hfv
    clear hin hfv
    by_cases hil:i<k
    ·have hik:(i:Int)<(k:Int):=by omega
     obtain⟨α,hne,K,hK1,hK0,hK2⟩:=worlds wr
     have eY:=ah hK1
     have YD:=ah (fun t=>(hK1 t).blk hbv id)
     have y0:∀t,(K t).cell? ⟨w.heap.size,i,none⟩=some (.int .i64 (f i)):=fun t=>Ee.out _ ((hK1 t).blk hbv id) i (by omega)
     have y1:∀t,(K t).cell? ⟨w.heap.size,k,none⟩=some (.int .i64 (f k)):=fun t=>Ee.out _ ((hK1 t).blk hbv id) k (by omega)
     have lC:=ah (fun(hx:f i≠f k) j (hj:j<i+1)=>(show f j≠f k from by
      rcases Nat.lt_or_ge j i with h1|h1
      ·exact t_.out j h1
      ·obtain rfl:j=i:=by omega
       exact hx))
     clear hK1 hbv
     generalize f i=u at*
     generalize f k=v at*
     by_cases huv:u=v
     ·subst huv
      go_upto_region 9 with fail
      refine dA K (by kernel_rfl) (by kernel_rfl) hK0 ?_
      repeat(go_big_quiet_step (fail))
      refine wpQuiet_nil ?_
      intro w' hw'
      obtain⟨t,rfl⟩:=hw'
      go_wp2
      go_ret
      exact⟨rfl,Yh.out.aF (eY.out t)⟩
     ·have YT:(u==v)=false:=by simpa using huv
      go_upto_region 9 with fail
      refine dA K (by kernel_rfl) (by kernel_rfl) hK0 ?_
      repeat(go_big_quiet_step (fail))
      refine wpQuiet_nil ?_
      intro w' hw'
      obtain⟨t,rfl⟩:=hw'
      go_wp2
      go_roundw
      case rel=>exact⟨i+1,by omega,by go_num,lC.out huv,Yh.out.aF (eY.out t),YD.out t⟩
      case measure=>simp[intOf];omega
    ·obtain rfl:i=k:=by omega
     go_wp2
     go_roundw
     case rel=>
      refine⟨i+1,by omega,by go_num,fun j hj=>?_,Yh.out,hbv⟩
      rcases Nat.lt_or_ge j i with h1|h1
      ·exact wW.out j h1
      ·obtain rfl:j=i:=by omega
       exact t_.out
     case measure=>simp[intOf];omega
  ·obtain rfl:k=5:=by omega
   go_upto_region 14 with(go_at_call 14;refine(HN.out _).mono ?_;rintro e w5 ⟨rfl,hst,hv,hf5⟩;have HST:=ah hst;have HV:=ah hv;have Fb:=ah (gq.out.aF hf5);have TK:=ah (hf5.blk gK.out id);clear hst hv hf5)
   have jd:=ah (fun i j (h1:i<j) (h2:j<5)=>wW.out j h2 i h1)
   clear hlt hk wW
   obtain⟨b,hb⟩:∃b,b=wr.heap.size+1:=⟨_,rfl⟩
   rw[←hb]at HST⊢
   have Ym:=ah (fun i (hi:newL wr i)=>(show w.heap.size<i from by have hi:i=wr.heap.size+1:=hi;have:=lt_of_block gK.out;omega))
   clear hb
   go_wp2
   go_loopw [40] (fun iv W=>∃(k:Nat) (L1:Nat→Prop) (sv:Value) (vs:List aU) (vb:Nat) (rs:List aW),k≤4∧iv= .int .i64 k∧aj au w W∧W.heap[w.heap.size]?=some (.cells #[.int .i64 x0, .int .i64 x1, .int .i64 x2, .int .i64 x3, .int .i64 x4] 57 (0,0))∧(∀i,L1 i→w.heap.size<i)∧cZ L1 W b n vb sv vs rs∧vs.map aU.g=gX n eU∧rs.map aW.id=(List.range k).map f) (fun iv _=>4-(intOf iv).toNat)
   case atStart=>exact⟨0,_,_,_,_,[],Nat.zero_le _,rfl,Fb.out,TK.out,Ym.out,HST.out,HV.out,rfl⟩
   case round=>
    clear HST HV Fb TK Ym
    obtain⟨k,L1,sv,vs,vb,rs,hk,rfl,hfw,hbk,hL1,hst,hv,Yn⟩:=hrel
    have HF:=ah hfw
    have Jj:=ah hbk
    have jK:=ah hL1
    have JI:=ah hst
    have WX:=ah hv
    have Yf:=ah Yn
    clear hfw hbk hL1 hst hv Yn
    have hlen:rs.length=k:=by have:=congrArg List.length Yf.out;simpa using this
    by_cases hlt:k<4
    ·have hk5:(k:Int)<4:=by omega
     have y0:=Ee.out _ Jj.out k (by omega)
     have hb0:=World.block_lt_of_cell? _ _ y0
     have hnm:f k∉(rs.map aW.con).map gu.id:=by rw[qK,Yf.out];exact Yk fun i hi=>jd.out i k hi (by omega)
     obtain⟨st',hst',Yo⟩:=YA (n:=n) (k:=0) (t:=eU) hnm (by rw[List.length_map];omega)
     have hsg:=Lm JI.out (f k) 0 (by omega) .nil [] (.slice none 0 0) (.slice none 0 0) (.slice none 0 0) (MS _ _) EG rfl
     have hst2:pK n (f k) 0 (aH.nil,[]) (rs.map aW.con)=(0,st'):=hst'
     rw[hst2]at hsg
     have YE:=ah (show Calls Tryz.prog 18 #[.pointer (some ⟨b,0,none⟩), .int .i64 (f k), .int .i64 0, .agg #[.slice none 0 0, .slice none 0 0, .slice none 0 0]] wr fun e w'=>e= .returned (.int .i64 0)∧∃L' sv' rs',Turned L1 wr L' w'∧cZ L' w' b n vb sv' vs rs'∧rs'.map aW.con=st' from hsg)
     have YF:=ah (show st'.map gu.id=(List.range (k+1)).map f by rw[Yo,qK,Yf.out,List.range_succ,List.map_append];rfl)
     clear hnm hst' Yo hsg hst2
     generalize f k=u at*
     go_wp2_with(go_at_call 18;refine YE.out.mono ?_;rintro e w6 ⟨rfl,L2,Xb,Xd,ht2,hst2,Na⟩;have HT2:=ah ht2;have HS2:=ah hst2;have HC2:=ah Na;clear y0 hb0 ht2 hst2 Na)
     go_roundw
     case rel=>
      refine⟨k+1,L2,Xb,vs,vb,Xd,by omega,by go_num,HF.out.trans HT2.out.aJ fun i hi e=>(by have:=jK.out i e;omega),HT2.out.aJ.blk Jj.out fun e=>(by have:=jK.out _ e;omega),fun i hi=>?_,HS2.out,WX.out,?_⟩
      ·rcases HT2.out.own i hi with g|g
       ·exact jK.out i g
       ·have:=lt_of_block Jj.out;omega
      ·rw[Yg HC2.out,YF.out]
     case measure=>simp[intOf];omega
    ·obtain rfl:k=4:=by omega
     obtain⟨m,hm,hm4⟩:∃m:Nat,d%4=(m:Int)∧m<4:=⟨(d%4).toNat,by omega,by omega⟩
     have hn4:f 4∉rs.map aW.id:=by rw[Yf.out];exact Yk fun i hi=>jd.out i 4 hi (by omega)
     have Yp:=ah hn4
     have YG:=ah (YB (n:=n) (x:=f 4) (k:=0) (t:=eU) (st:=rs.map aW.con) (by rw[qK];exact hn4) (by rw[List.length_map];omega))
     have hpm:fA (f m) (rs.map aW.id)=(m:Int):=by
      rw[Yf.out]
      refine JV (by simpa using hm4) (fun j hj=>?_) ?_
      ·rw[getD_at 0 (by simp;omega)]
       simp only[List.getElem_map,List.getElem_range]
       exact jd.out j m hj (by omega)
      ·rw[getD_at 0 (by simp;omega)]
       simp
     have ET:=ah hpm
     have Hu:=ah hlen
     have Yq:=ah hm4
     clear hn4 hpm hlen hlt hk
     have jq:=ah (LH Yp.out)
     have hbx:=Jj.out
     have lN:(World.drew wr).cell? ⟨w.heap.size,4,none⟩=some (.int .i64 (f 4)):=Ee.out (World.drew wr) hbx 4 (by decide)
     have dM:=ah (aj.drew au wr)
     clear hbx
     go_upto_region 22 with fail
     refine iY (S:=fun Y=>Y.cell? ⟨w.heap.size,4,none⟩=some (.int .i64 (f 4))) 21 (by kernel_rfl) lN ?_
     clear lN
     intro hS
     generalize World.drew wr=Y0 at*
     refine dZ 0 51 (v:=?_) rfl rfl (by kernel_rfl) (by rfl) (by kernel_rfl) (by kernel_rfl) (fun _ _ _ h=>h) (Or.inl ⟨by rfl,?_⟩) (by assumption) ?_
     rotate_left 1
     ·(intro w hSw;(try dsimp only at hSw);go_simp;(try with_reducible rfl))
     try simp only[Act.put,aP,aQ,aO]
     refine dZ 1 52 (v:=?_) rfl rfl (by kernel_rfl) (by rfl) (by kernel_rfl) (by kernel_rfl) (fun _ _ _ h=>h) (Or.inl ⟨by rfl,?_⟩) (by assumption) ?_
     rotate_left 1
     ·(intro w hSw;(try dsimp only at hSw);go_simp;(try with_reducible rfl))
     try simp only[Act.put,aP,aQ,aO]
     refine dZ 2 53 (v:=?_) rfl rfl (by kernel_rfl) (by rfl) (by kernel_rfl) (by kernel_rfl) (fun _ _ _ h=>h) (Or.inl ⟨by rfl,?_⟩) (by assumption) ?_
     rotate_left 1
     ·(intro w hSw;(try dsimp only at hSw);go_simp;(try with_reducible rfl))
     try simp only[Act.put,aP,aQ,aO]
     refine dZ 3 54 (v:=?_) rfl rfl (by kernel_rfl) (by rfl) (by kernel_rfl) (by kernel_rfl) (fun _ _ _ h=>h) (Or.inl ⟨by rfl,?_⟩) (by assumption) ?_
     rotate_left 1
     ·(intro w hSw;(try dsimp only at hSw);go_simp;(try with_reducible rfl))
     try simp only[Act.put,aP,aQ,aO]
     refine bP (i:=4) (by kernel_rfl) rfl (fun K hK=>?_)
     go_simp
     have hsg:=Lm (JI.out.aN dM.out) (f 4) 0 (by omega) .nil [] (.slice none 0 0) (.slice none 0 0) (.slice none 0 0) (MS _ _) EG rfl
     have hst2:pK n (f 4) 0 (aH.nil,[]) (rs.map aW.con)=(4,rs.map aW.con):=YG.out
     rw[hst2]at hsg
     refine(show Calls Tryz.prog 18 #[.pointer (some ⟨b,0,none⟩), .int .i64 (f 4), .int .i64 0, .agg #[.slice none 0 0, .slice none 0 0, .slice none 0 0]] Y0 fun e w'=>e= .returned (.int .i64 4)∧∃L' sv' rs',Turned L1 Y0 L' w'∧cZ L' w' b n vb sv' vs rs'∧rs'.map aW.con=rs.map aW.con from hsg).mono ?_
     clear hsg hst2
     rintro e Y1 ⟨rfl,L2,Xb,Xd,ht2,hst2,Na⟩
     have YH:=ah ((HF.out.aF dM.out).trans ht2.aJ fun i hi e=>by have:=jK.out i e;omega)
     have mG:=ah (ht2.aJ.blk (dM.out.blk Jj.out id) fun e=>by have:=jK.out _ e;omega)
     have HL2:=ah (fun i (hi:L2 i)=>(show w.heap.size<i from(ht2.own i hi).elim (fun g=>jK.out i g) fun g=>by have:=lt_of_block (dM.out.blk Jj.out id);omega))
     have HS2:=ah hst2
     have HC2:=ah Na
     have hS1:=Ee.out Y1 mG.out 4 (by decide)
     refine hK.out _ _ hS1 ?_
     clear hK K hS ht2 hst2 Na dM
     have hS:=hS1
     clear hS1
     try simp only[Act.put,aP,aQ,aO]
     refine dZ 5 56 (v:=?_) rfl rfl (by kernel_rfl) (by rfl) (by kernel_rfl) (by kernel_rfl) (fun _ _ _ h=>h) (Or.inl ⟨by rfl,?_⟩) (by assumption) ?_
     rotate_left 1
     ·(intro w hSw;(try dsimp only at hSw);go_simp;(try with_reducible rfl))
     try simp only[Act.put,aP,aQ,aO]
     refine dZ 6 57 (v:=?_) rfl rfl (by kernel_rfl) (by rfl) (by kernel_rfl) (by kernel_rfl) (fun _ _ _ h=>h) (Or.inl ⟨by rfl,?_⟩) (by assumption) ?_
     rotate_left 1
     ·(intro w hSw;(try dsimp only at hSw);go_simp;(try with_reducible rfl))
     try simp only[Act.put,aP,aQ,aO]
     refine dZ 7 58 (v:=?_) rfl rfl (by kernel_rfl) (by rfl) (by kernel_rfl) (by kernel_rfl) (fun _ _ _ h=>h) (Or.inl ⟨by rfl,?_⟩) (by assumption) ?_
     rotate_left 1
     ·(intro w hSw;(try dsimp only at hSw);go_simp;(try with_reducible rfl))
     try simp only[Act.put,aP,aQ,aO]
     refine dZ 8 59 (v:=?_) rfl rfl (by kernel_rfl) (by rfl) (by kernel_rfl) (by kernel_rfl) (fun _ _ _ h=>h) (Or.inl ⟨by rfl,?_⟩) (by assumption) ?_
     rotate_left 1
     ·(intro w hSw;(try dsimp only at hSw);go_simp;(try with_reducible rfl))
     try simp only[Act.put,aP,aQ,aO]
     refine dZ 9 60 (v:=?_) rfl rfl (by kernel_rfl) (by rfl) (by kernel_rfl) (by kernel_rfl) (fun _ _ _ h=>h) (Or.inl ⟨by rfl,?_⟩) (by assumption) ?_
     rotate_left 1
     ·(intro w hSw;(try dsimp only at hSw);go_simp;(try with_reducible rfl))
     try simp only[Act.put,aP,aQ,aO]
     refine bP (i:=10) (by kernel_rfl) rfl (fun K hK=>?_)
     go_simp
     refine(one_any Y1).mono ?_
     rintro e Y2 ⟨VX,Hw,rfl,hc2,hf2⟩
     obtain⟨a2,c2,a3,c3,rfl,rfl⟩:=AP hc2
     have HF2:=ah hf2
     have sN:=ah (show fE (fun i=>¬L2 i) Y2 _ from hc2.turn fun i hi hQ=>⟨rfl,fun hl=>by have:=HS2.out.Ls i hl;omega⟩)
     have hS1:=hf2.cell' hS id
     refine hK.out _ _ hS1 ?_
     clear hK K hS hc2 hf2
     have hS:=hS1
     clear hS1
     try simp only[Act.put,aP,aQ,aO]
     refine bP (i:=11) (by kernel_rfl) rfl (fun K hK=>?_)
     go_simp
     refine(VG (HS2.out.aN HF2.out) (f 4) ug pU _ _ _ sN.out AL (by rw[Yg HC2.out,qK];exact jq.out) (by have:=congrArg List.length HC2.out;simp only[List.length_map]at this;have:=Hu.out;omega)).mono ?_
     rintro e Y3 ⟨rfl,L3,YU,YI,ht3,hst3,Yr⟩
     have HF3:=ah ((YH.out.aF HF2.out).trans ht3.aJ fun i hi e=>by have:=HL2.out i e;omega)
     have HB3:=ah (ht3.aJ.blk (HF2.out.blk mG.out id) fun e=>by have:=HL2.out _ e;omega)
     have nH:=ah (fun i (hi:L3 i)=>(show w.heap.size<i from(ht3.own i hi).elim (fun g=>HL2.out i g) fun g=>by have:=lt_of_block (HF2.out.blk mG.out id);omega))
     have Lp:=ah hst3
     have VW:=ah (Yr.trans HC2.out)
     have hS1:=Ee.out Y3 HB3.out 4 (by decide)
     refine hK.out _ _ hS1 ?_
     clear hK K hS ht3 hst3 Yr sN
     have hS:=hS1
     clear hS1
     try simp only[Act.put,aP,aQ,aO]
     refine dZ 12 63 (v:=?_) rfl rfl (by kernel_rfl) (by rfl) (by kernel_rfl) (by kernel_rfl) (fun _ _ _ h=>h) (Or.inl ⟨by rfl,?_⟩) (by assumption) ?_
     rotate_left 1
     ·(intro w hSw;(try dsimp only at hSw);go_simp;(try with_reducible rfl))
     try simp only[Act.put,aP,aQ,aO]
     refine dZ 13 64 (v:=?_) rfl rfl (by kernel_rfl) (by rfl) (by kernel_rfl) (by kernel_rfl) (fun _ _ _ h=>h) (Or.inl ⟨by rfl,?_⟩) (by assumption) ?_
     rotate_left 1
     ·(intro w hSw;(try dsimp only at hSw);go_simp;(try with_reducible rfl))
     try simp only[Act.put,aP,aQ,aO]
     refine dZ 14 65 (v:=?_) rfl rfl (by kernel_rfl) (by rfl) (by kernel_rfl) (by kernel_rfl) (fun _ _ _ h=>h) (Or.inl ⟨by rfl,?_⟩) (by assumption) ?_
     rotate_left 1
     ·(intro w hSw;(try dsimp only at hSw);go_simp;(try with_reducible rfl))
     try simp only[Act.put,aP,aQ,aO]
     refine dZ 15 66 (v:=?_) rfl rfl (by kernel_rfl) (by rfl) (by kernel_rfl) (by kernel_rfl) (fun _ _ _ h=>h) (Or.inl ⟨by rfl,?_⟩) (by assumption) ?_
     rotate_left 1
     ·(intro w hSw;(try dsimp only at hSw);go_simp;(try with_reducible rfl))
     try simp only[Act.put,aP,aQ,aO]
     refine dZ 17 68 (v:=?_) rfl rfl (by kernel_rfl) (by rfl) (by kernel_rfl) (by kernel_rfl) (fun _ _ _ h=>h) (Or.inl ⟨by rfl,?_⟩) (by assumption) ?_
     rotate_left 1
     ·(intro w hSw;(try dsimp only at hSw);go_simp;(try with_reducible rfl))
     try simp only[Act.put,aP,aQ,aO]
     refine bP (i:=16) (by kernel_rfl) rfl (fun K hK=>?_)
     go_simp
     refine(LV Lp.out eU (Ak EG) WX.out).mono ?_
     rintro e Y4 ⟨XO,XP,rfl,hc4,hf4⟩
     obtain⟨a4,c4,a5,c5,rfl,rfl⟩:=AP hc4
     have Yt:=ah hc4
     have jM:=ah hf4
     have hS1:=hf4.cell' hS id
     refine hK.out _ _ hS1 ?_
     clear hK K hS hc4 hf4
     have hS:=hS1
     clear hS1
     try simp only[Act.put,aP,aQ,aO]
     refine bP (i:=18) (by kernel_rfl) rfl (fun K hK=>?_)
     go_simp
     refine(Fa _ _ eU.1 eU.2 _ _ _ _ _ EG Yt.out _ (MS (fun _=>True) Y4)).mono ?_
     rintro e Y5 ⟨rfl,hf5⟩
     have Fb:=ah (jM.out.aF hf5)
     have hS1:=hf5.cell' hS id
     refine hK.out _ _ hS1 ?_
     clear hK K hS hf5 Yt
     have hS:=hS1
     clear hS1
     try simp only[Act.put,aP,aQ,aO]
     refine dZ 19 70 (v:=?_) rfl rfl (by kernel_rfl) (by rfl) (by kernel_rfl) (by kernel_rfl) (fun _ _ _ h=>h) (Or.inl ⟨by rfl,?_⟩) (by assumption) ?_
     rotate_left 1
     ·(intro w hSw;(try dsimp only at hSw);go_simp;(try with_reducible rfl))
     try simp only[Act.put,aP,aQ,aO]
     refine bP (i:=20) (by kernel_rfl) rfl (fun K hK=>?_)
     go_simp
     refine hK.out _ _ hS ?_
     clear hK K
     refine EP (by kernel_rfl) ?_
     go_upto_region 24 with fail
     have YV:=ah (HF3.out.aF Fb.out)
     have HH0:=ah (Fb.out.blk HB3.out id)
     have Ey:=ah (Fb.out.aF (aj.drew au Y5))
     have hbz:=HH0.out
     have lN:(World.drew Y5).cell? ⟨w.heap.size,4,none⟩=some (.int .i64 (f 4))∧(World.drew Y5).cell? ⟨w.heap.size,m,none⟩=some (.int .i64 (f m)):=⟨Ee.out (World.drew Y5) hbz 4 (by decide),Ee.out (World.drew Y5) hbz m (by have:=Yq.out;omega)⟩
     clear hS hbz
     refine iY (S:=fun Y=>Y.cell? ⟨w.heap.size,4,none⟩=some (.int .i64 (f 4))∧Y.cell? ⟨w.heap.size,m,none⟩=some (.int .i64 (f m))) 21 (by kernel_rfl) lN ?_
     clear lN
     intro hS
     generalize World.drew Y5=Z0 at*
     have IG:=Yq.out
     have YW:d.tmod 4=(m:Int):=by rw[Int.tmod_eq_emod_of_nonneg hd.1];exact hm
     have YX:(m:Int)<5:=by omega
     clear hm
     refine dZ 0 72 (v:=?_) rfl rfl (by kernel_rfl) (by rfl) (by kernel_rfl) (by kernel_rfl) (fun _ _ _ h=>h) (Or.inl ⟨by rfl,?_⟩) (by assumption) ?_
     rotate_left 1
     ·(intro w hSw;(try dsimp only at hSw);go_simp;(try with_reducible rfl))
     try simp only[Act.put,aP,aQ,aO]
     refine dZ 1 73 (v:=?_) rfl rfl (by kernel_rfl) (by rfl) (by kernel_rfl) (by kernel_rfl) (fun _ _ _ h=>h) (Or.inl ⟨by rfl,?_⟩) (by assumption) ?_
     rotate_left 1
     ·(intro w hSw;(try dsimp only at hSw);go_simp;(try with_reducible rfl))
     try simp only[Act.put,aP,aQ,aO]
     refine dZ 2 74 (v:=?_) rfl rfl (by kernel_rfl) (by rfl) (by kernel_rfl) (by kernel_rfl) (fun _ _ _ h=>h) (Or.inl ⟨by rfl,?_⟩) (by assumption) ?_
     rotate_left 1
     ·(intro w hSw;(try dsimp only at hSw);go_simp;(try with_reducible rfl))
     try simp only[Act.put,aP,aQ,aO]
     refine dZ 3 75 (v:=?_) rfl rfl (by kernel_rfl) (by rfl) (by kernel_rfl) (by kernel_rfl) (fun _ _ _ h=>h) (Or.inl ⟨by rfl,?_⟩) (by assumption) ?_
     rotate_left 1
     ·(intro w hSw;(try dsimp only at hSw);go_simp;(try with_reducible rfl))
     try simp only[Act.put,aP,aQ,aO]
     refine dZ 4 76 (v:=?_) rfl rfl (by kernel_rfl) (by rfl) (by kernel_rfl) (by kernel_rfl) (fun _ _ _ h=>h) (Or.inl ⟨by rfl,?_⟩) (by assumption) ?_
     rotate_left 1
     ·(intro w hSw;(try dsimp only at hSw);go_simp;(try with_reducible rfl))
     try simp only[Act.put,aP,aQ,aO]
     refine bP (i:=5) (by kernel_rfl) rfl (fun K hK=>?_)
     go_simp
     refine(UJ (f m) (Lp.out.aN Ey.out) m (by have:=congrArg List.length VW.out;simp only[List.length_map]at this;have:=Hu.out;omega) (by rw[Yg VW.out,qK];exact ET.out)).mono ?_
     rintro e Z1 ⟨rfl,hf1,YZ,Yu⟩
     have U_:=ah ((HF3.out.aF Ey.out).trans hf1 fun i hi e=>by have:=nH.out i e;omega)
     have Yi:=ah (hf1.blk (Ey.out.blk HB3.out id) fun e=>by have:=nH.out _ e;omega)
     have Yv:=ah Yu
     have hS1:Z1.cell? ⟨w.heap.size,4,none⟩=some (.int .i64 (f 4))∧Z1.cell? ⟨w.heap.size,m,none⟩=some (.int .i64 (f m)):=⟨Ee.out Z1 Yi.out 4 (by decide),Ee.out Z1 Yi.out m (by omega)⟩
     refine hK.out _ _ hS1 ?_
     clear hK K hS hf1 Yu Ey
     have hS:=hS1
     clear hS1
     try simp only[Act.put,aP,aQ,aO]
     refine dZ 6 78 (v:=?_) rfl rfl (by kernel_rfl) (by rfl) (by kernel_rfl) (by kernel_rfl) (fun _ _ _ h=>h) (Or.inl ⟨by rfl,?_⟩) (by assumption) ?_
     rotate_left 1
     ·(intro w hSw;(try dsimp only at hSw);go_simp;(try with_reducible rfl))
     try simp only[Act.put,aP,aQ,aO]
     refine dZ 7 79 (v:=?_) rfl rfl (by kernel_rfl) (by rfl) (by kernel_rfl) (by kernel_rfl) (fun _ _ _ h=>h) (Or.inl ⟨by rfl,?_⟩) (by assumption) ?_
     rotate_left 1
     ·(intro w hSw;(try dsimp only at hSw);go_simp;(try with_reducible rfl))
     try simp only[Act.put,aP,aQ,aO]
     refine dZ 8 80 (v:=?_) rfl rfl (by kernel_rfl) (by rfl) (by kernel_rfl) (by kernel_rfl) (fun _ _ _ h=>h) (Or.inl ⟨by rfl,?_⟩) (by assumption) ?_
     rotate_left 1
     ·(intro w hSw;(try dsimp only at hSw);go_simp;(try with_reducible rfl))
     try simp only[Act.put,aP,aQ,aO]
     refine dZ 9 81 (v:=?_) rfl rfl (by kernel_rfl) (by rfl) (by kernel_rfl) (by kernel_rfl) (fun _ _ _ h=>h) (Or.inl ⟨by rfl,?_⟩) (by assumption) ?_
     rotate_left 1
     ·(intro w hSw;(try dsimp only at hSw);go_simp;(try with_reducible rfl))
     try simp only[Act.put,aP,aQ,aO]
     refine bP (i:=10) (by kernel_rfl) rfl (fun K hK=>?_)
     go_simp
     refine(one_any Z1).mono ?_
     rintro e Z2 ⟨VX,Hw,rfl,hc2,hf2⟩
     obtain⟨b2,e2,b3,e3,rfl,rfl⟩:=AP hc2
     have HG2:=ah hf2
     have HD3:=ah (show fE (fun i=>¬L3 i) Z2 _ from hc2.turn fun i hi hQ=>⟨rfl,fun hl=>by have:=Yv.out.Ls i hl;omega⟩)
     have hS1:Z2.cell? ⟨w.heap.size,4,none⟩=some (.int .i64 (f 4))∧Z2.cell? ⟨w.heap.size,m,none⟩=some (.int .i64 (f m)):=⟨hf2.cell' hS.1 id,hf2.cell' hS.2 id⟩
     refine hK.out _ _ hS1 ?_
     clear hK K hS hc2 hf2
     have hS:=hS1
     clear hS1
     try simp only[Act.put,aP,aQ,aO]
     refine bP (i:=11) (by kernel_rfl) rfl (fun K hK=>?_)
     go_simp
     refine(LW (Yv.out.aN HG2.out) (f 4) eU EG WX.out ug pU _ _ _ HD3.out AL (LH fun hm=>Yp.out (by rw[←qK,←VW.out,qK];exact((List.eraseIdx_sublist YI m).map aW.id).subset hm)) (by have:=congrArg List.length VW.out;simp only[List.length_map]at this;have:=Hu.out;rw[List.length_eraseIdx_of_lt (by omega)];omega) Me.1 Me.2).mono ?_
     rintro e Z3 ⟨rfl,L5,Y_,Za,Zb,Zc,Yj,hst5,YJ,hv5⟩
     rw[VU]at hv5
     have YK:=ah ((U_.out.aF HG2.out).trans Yj.aJ fun i hi e=>by have:=nH.out i e;omega)
     have Yw:=ah (Yj.aJ.blk (HG2.out.blk Yi.out id) fun e=>by have:=nH.out _ e;omega)
     have ql:=ah (LV hst5 oneG (Ak AL) hv5)
     have hS1:Z3.cell? ⟨w.heap.size,4,none⟩=some (.int .i64 (f 4))∧Z3.cell? ⟨w.heap.size,m,none⟩=some (.int .i64 (f m)):=⟨Ee.out Z3 Yw.out 4 (by decide),Ee.out Z3 Yw.out m (by omega)⟩
     refine hK.out _ _ hS1 ?_
     clear hK K hS Yj hst5 YJ hv5 HD3
     have hS:=hS1
     clear hS1
     try simp only[Act.put,aP,aQ,aO]
     refine dZ 12 84 (v:=?_) rfl rfl (by kernel_rfl) (by rfl) (by kernel_rfl) (by kernel_rfl) (fun _ _ _ h=>h) (Or.inl ⟨by rfl,?_⟩) (by assumption) ?_
     rotate_left 1
     ·(intro w hSw;(try dsimp only at hSw);go_simp;(try with_reducible rfl))
     try simp only[Act.put,aP,aQ,aO]
     refine dZ 13 85 (v:=?_) rfl rfl (by kernel_rfl) (by rfl) (by kernel_rfl) (by kernel_rfl) (fun _ _ _ h=>h) (Or.inl ⟨by rfl,?_⟩) (by assumption) ?_
     rotate_left 1
     ·(intro w hSw;(try dsimp only at hSw);go_simp;(try with_reducible rfl))
     try simp only[Act.put,aP,aQ,aO]
     refine dZ 14 86 (v:=?_) rfl rfl (by kernel_rfl) (by rfl) (by kernel_rfl) (by kernel_rfl) (fun _ _ _ h=>h) (Or.inl ⟨by rfl,?_⟩) (by assumption) ?_
     rotate_left 1
     ·(intro w hSw;(try dsimp only at hSw);go_simp;(try with_reducible rfl))
     try simp only[Act.put,aP,aQ,aO]
     refine dZ 15 87 (v:=?_) rfl rfl (by kernel_rfl) (by rfl) (by kernel_rfl) (by kernel_rfl) (fun _ _ _ h=>h) (Or.inl ⟨by rfl,?_⟩) (by assumption) ?_
     rotate_left 1
     ·(intro w hSw;(try dsimp only at hSw);go_simp;(try with_reducible rfl))
     try simp only[Act.put,aP,aQ,aO]
     refine bP (i:=16) (by kernel_rfl) rfl (fun K hK=>?_)
     go_simp
     refine ql.out.mono ?_
     rintro e Z4 ⟨XO,XP,rfl,hc4,hf4⟩
     obtain⟨b4,e4,b5,e5,rfl,rfl⟩:=AP hc4
     have HD5:=ah hc4
     have YL:=ah (YK.out.aF hf4)
     have hS1:Z4.cell? ⟨w.heap.size,4,none⟩=some (.int .i64 (f 4))∧Z4.cell? ⟨w.heap.size,m,none⟩=some (.int .i64 (f m)):=⟨hf4.cell' hS.1 id,hf4.cell' hS.2 id⟩
     refine hK.out _ _ hS1 ?_
     clear hK K hS hc4 hf4
     have hS:=hS1
     clear hS1
     try simp only[Act.put,aP,aQ,aO]
     refine bP (i:=17) (by kernel_rfl) rfl (fun K hK=>?_)
     go_simp
     refine(one_any Z4).mono ?_
     rintro e Z5 ⟨TI,TJ,rfl,hc5,hf5⟩
     have YM:=ah (YL.out.aF hf5)
     have YN:=ah (Fa _ _ _ _ _ _ _ _ _ AL (HD5.out.aN hf5) _ hc5)
     obtain⟨b6,e6,b7,e7,rfl,rfl⟩:=AP hc5
     have hS1:Z5.cell? ⟨w.heap.size,4,none⟩=some (.int .i64 (f 4))∧Z5.cell? ⟨w.heap.size,m,none⟩=some (.int .i64 (f m)):=⟨hf5.cell' hS.1 id,hf5.cell' hS.2 id⟩
     refine hK.out _ _ hS1 ?_
     clear hK K hS hc5 hf5
     have hS:=hS1
     clear hS1
     try simp only[Act.put,aP,aQ,aO]
     refine bP (i:=18) (by kernel_rfl) rfl (fun K hK=>?_)
     go_simp
     refine YN.out.mono ?_
     rintro e Z6 ⟨rfl,MC⟩
     have YO:=ah (YM.out.aF MC)
     have hS1:Z6.cell? ⟨w.heap.size,4,none⟩=some (.int .i64 (f 4))∧Z6.cell? ⟨w.heap.size,m,none⟩=some (.int .i64 (f m)):=⟨MC.cell' hS.1 id,MC.cell' hS.2 id⟩
     refine hK.out _ _ hS1 ?_
     clear hK K hS MC
     have hS:=hS1
     clear hS1
     try simp only[Act.put,aP,aQ,aO]
     refine dZ 19 91 (v:=?_) rfl rfl (by kernel_rfl) (by rfl) (by kernel_rfl) (by kernel_rfl) (fun _ _ _ h=>h) (Or.inl ⟨by rfl,?_⟩) (by assumption) ?_
     rotate_left 1
     ·(intro w hSw;(try dsimp only at hSw);go_simp;(try with_reducible rfl))
     try simp only[Act.put,aP,aQ,aO]
     refine bP (i:=20) (by kernel_rfl) rfl (fun K hK=>?_)
     go_simp
     refine hK.out _ _ hS ?_
     clear hK K
     refine EP (by kernel_rfl) ?_
     go_wp2
     go_ret
     exact⟨rfl,YO.out⟩
end Go.Proofs.YtlhmbkjdfjoilaaGreat
namespace Go.Proofs.YtlhmbkjdfjoilaaGreat
open Go.RowKit Go.WideShapes Go.ChangeShapes
def Yx (v:Value):Prop:=∃x0 x1 x2 x3 x4:Int,v= .agg #[.int .i64 x0, .int .i64 x1, .int .i64 x2, .int .i64 x3, .int .i64 x4]
theorem YP (w:World) (v:Value) (h:Yx v) (s:Int) (hs:(Lit.int .u8 s).wf=true) (d:Int) (hd:(Lit.int .u8 d).wf=true):
 Calls Tryz.prog 6 #[v, .int .u8 s, .int .u8 d] w fun e w'=>e= .returned (.bool true)∧aj (fun _=>False) w w':=by
 obtain⟨x0,x1,x2,x3,x4,rfl⟩:=h
 exact YC w x0 x1 x2 x3 x4 s (Nl hs) d (Nl hd)
theorem Tryz.cells_five:Tryz.prog.cellsOf 57=5:=by kernel_rfl
theorem YQ {H:Type} {enc:TypeId×Value→H} {w:World} {base:Nat} {v:Value} {d:DataW H} {ps:List MemPlace} (hv:Value.okWide Tryz.prog w .any base 57 v) (h:DataW.Trod enc Tryz.prog w 0 (fun _=>true) true 57 v d ps):Yx v:=by
 unfold Value.okWide at hv
 rw[Tryz.underlying57]at hv
 obtain⟨cs,rfl,hsz,_⟩:=hv
 rw[Tryz.cells_five]at hsz
 obtain⟨l⟩:=cs
 match l,hsz with
 |[c0,c1,c2,c3,c4],_=>
 obtain⟨fuel,hf⟩:=h
 have hf:DataW.trod enc Tryz.prog w 0 (fun _=>true) true fuel 57 [c0,c1,c2,c3,c4]=some (d,ps):=hf
 obtain⟨xs,m,_,_,_,hxl,hi⟩:=DataW.trod_array Tryz.underlying57 hf
 have one:∀(i:Nat) (c:Value),i<5→(([c0,c1,c2,c3,c4].drop (i*1)).take 1)=[c]→∃x:Int,c= .int .i64 x:=fun i c hi5 hc=>by
  have h1:=hi i hi5
  rw[Tryz.cells_I64,hc,List.getElem?_eq_getElem (by omega)]at h1
  obtain⟨x,e,_,_⟩:=DataW.trod_int Tryz.underlying2 h1
  simp at e
  exact⟨x,e⟩
 obtain⟨x0,rfl⟩:=one 0 c0 (by decide) rfl
 obtain⟨x1,rfl⟩:=one 1 c1 (by decide) rfl
 obtain⟨x2,rfl⟩:=one 2 c2 (by decide) rfl
 obtain⟨x3,rfl⟩:=one 3 c3 (by decide) rfl
 obtain⟨x4,rfl⟩:=one 4 c4 (by decide) rfl
 exact⟨x0,x1,x2,x3,x4,rfl⟩
end Go.Proofs.YtlhmbkjdfjoilaaGreat
