/- Words for the law ShardParts: Route, Sh1, Sh2, Sh3, Sh4, Sh5. -/
import Derived.Test.YtlhmbkjdfjoilaaGreatShardPartsG0
import Derived.Test.YtlhmbkjdfjoilaaGreatShardPartsG3
import Derived.Test.YtlhmbkjdfjoilaaGreatShardPartsG13
import Derived.Test.YtlhmbkjdfjoilaaGreatShardPartsG15
set_option linter.unusedSimpArgs false
set_option linter.unusedVariables false
set_option maxHeartbeats 32000000
set_option maxRecDepth 1000000
namespace Go.Proofs.YtlhmbkjdfjoilaaGreat
open Go.RowKit
def rb (s:ByteArray):List UInt8:=s.toList.reverse
theorem LV (s:ByteArray):(rb s).length=s.size:=by unfold rb;rw[List.length_reverse,ByteArray.toList_eq];simp
theorem UZ (s:ByteArray) {j:Nat} (h:j<s.size):(rb s).getD j 0=s[s.size-1-j]:=by
 have hl:=LV s
 rw[getD_at 0 (by rw[hl];exact h)]
 unfold rb
 rw[List.getElem_reverse]
 simp only[ByteArray.toList_eq,Array.length_toList,Array.getElem_toList]
 rfl
theorem U_ (s:ByteArray) (w:World) (hs:s.size≤9223372036854775807):Calls Tryz.prog 34 #[.string s] w fun e w'=>e= .returned (.int .u32 (iJ.sum (rb s)))∧w'=w:=by
 have H0:=ah (show(4294967295:Int)=((iJ.all (BitVec.allOnes 32) ((rb s).take 0)).toNat:Int)from rfl)
 have HL:=ah (LV s)
 have HB:=ah (fun j=>UZ s (j:=j))
 go_enter Tryz.func34,Tryz.ntmps34
 go_wp2
 go_loopw [3,4] (fun c i W=>∃j:Nat,j≤s.size∧i= .int .i64 ((s.size:Int)-1-j)∧c= .int .u32 (iJ.all (BitVec.allOnes 32) ((rb s).take j)).toNat∧W=w) (fun _ i _=>(intOf i+1).toNat)
 case atStart=>exact⟨0,Nat.zero_le _,by simp,by rw[←H0.out],rfl⟩
 case round=>
  obtain⟨j,hj,rfl,rfl,rfl⟩:=hrel
  by_cases hlt:j<s.size
  ·have HX:=ah (HB.out j hlt)
   have HST:=ah (show iJ.all (BitVec.allOnes 32) ((rb s).take (j+1))=iJ.add (iJ.all (BitVec.allOnes 32) ((rb s).take j)) ((rb s).getD j 0)from UY iJ.add _ (by rw[HL.out];exact hlt))
   generalize iJ.all (BitVec.allOnes 32) ((rb s).take j)=c at*
   go_wp2_with(go_at_call 61;refine(UW c _ _).mono ?_;rintro e w1 ⟨rfl,rfl⟩)
   go_roundw
   case rel=>exact⟨j+1,by omega,by go_num,by rw[HST.out,HX.out],trivial⟩
   case measure=>simp[intOf];omega
  ·obtain rfl:j=s.size:=by omega
   have HT:=ah (show iJ.sum (rb s)=(iJ.all (BitVec.allOnes 32) ((rb s).take s.size)^^^BitVec.allOnes 32).toNat by rw[List.take_of_length_le (by rw[HL.out];exact Nat.le_refl _)];rfl)
   generalize iJ.all (BitVec.allOnes 32) ((rb s).take s.size)=c at*
   have hx:=UQ c
   go_wp2
   go_ret
   exact⟨by rw[HT.out,BitVec.toNat_xor];rfl,rfl⟩
def rY (s:ByteArray) (k:Int):Int:=if k<1∨4<k then-1 else(iJ.sum (rb s):Int)%k
theorem LW (s:ByteArray) (k:Int) (w:World) (hs:s.size≤9223372036854775807):Calls Tryz.prog 10 #[.string s, .int .i64 k] w fun e w'=>e= .returned (.int .i64 (rY s k))∧w'=w:=by
 have HH:=ah (U_ s w hs)
 unfold rY
 by_cases h1:k<1
 ·rw[if_pos (.inl h1)]
  go_enter Tryz.func10,Tryz.ntmps10
  go_wp2
  go_ret
  exact⟨rfl,rfl⟩
 by_cases h4:4<k
 ·rw[if_pos (.inr h4)]
  go_enter Tryz.func10,Tryz.ntmps10
  go_wp2
  go_ret
  exact⟨rfl,rfl⟩
 rw[if_neg (by omega)]
 have hlt:=iJ.sum_lt (rb s)
 generalize iJ.sum (rb s)=c at*
 have hw:IntKind.u32.wrap k=k:=by rcases(by omega:k=1∨k=2∨k=3∨k=4)with rfl|rfl|rfl|rfl<;>rfl
 have hm0:0≤(c:Int)%k:=Int.emod_nonneg _ (by omega)
 have hm1:(c:Int)%k<k:=Int.emod_lt_of_pos _ (by omega)
 go_enter Tryz.func10,Tryz.ntmps10
 go_wp2_with(go_at_call 34;refine HH.out.mono ?_;rintro e w1 ⟨rfl,rfl⟩)
 go_ret
 exact⟨rfl,rfl⟩
open Go.RowKit
theorem LX (b n c:Nat) (a:Option Addr) (k:Int) (w:World) (h:w.cell? ⟨b,0,none⟩=some (.slice a n c)):
 Calls Tryz.prog 39 #[.pointer (some ⟨b,0,none⟩), .int .i64 k] w fun e w'=>e= .returned (.bool (decide (0≤k∧k<n)))∧w'=w:=by
 by_cases h1:0≤k
 ·by_cases h2:k<n
  ·go_enter Tryz.func39,Tryz.ntmps39
   go_wp2
   go_ret
   exact⟨by simp[h1,h2],rfl⟩
  ·have h3:¬(k<(n:Int)):=h2
   go_enter Tryz.func39,Tryz.ntmps39
   go_wp2
   go_ret
   exact⟨by simp[h1,h2],rfl⟩
 ·go_enter Tryz.func39,Tryz.ntmps39
  go_wp2
  go_ret
  exact⟨by simp[h1];omega,rfl⟩
theorem LY {p q:ByteArray→Bool}:∀ {ks:aH},(∀k∈ks.keys,p k=q k)→bH p ks=bH q ks
 | .nil,_=>rfl
 | .cons key es sub rest,h=>by
   have h1:=h key (List.mem_cons_self ..)
   have ih:=LY (p:=p) (q:=q) (ks:=rest) fun k hk=>h k (List.mem_cons_of_mem _ hk)
   simp only[bH,h1,ih]
theorem FY:∀ {ks:aH},ks.Ok→∀s∈ks.keys,s.size≤9223372036854775807
 | .nil,_,_,hs=>by cases hs
 | .cons key es sub rest,h,s,hs=>by
   rcases List.mem_cons.1 hs with rfl|hs
   ·exact h.1
   ·exact FY h.2.2.2.2 s hs
def FZ (w:World) (p:ByteArray→Bool) (ks:aH) (c:aU) (e:Ending) (w':World):Prop:=
 ∃kv cv,e= .returned (.agg #[.slice none 0 0,kv,cv])∧bg (fun b=>w.heap.size≤b) w' (.slice none 0 0) kv [] (bH p ks)∧OwnAt w w' 92 3 cv c.length (cO c)
def dA (n:Nat) (k:Int) (s:ByteArray):Bool:=decide (rY s n=k)
theorem Va {p:ByteArray→Bool} {l:List ByteArray} {k:Nat} (hk:k<l.length):((l.take (k+1)).filter p).map Value.string=((l.take k).filter p).map .string++(if p (l.getD k ByteArray.empty)=true then [.string (l.getD k ByteArray.empty)]else []):=by
 rw[List.take_succ_eq_append_getElem hk,List.filter_append,List.map_append,getD_at _ hk]
 congr 1
 rw[List.filter_cons]
 split<;>simp
theorem LZ (Q:Nat→Prop) (es:List aF) (ks:aH) (c:aU) (w:World) (ev kv cv:Value) (h:fP Q w ev kv cv es ks c) (hok:jW es ks c) (hr:f_ es ks c)
 (b n cp:Nat) (a:Option Addr) (k:Int) (hb:w.cell? ⟨b,0,none⟩=some (.slice a n cp)):
 Calls Tryz.prog 41 #[.pointer (some ⟨b,0,none⟩), .agg #[ev,kv,cv], .int .i64 k] w (FZ w (dA n k) ks c):=by
 obtain⟨i0,hi,hz0,hz1,hz2⟩:=info_parts KN
 obtain⟨j0,hj,hy0,hy1,hy2⟩:=info_parts uN
 have BX:=ah (fun W (f:aj au w W) keys vk h1 h2=>UM Q keys vk es ks c W ev kv cv (h.aN f) hok hr h1 h2)
 have HL:=ah (show ks.len≤2000 by have:=kG ks;have:=hok.small;unfold sizeT at this;omega)
 have fK:=ah ks.nJ
 obtain⟨os,hk,hf⟩:=h.tree.kids
 have zo:=ah (zl hf)
 have fH:=ah (fun W (f:aj au w W)=>hk.rd.aN f)
 have iI:=ah (fun s (hs:s∈ks.keys)=>FY hok.tree.ks s hs)
 have HB:=ah (fun W (f:aj au w W)=>f.cell' hb id)
 obtain⟨a0,c0,a1,c1,a2,c2,rfl,rfl,rfl⟩:=h.shape
 clear h hok hr hk hf hb
 generalize gK ks os=xs at*
 generalize es.length=n0 at*
 generalize hkn:ks.len=m at*
 have pF:=ah hkn;clear hkn
 generalize c.length=n2 at*
 obtain⟨WB,iR⟩:∃WB,WB=(w.alloc (.cells #[.slice a0 n0 c0, .slice a1 m c1, .slice a2 n2 c2] 32)).alloc (.cells #[.slice none 0 0, .slice none 0 0, .slice none 0 0] 32):=⟨_,rfl⟩
 have bf:=ah (show aj au w WB by rw[iR];exact(aj.alloc _ _ _).alloc1)
 have HB0:=ah (show WB.heap[w.heap.size]?=some (.cells #[.slice a0 n0 c0, .slice a1 m c1, .slice a2 n2 c2] 32 (0,0)) by rw[iR];exact((aj.refl au _).alloc1 (o:= .cells #[.slice none 0 0, .slice none 0 0, .slice none 0 0] 32)).blk (heap_alloc_new w _) id)
 have HB1:=ah (show WB.heap[w.heap.size+1]?=some (.cells #[.slice none 0 0, .slice none 0 0, .slice none 0 0] 32 (0,0)) by rw[iR];exact(mJ w _ _ _).1)
 have bT:=ah iR
 clear iR
 have hm2:=HL.out
 go_enter Tryz.func41,Tryz.ntmps41
 go_wp2
 go_loopw [7,16] (fun kv iv W=>∃i:Nat,i≤m∧iv= .int .i64 i∧OwnAt WB W 9 1 kv ((ks.keys.take i).filter (dA n k)).length (((ks.keys.take i).filter (dA n k)).map .string)) (fun _ iv _=>m-(intOf iv).toNat)
 case atStart=>exact⟨0,by omega,rfl,by rw[←bT.out];exact OwnAt.nil (aj.refl _ _) _ _⟩
 case round=>
  obtain⟨i,hi1,rfl,ho⟩:=hrel
  obtain⟨av,cv,rfl⟩:=ho.shape
  have HO:=ah ho;clear ho
  have iH:=ah (bf.out.aG HO.out.aI)
  by_cases hlt:i<m
  ·have hil:i<ks.keys.length:=by rw[fK.out];exact hlt
   obtain⟨b0,m0,d0,b1,m1,d1,q0,q1,q2⟩:=zo.out i hil
   have hsz:=iI.out _ (getD_mem ByteArray.empty hil)
   have jJ:=ah (fun W=>LW (ks.keys.getD i ByteArray.empty) n W hsz)
   have HST:=ah (Va (p:=dA n k) hil)
   have hfl:((ks.keys.take i).filter (dA n k)).length≤2000:=by have:=List.length_filter_le (dA n k) (ks.keys.take i);rw[List.length_take]at this;omega
   rcases Rd.shape (fH.out _ iH.out)with⟨ad,he,h0⟩|⟨g,off,cc,he,hmax⟩
   ·omega
   injection he with e1 e2 e3
   subst e1 e3
   clear e2 hil hsz
   have r:=fH.out _ iH.out
   replace q0:=r.cell _ _ q0
   replace q1:wr.cell? ⟨g,off+i*3+1,none⟩=some (.slice b0 m0 d0):=r.cell (i*3+1) _ q1
   replace q2:wr.cell? ⟨g,off+i*3+2,none⟩=some (.slice b1 m1 d1):=r.cell (i*3+2) _ q2
   clear r
   generalize ks.keys.getD i ByteArray.empty=key at*
   generalize ((ks.keys.take i).filter (dA n k))=l at*
   have KQ:(i:Int)<(m:Int):=by omega
   have jU:=ah (iH.out.alloc1 (o:= .cells #[.string key, .slice b0 m0 d0, .slice b1 m1 d1] 52))
   have bJ:=ah (HO.out.keep (aj.alloc au wr (.cells #[.string key, .slice b0 m0 d0, .slice b1 m1 d1] 52)))
   have HX:=ah (heap_alloc_new wr (.cells #[.string key, .slice b0 m0 d0, .slice b1 m1 d1] 52))
   obtain⟨α,hne,K,hK1,hK0,hK2⟩:=worlds (wr.alloc (.cells #[.string key, .slice b0 m0 d0, .slice b1 m1 d1] 52))
   have dV:=ah hK1
   have k0:∀s,(K s).cell? ⟨wr.heap.size,0,none⟩=some (.string key):=fun s=>(hK1 s).cell' (aJ HX.out 0 rfl) id
   have k1:∀s,(K s).cell? ⟨b,0,none⟩=some (.slice a n cp):=fun s=>HB.out _ (jU.out.aG (hK1 s))
   clear hK1
   go_wp2_with fail
   refine dh K (by kernel_rfl) (by kernel_rfl) hK0 ?_
   repeat(go_big_quiet_step ((go_at_call 10;exact Calls.aZ hK2 ((jJ.out _).mono fun _ _ h=>⟨h.1,h.2▸aj.refl _ _⟩))))
   refine wpQuiet_nil ?_
   intro w' hw'
   obtain⟨s,rfl⟩:=hw'
   have y0:=k0 s
   have jS:=ah (bJ.out.keep (dV.out s))
   clear k0 k1 hK0 hK2
   by_cases hd:rY key n=k
   ·have hst:=HST.out
    rw[if_pos (by simp[dA,hd])]at hst
    have HS2:=ah hst;clear hst HST
    go_wp2_with(at_builtin;refine ku WB _ [.string key] rfl (.tmp 30) (.tmp 33) 101 rfl 9 i0 _ 1 16 Tryz.underlying101 hi hz0 hz1 hz2 (by decide) (by decide) _ _ _ jS.out 1 1 rfl (by simp[Act.eval]) rfl (by simp[Value.oneCell']) (by simp only[maxLen];omega) (by omega) ?_;intro ad cc w5 bU;have OW:=ah bU;clear bU)
    go_roundw
    case rel=>exact⟨i+1,by omega,by go_num,by have hl:=congrArg List.length HS2.out;simp only[List.length_map,List.length_append,List.length_cons,List.length_nil]at hl;rw[HS2.out,hl];exact OW.out⟩
    case measure=>simp[intOf];omega
   ·have hst:=HST.out
    rw[if_neg (by simp[dA,hd]),List.append_nil]at hst
    have HS2:=ah hst;clear hst HST
    go_wp2
    go_roundw
    case rel=>exact⟨i+1,by omega,by go_num,by have hl:=congrArg List.length HS2.out;simp only[List.length_map]at hl;rw[HS2.out,hl];exact jS.out⟩
    case measure=>simp[intOf];omega
  ·obtain rfl:i=m:=by omega
   have hkl:ks.keys.take i=ks.keys:=List.take_of_length_le (by rw[fK.out];exact Nat.le_refl _)
   rw[hkl]at HO⊢
   have Gf:=ah (BX.out wr iH.out (ks.keys.filter (dA n k)) _ HO.out.rd (by have:=List.length_filter_le (dA n k) ks.keys;have:=fK.out;omega))
   have hfk:bH (fun s=>tf (s∈ks.keys.filter (dA n k))) ks=bH (dA n k) ks:=LY fun s hs=>by
    cases hq:dA n k s
    ·exact bW fun h=>by simp[hq]at h
    ·exact dD (List.mem_filter.2 ⟨hs,hq⟩)
   unfold LQ at Gf
   rw[hfk]at Gf
   have q0:=aJ (HO.out.aI.blk HB0.out id) 0 rfl
   have q1:=aJ (HO.out.aI.blk HB0.out id) 1 rfl
   have q2:=aJ (HO.out.aI.blk HB0.out id) 2 rfl
   have hl0:=World.block_lt_of_cell? _ _ q0
   have fF:=ah (HO.out.aI.blk HB1.out id)
   clear hkl hfk HO zo fH iI BX fK
   go_wp2_with(go_at_call 71;refine Gf.out.mono ?_;rintro e w5 ⟨Vb,Vd,rfl,hta,iG⟩;obtain⟨rQ,kT,-⟩:=hta.kids;obtain⟨a5,c5,rfl⟩:=kT.rd.sl;obtain⟨a6,c6,rfl⟩:=iG.shape;clear kT q0 q1 q2 hl0;have hblk:=(iG.aI.alloc1 (o:= .cells #[.slice none 0 0, .slice a5 (bH (dA n k) ks).len c5, .slice a6 c.length c6] 32)).blk fF.out id;have z0:=aJ hblk 0 rfl;have z1:=aJ hblk 1 rfl;have z2:=aJ hblk 2 rfl;have g0:=bG hblk 0;have g1:=bG hblk 1;have g2:=bG hblk 2;have hbl:=lt_of_block hblk;have je:=ah hta;clear hta;have iT:=ah iG;clear iG;have Ve:=ah hblk;clear hblk)
   have Vf:=lt_of_block fF.out
   have hsw:=iH.out.size
   have hs5:=iT.out.aI.size
   have hf5:=(iH.out.aG iT.out.aI).alloc1 (o:= .cells #[.slice none 0 0, .slice a5 (bH (dA n k) ks).len c5, .slice a6 c.length c6] 32)
   have HR3:=ah (wV Ve.out hf5 (by omega) (.slice none 0 0) (.slice a5 (bH (dA n k) ks).len c5) (.slice a6 c.length c6))
   have HP:=ah ((je.out.aN (aj.alloc au w5 (.cells #[.slice none 0 0, .slice a5 (bH (dA n k) ks).len c5, .slice a6 c.length c6] 32))).turn (Q':=fun b=>w.heap.size≤b) fun b hb hQ=>⟨HR3.out.2.2 b (by omega),by omega⟩)
   have hnew:=iT.out.new
   have oW:dU (fun b=>b=w.heap.size+1) w (w5.alloc (.cells #[.slice none 0 0, .slice a5 (bH (dA n k) ks).len c5, .slice a6 c.length c6] 32)) 92 3 (.slice a6 c.length c6) c.length (cO c):=⟨(iT.out.keep (aj.alloc _ _ _)).base iH.out,fun b hb hn=>by have:=hnew b hb;omega⟩
   have hown:=(((oW.set (p:=⟨w.heap.size+1,0,none⟩) rfl (Nat.le_succ _) (.slice none 0 0)).set (p:=⟨w.heap.size+1,1,none⟩) rfl (Nat.le_succ _) (.slice a5 (bH (dA n k) ks).len c5)).set (p:=⟨w.heap.size+1,2,none⟩) rfl (Nat.le_succ _) (.slice a6 c.length c6)).at_
   clear z0 z1 z2
   have z0:=aJ HR3.out.1 0 rfl
   have z1:=aJ HR3.out.1 1 rfl
   have z2:=aJ HR3.out.1 2 rfl
   exact bodyPost_ret (v:= .agg #[.slice none 0 0, .slice a5 (bH (dA n k) ks).len c5, .slice a6 c.length c6]) (by simp[results,Tryz.results41,go_sem,z0,z1,z2]) rfl ⟨_,_,rfl,HP.out,hown⟩
open Go.RowKit
def L_ (w:World) (p:ByteArray→Bool) (ks:aH) (c:aU) (e:Ending) (w':World):Prop:=
 ∃kv cv,e= .returned (.tuple #[.agg #[.slice none 0 0,kv,cv], .int .i64 0])∧bg (fun b=>w.heap.size≤b) w' (.slice none 0 0) kv [] (bH p ks)∧OwnAt w w' 92 3 cv c.length (cO c)
theorem Mc (Q:Nat→Prop) (ks:aH) (c:aU) (w:World) (ev kv cv:Value) (h:fP Q w ev kv cv [] ks c) (hok:jW [] ks c) (hr:f_ [] ks c)
 (b n cp:Nat) (a:Option Addr) (k:Nat) (hk:k<n) (hb:w.cell? ⟨b,0,none⟩=some (.slice a n cp)):
 Calls Tryz.prog 16 #[.pointer (some ⟨b,0,none⟩), .agg #[ev,kv,cv], .int .i64 k] w (L_ w (dA n k) ks c):=by
 have HH:=ah (fun W (f:aj au w W)=>LX b n cp a k W (f.cell' hb id))
 have HR:=ah (fun W (f:aj au w W)=>dD hr▸sW Q [] ks c W ev kv cv (h.aN f) hok)
 have HC:=ah (fun W (f:aj au w W)=>LZ Q [] ks c W ev kv cv (h.aN f) hok hr b n cp a k (f.cell' hb id))
 have hhk:decide (0≤(k:Int)∧(k:Int)<(n:Int))=true:=by rw[decide_eq_true_eq];omega
 rw[hhk]at HH
 obtain⟨a0,c0,a1,c1,a2,c2,rfl,rfl,rfl⟩:=h.shape
 clear h hok hr hhk hb
 unfold FZ at HC
 generalize ks.len=m at*
 obtain⟨WB,iR⟩:∃WB,WB=(w.alloc (.cells #[.slice a0 0 c0, .slice a1 m c1, .slice a2 c.length c2] 32)).alloc (.cells #[.slice none 0 0, .slice none 0 0, .slice none 0 0] 32):=⟨_,rfl⟩
 have bf:=ah (show aj au w WB by rw[iR];exact(aj.alloc _ _ _).alloc1)
 have HB0:=ah (show WB.heap[w.heap.size]?=some (.cells #[.slice a0 0 c0, .slice a1 m c1, .slice a2 c.length c2] 32 (0,0)) by rw[iR];exact((aj.refl au _).alloc1 (o:= .cells #[.slice none 0 0, .slice none 0 0, .slice none 0 0] 32)).blk (heap_alloc_new w _) id)
 have HB1:=ah (show WB.heap[w.heap.size+1]?=some (.cells #[.slice none 0 0, .slice none 0 0, .slice none 0 0] 32 (0,0)) by rw[iR];exact(mJ w _ _ _).1)
 have bT:=ah iR
 clear iR
 go_enter Tryz.func16,Tryz.ntmps16
 go_wp2_with(first
  |(go_at_call 39;rw[←bT.out];refine(HH.out _ bf.out).mono ?_;rintro e w1 ⟨rfl,rfl⟩;have y0:=aJ HB0.out 0 rfl;have y1:=aJ HB0.out 1 rfl;have y2:=aJ HB0.out 2 rfl;have hl0:=lt_of_block HB0.out)
  |(go_at_call 40;refine(HR.out _ bf.out).mono ?_;clear y0 y1 y2 hl0;rintro e w2 ⟨rfl,hw2⟩;have y0:=aJ (hw2.blk HB0.out id) 0 rfl;have y1:=aJ (hw2.blk HB0.out id) 1 rfl;have y2:=aJ (hw2.blk HB0.out id) 2 rfl;have hl0:=lt_of_block (hw2.blk HB0.out id);have HW2:=ah hw2;clear hw2)
  |(go_at_call 41;refine(HC.out _ (bf.out.aG HW2.out)).mono ?_;clear y0 y1 y2 hl0;rintro e w3 ⟨jB,oD,rfl,hta,ho3⟩;obtain⟨rQ,kT,-⟩:=hta.kids;obtain⟨a5,c5,rfl⟩:=kT.rd.sl;obtain⟨a6,c6,rfl⟩:=ho3.shape;clear kT;have hblk:=ho3.aI.blk (HW2.out.blk HB1.out id) id;have z0:=aJ hblk 0 rfl;have z1:=aJ hblk 1 rfl;have z2:=aJ hblk 2 rfl;have g0:=bG hblk 0;have g1:=bG hblk 1;have g2:=bG hblk 2;have hbl:=lt_of_block hblk;have je:=ah hta;clear hta;have bJ:=ah ho3;clear ho3;have HB3:=ah hblk;clear hblk))
 have Vf:=lt_of_block HB1.out
 have hsw:=HW2.out.size
 have hs5:=bJ.out.aI.size
 have HR3:=ah (wV HB3.out ((bf.out.aG HW2.out).aG bJ.out.aI) (by omega) (.slice none 0 0) (.slice a5 (bH (dA n k) ks).len c5) (.slice a6 c.length c6))
 have HP:=ah (je.out.turn (Q':=fun b=>w.heap.size≤b) fun b hb hQ=>⟨HR3.out.2.2 b (by omega),by omega⟩)
 have hnew:=bJ.out.new
 have oW:dU (fun b=>b=w.heap.size+1) w w3 92 3 (.slice a6 c.length c6) c.length (cO c):=⟨bJ.out.base (bf.out.aG HW2.out),fun b hb hn=>by have:=hnew b hb;omega⟩
 have hown:=(((oW.set (p:=⟨w.heap.size+1,0,none⟩) rfl (Nat.le_succ _) (.slice none 0 0)).set (p:=⟨w.heap.size+1,1,none⟩) rfl (Nat.le_succ _) (.slice a5 (bH (dA n k) ks).len c5)).set (p:=⟨w.heap.size+1,2,none⟩) rfl (Nat.le_succ _) (.slice a6 c.length c6)).at_
 clear z0 z1 z2
 have z0:=aJ HR3.out.1 0 rfl
 have z1:=aJ HR3.out.1 1 rfl
 have z2:=aJ HR3.out.1 2 rfl
 exact bodyPost_ret (v:= .tuple #[.agg #[.slice none 0 0, .slice a5 (bH (dA n k) ks).len c5, .slice a6 c.length c6], .int .i64 0]) (by simp[results,Tryz.results16,go_sem,z0,z1,z2]) rfl ⟨_,_,rfl,HP.out,hown⟩
open Go.RowKit
structure bM where
 id:Int
 pv:Value
 iv:Value
instance:Inhabited bM:=⟨⟨0, .slice none 0 0, .slice none 0 0⟩⟩
def bM.cells (q:bM):List Value:=[.int .i64 q.id,q.pv,q.iv]
def bM.shaped (q:bM):Prop:=(∃a n c,q.pv= .slice a n c)∧∃a n c,q.iv= .slice a n c
theorem Vg (l:List bM):(l.flatMap bM.cells).length=l.length*3:=by
 induction l with
 |nil=>rfl
 |cons q l ih=>rw[List.flatMap_cons,List.length_append,ih];simp[bM.cells];omega
theorem xF:∀(l:List bM) (j:Nat),j<l.length→(l.flatMap bM.cells)[j*3]?=some (.int .i64 (l.getD j default).id)∧(l.flatMap bM.cells)[j*3+1]?=some (l.getD j default).pv∧(l.flatMap bM.cells)[j*3+2]?=some (l.getD j default).iv
 |[],_,h=>by cases h
 |q::l,0,_=>⟨rfl,rfl,rfl⟩
 |q::l,j+1,h=>by
  obtain⟨h1,h2,h3⟩:=xF l j (by simpa using h)
  refine⟨?_,?_,?_⟩
  ·rw[show(j+1)*3=j*3+1+1+1 by omega];exact h1
  ·rw[show(j+1)*3+1=(j*3+1)+1+1+1 by omega];exact h2
  ·rw[show(j+1)*3+2=(j*3+2)+1+1+1 by omega];exact h3
def iE (x:Int) (l:List Int):Int:=if l.findIdx (fun y=>y==x)<l.length then(l.findIdx (fun y=>y==x):Int)else-1
theorem Md {x:Int} {l:List Int} {k:Nat} (hk:k<l.length) (h:∀j,j<k→l.getD j 0≠x) (he:l.getD k 0=x):iE x l=k:=by
 have hf:l.findIdx (fun y=>y==x)=k:=by
  rw[List.findIdx_eq hk]
  refine⟨?_,fun j hj=>?_⟩
  ·rw[getD_at 0 hk]at he;simpa using he
  ·have:=h j hj;rw[getD_at 0 (by omega)]at this;simpa using this
 unfold iE
 rw[hf,if_pos hk]
theorem Vh {x:Int} {l:List Int} (h:∀j,j<l.length→l.getD j 0≠x):iE x l=-1:=by
 have hf:l.findIdx (fun y=>y==x)=l.length:=by
  rw[List.findIdx_eq_length]
  intro y hy
  obtain⟨j,hj,rfl⟩:=List.getElem_of_mem hy
  have:=h j hj
  rw[getD_at 0 hj]at this
  simpa using this
 unfold iE
 rw[hf,if_neg (by omega)]
theorem Gg (l:List bM) (j:Nat) (hj:j<l.length):(l.map bM.id).getD j 0=(l.getD j default).id:=by
 rw[getD_at default hj,getD_at 0 (by rw[List.length_map];exact hj),List.getElem_map]
theorem Vj (y x:Int) (a a':Option Addr) (n c n' c' b:Nat) (w:World) (hb:w.cell? ⟨b,0,none⟩=some (.int .i64 x)):
 Calls Tryz.prog 68 #[.agg #[.int .i64 y, .slice a n c, .slice a' n' c'], .pointer (some ⟨b,0,none⟩)] w fun e w'=>e= .returned (.bool (decide (y=x)))∧aj au w w':=by
 have hlt:b<w.heap.size:=World.block_lt_of_cell? _ _ hb
 go_enter Tryz.func68,Tryz.ntmps68
 go_wp2
 go_ret
 exact⟨rfl,aj.alloc _ _ _⟩
theorem Vk (x:Int) (l:List bM) (b:Nat) (w:World) (v:Value) (h:Rd w v l.length (l.flatMap bM.cells)) (hs:∀q∈l,q.shaped) (hl:l.length≤100000) (hb:w.cell? ⟨b,0,none⟩=some (.int .i64 x)):
 Calls Tryz.prog 67 #[v, .func (.func 68) #[] #[.pointer (some ⟨b,0,none⟩)]] w fun e w'=>e= .returned (.int .i64 (iE x (l.map bM.id)))∧aj au w w':=by
 have eg:∀args w,(callFunc 68 args).run Tryz.prog w= .ok (.enter 68 args) w:=enters_of Tryz.func68 (by kernel_rfl) rfl
 have HP:=ah (fun y a n c a' n' c' W (f:aj au w W)=>Vj y x a a' n c n' c' b W (f.cell' hb id));clear hb
 have HIT:=ah (fun k (hk:k<l.length) (h1:∀j,j<k→(l.getD j default).id≠x) (h2:(l.getD k default).id=x)=>Md (x:=x) (l:=l.map bM.id) (k:=k) (by rw[List.length_map];exact hk) (fun j hj=>by rw[Gg l j (by omega)];exact h1 j hj) (by rw[Gg l k hk];exact h2))
 have jM:=ah (fun(h1:∀j,j<l.length→(l.getD j default).id≠x)=>Vh (x:=x) (l:=l.map bM.id) (fun j hj=>by rw[List.length_map]at hj;rw[Gg l j hj];exact h1 j hj))
 generalize iE x (l.map bM.id)=P at*
 rcases Rd.shape h with⟨ad,rfl,h0⟩|⟨p,off,c,rfl,hmax⟩
 ·have HN:=ah (jM.out fun j hj=>by omega)
  clear h h0 hs
  go_enter Tryz.func67,Tryz.ntmps67
  go_wp2
  go_loop [8] (fun i=>i= .int .i64 0) (fun _=>0)
  case atStart=>rfl
  case round=>
   obtain rfl:=hrel
   go_wp2
   go_ret
   exact⟨by rw[HN.out];rfl,aj.refl _ _⟩
 ·have HH:=ah h;clear h
  have tH:=ah hs;clear hs
  generalize hn:l.length=m at*
  have HN:=ah hn;clear hn
  go_enter Tryz.func67,Tryz.ntmps67
  go_wp2
  go_loopw [8] (fun i W=>∃k:Nat,k≤m∧i= .int .i64 k∧(∀j,j<k→(l.getD j default).id≠x)∧aj au w W) (fun i _=>m-(intOf i).toNat)
  case atStart=>exact⟨0,Nat.zero_le _,rfl,fun j hj=>by omega,aj.refl _ _⟩
  case round=>
   obtain⟨k,hk,rfl,ha,hw⟩:=hrel
   have nH:=ah ha;clear ha
   have HW:=ah hw;clear hw
   by_cases hlt:k<m
   ·have hlk:k<l.length:=by rw[HN.out];exact hlt
    obtain⟨g0,g1,g2⟩:=xF l k hlk
    obtain⟨⟨a0,n0,c0,e0⟩,a1,n1,c1,e1⟩:=tH.out _ (getD_mem default hlk)
    rw[e0]at g1
    rw[e1]at g2
    have r:=HH.out.aN HW.out
    have q0:wr.cell? ⟨p,off+k*3,none⟩=_:=r.cell _ _ g0
    have q1:wr.cell? ⟨p,off+k*3+1,none⟩=_:=r.cell (k*3+1) _ g1
    have q2:wr.cell? ⟨p,off+k*3+2,none⟩=_:=r.cell (k*3+2) _ g2
    clear g0 g1 g2 e0 e1 r
    have oG:=ah (HIT.out k hlt nH.out)
    have Gh:=ah (fun(hne:(l.getD k default).id≠x) j (hj:j<k+1)=>(show(l.getD j default).id≠x from by
     rcases Nat.lt_or_ge j k with h1|h1
     ·exact nH.out j h1
     ·obtain rfl:j=k:=by omega
      exact hne))
    have HC:=ah (HP.out (l.getD k default).id a0 n0 c0 a1 n1 c1)
    generalize (l.getD k default).id=y at*
    by_cases hx:y=x
    ·have HR:=ah (oG.out hx);clear oG Gh
     rw[decide_eq_true hx]at HC
     clear hx
     go_wp2_with(go_at_call 68;refine(HC.out _ HW.out).mono ?_;rintro e w1 ⟨rfl,hw1⟩;have HW1:=ah (HW.out.aG hw1);clear hw1)
     go_ret
     exact⟨by rw[HR.out];rfl,HW1.out⟩
    ·have HR:=ah (Gh.out hx);clear oG Gh
     rw[decide_eq_false hx]at HC
     clear hx
     go_wp2_with(go_at_call 68;refine(HC.out _ HW.out).mono ?_;rintro e w1 ⟨rfl,hw1⟩;have HW1:=ah (HW.out.aG hw1);clear hw1)
     go_roundw
     case rel=>exact⟨k+1,by omega,by go_num,HR.out,HW1.out⟩
     case measure=>simp[intOf];omega
   ·obtain rfl:m=k:=by omega
    have HR:=ah (jM.out nH.out)
    go_wp2
    go_ret
    exact⟨by rw[HR.out];rfl,HW.out⟩
theorem BZ (x:Int) (l:List bM) (b:Nat) (w:World) (v:Value) (h:Rd w v l.length (l.flatMap bM.cells)) (hs:∀q∈l,q.shaped) (hl:l.length≤100000) (hb:w.cell? ⟨b,1,none⟩=some v):
 Calls Tryz.prog 38 #[.pointer (some ⟨b,0,none⟩), .int .i64 x] w fun e w'=>e= .returned (.int .i64 (iE x (l.map bM.id)))∧aj au w w':=by
 have HI:=ah (fun W c (f:aj au w W) hc=>Vk x l c W v (h.aN f) hs hl hc)
 obtain⟨a,c,rfl⟩:=h.sl
 have hlt:b<w.heap.size:=World.block_lt_of_cell? _ _ hb
 clear h hs
 generalize iE x (l.map bM.id)=P at*
 generalize l.length=n at*
 go_enter Tryz.func38,Tryz.ntmps38
 go_wp2_with(go_at_call 67;refine(HI.out _ _ (aj.alloc _ _ _) (aJ (heap_alloc_new w _) 0 rfl)).mono ?_;rintro e w1 ⟨rfl,hw1⟩;have HW1:=ah ((aj.alloc au w _).aG hw1);clear hw1)
 go_ret
 exact⟨rfl,HW1.out⟩
open Go.RowKit
def oH (bs:List Bool):List Value:=bs.map .bool
def pK (bs:List Bool):Nat:=bs.countP fun y=>y
theorem Vl {bs:List Bool} {k:Nat} (h:k<bs.length):pK (bs.take (k+1))=pK (bs.take k)+if bs.getD k false=true then 1 else 0:=by
 unfold pK
 rw[take_succ false h,List.countP_append,List.countP_singleton]
theorem Vm {w:World} {g o c n:Nat} {bs:List Bool} (h:Rd w (.slice (some ⟨g,o,none⟩) n c) n (oH bs)) (k:Nat) (hk:k<bs.length):w.cell? ⟨g,o+k,none⟩=some (.bool (bs.getD k false)):=
 h.cell k _ (by unfold oH;rw[List.getElem?_map,List.getElem?_eq_getElem hk,getD_at _ hk];rfl)
theorem Vo (x:Int) (l:List bM) (b:Nat) (w:World) (v:Value) (h:Rd w v l.length (l.flatMap bM.cells)) (hs:∀q∈l,q.shaped) (hl:l.length≤100000) (hb:w.cell? ⟨b,1,none⟩=some v) (k:Nat) (bs:List Bool)
 (hp:iE x (l.map bM.id)=k) (hk:k<l.length) (hbs:Rd w (l.getD k default).iv bs.length (oH bs)) (hbl:bs.length≤1000):
 Calls Tryz.prog 21 #[.pointer (some ⟨b,0,none⟩), .int .i64 x] w fun e w'=>e= .returned (.int .i64 (pK bs))∧aj au w w':=by
 have HA:=ah (hp▸BZ x l b w v h hs hl hb)
 have HH:=ah (fun W (f:aj au w W)=>h.aN f)
 have HB:=ah (fun W (f:aj au w W)=>f.cell' hb id)
 have wR:=ah (fun W (f:aj au w W)=>hbs.aN f)
 obtain⟨-,-,g2⟩:=xF l k hk
 rcases Rd.shape h with⟨ad,rfl,h0⟩|⟨p,off,c,rfl,hmax⟩
 ·omega
 have HQ:=ah (fun W (f:aj au w W)=>(show W.cell? ⟨p,off+k*3+2,none⟩=some (l.getD k default).iv from(HH.out W f).cell (k*3+2) _ g2))
 generalize (l.getD k default).iv=iv at*
 obtain⟨ai,ci,rfl⟩:=hbs.sl
 clear h hs hb hp hbs g2 HH
 generalize l.length=n at*
 have hkn:(k:Int)<(n:Int):=by omega
 go_enter Tryz.func21,Tryz.ntmps21
 go_wp2_with(go_at_call 38;refine HA.out.mono ?_;rintro e w1 ⟨rfl,hw1⟩;have y0:=HB.out _ hw1;have y1:=HQ.out _ hw1;have hb0:=World.block_lt_of_cell? _ _ y0;have hb1:=World.block_lt_of_cell? _ _ y1;have HW1:=ah hw1;clear hw1)
 clear y0 y1 hb0 hb1
 have HR:=ah (wR.out _ HW1.out)
 generalize hm:bs.length=m at*
 have HM:=ah hm;clear hm
 go_loopw [5,23] (fun cv iv W=>∃j:Nat,j≤m∧iv= .int .i64 j∧cv= .int .i64 (pK (bs.take j))∧W=w1) (fun _ iv _=>m-(intOf iv).toNat)
 case atStart=>exact⟨0,by omega,rfl,rfl,rfl⟩
 case round=>
  obtain⟨j,hj,rfl,rfl,rfl⟩:=hrel
  have hle:pK (bs.take j)≤1000:=by have:=List.countP_le_length (p:=fun y=>y) (l:=bs.take j);rw[List.length_take]at this;unfold pK;omega
  by_cases hlt:j<m
  ·have hjl:j<bs.length:=by rw[HM.out];exact hlt
   rcases Rd.shape HR.out with⟨ad,he,h0⟩|⟨g,o,cc,he,hmx⟩
   ·omega
   injection he with e1 e2 e3
   subst e1 e3
   clear e2
   have q0:=Vm HR.out j hjl
   have HT:=ah (Vl hjl)
   clear hjl
   generalize pK (bs.take j)=N at*
   have hji:(j:Int)<(m:Int):=by omega
   cases hy:bs.getD j false with
   |true=>
    rw[hy]at q0 HT
    clear hy
    go_wp2
    go_roundw
    case rel=>exact⟨j+1,by omega,by go_num,by rw[HT.out];go_num,by trivial⟩
    case measure=>simp[intOf];omega
   |false=>
    rw[hy]at q0 HT
    clear hy
    go_wp2
    go_roundw
    case rel=>exact⟨j+1,by omega,by go_num,by rw[HT.out];rfl,by trivial⟩
    case measure=>simp[intOf];omega
  ·obtain rfl:j=m:=by omega
   have hall:bs.take j=bs:=List.take_of_length_le (by rw[HM.out];exact Nat.le_refl _)
   rw[hall]
   rw[hall]at hle
   clear hall
   go_wp2
   go_ret
   exact⟨rfl,HW1.out⟩
open Go.RowKit
structure bD where
 es:List aF
 ks:aH
 c:aU
 ev:Value
 kv:Value
 cv:Value
instance:Inhabited bD:=⟨⟨[], .nil,[], .slice none 0 0, .slice none 0 0, .slice none 0 0⟩⟩
def bD.cells (q:bD):List Value:=[q.ev,q.kv,q.cv]
structure jc (Q:Nat→Prop) (w:World) (q:bD):Prop where
 tree:bg Q w q.ev q.kv q.es q.ks
 ctx:gy Q w q.cv q.c.length (cO q.c)
theorem jc.at_ {Q:Nat→Prop} {w:World} {q:bD} (h:jc Q w q):fP Q w q.ev q.kv q.cv q.es q.ks q.c:=⟨h.tree,h.ctx.rd⟩
theorem jc.turn {Q Q':Nat→Prop} {w w':World} {q:bD} (h:jc Q w q) (f:∀b,b<w.heap.size→Q b→w'.heap[b]?=w.heap[b]?∧Q' b):jc Q' w' q:=⟨h.tree.turn f,h.ctx.turn f⟩
theorem jc.aN {Q:Nat→Prop} {w w':World} {q:bD} (h:jc Q w q) (f:aj au w w'):jc Q w' q:=h.turn fun b hb hq=>⟨f.block b hb id,hq⟩
theorem zB:∀(l:List bD) (j:Nat),j<l.length→(l.flatMap bD.cells)[j*3]?=some (l.getD j default).ev∧(l.flatMap bD.cells)[j*3+1]?=some (l.getD j default).kv∧(l.flatMap bD.cells)[j*3+2]?=some (l.getD j default).cv
 |[],_,h=>by cases h
 |q::l,0,_=>⟨rfl,rfl,rfl⟩
 |q::l,j+1,h=>by
  obtain⟨h1,h2,h3⟩:=zB l j (by simpa using h)
  refine⟨?_,?_,?_⟩
  ·rw[show(j+1)*3=j*3+1+1+1 by omega];exact h1
  ·rw[show(j+1)*3+1=(j*3+1)+1+1+1 by omega];exact h2
  ·rw[show(j+1)*3+2=(j*3+2)+1+1+1 by omega];exact h3
theorem Gi:∀(l:List bD) (i:Nat) (q:bD),i<l.length→(l.set i q).flatMap bD.cells=(((l.flatMap bD.cells).set (i*3) q.ev).set (i*3+1) q.kv).set (i*3+2) q.cv
 |[],_,_,h=>by cases h
 |x::l,0,q,_=>rfl
 |x::l,i+1,q,h=>by
  have ih:=Gi l i q (by simpa using h)
  rw[aO,List.flatMap_cons,ih,List.flatMap_cons]
  rw[show(i+1)*3=i*3+1+1+1 by omega,show i*3+1+1+1+1=(i*3+1)+1+1+1 by omega,show i*3+1+1+1+2=(i*3+2)+1+1+1 by omega]
  rfl
end Go.Proofs.YtlhmbkjdfjoilaaGreat
