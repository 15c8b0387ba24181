/- Words for the law ShardPlays: Has, Has2, Size, SOf, COf, TEnt. -/
import Derived.Test.YtlhmbkjdfjoilaaGreatShardPlaysG0
import Derived.Test.YtlhmbkjdfjoilaaGreatShardPlaysG2
import Derived.Test.YtlhmbkjdfjoilaaGreatShardPlaysG4
import Derived.Test.YtlhmbkjdfjoilaaGreatShardPlaysG5
import Derived.Test.YtlhmbkjdfjoilaaGreatShardPlaysG8
set_option linter.unusedSimpArgs false
set_option linter.unusedVariables false
set_option maxHeartbeats 32000000
set_option maxRecDepth 1000000
namespace Go.Proofs.YtlhmbkjdfjoilaaGreat
open Go.RowKit
def inB (n:Int) (r:Int×Int):Bool:=decide (r.1≤n)&&decide (n≤r.2)
theorem ab2 (l:aZ) (n:Int):l.any (inB n)=tf (bK l n):=by
 refine Dw ?_
 rw[List.any_eq_true]
 unfold bK inB
 simp only[Bool.and_eq_true,decide_eq_true_eq]
theorem JZ {α:Type} {p:α→Bool} {l:List α} {k:Nat} (d:α) (hk:k<l.length):(l.take (k+1)).any p=((l.take k).any p||p (l.getD k d)):=by
 rw[take_succ d hk,List.any_append];simp
theorem ab3 (lo hi n:Int) (b:Nat) (w:World) (hb:w.cell? ⟨b,0,none⟩=some (.int .i64 n)):Calls Tryz.prog 189 #[.agg #[.int .i64 lo, .int .i64 hi], .pointer (some ⟨b,0,none⟩)] w fun e w'=>e= .returned (.bool (inB n (lo,hi)))∧aj aF w w':=by
 have hlt:b<w.heap.size:=World.block_lt_of_cell? _ _ hb
 by_cases h1:lo≤n
 ·by_cases h2:n≤hi
  ·have hr:inB n (lo,hi)=true:=by simp[inB,h1,h2]
   rw[hr]
   go_enter Tryz.func189,Tryz.ntmps189
   go_wp2
   go_ret
   exact⟨rfl,aj.alloc _ _ _⟩
  ·have hr:inB n (lo,hi)=false:=by simp[inB,h2]
   have h3:decide (n≤hi)=false:=by simpa using h2
   rw[hr]
   go_enter Tryz.func189,Tryz.ntmps189
   go_wp2
   go_ret
   exact⟨rfl,aj.alloc _ _ _⟩
 ·have hr:inB n (lo,hi)=false:=by simp[inB,h1]
  have h3:decide (lo≤n)=false:=by simpa using h1
  rw[hr]
  go_enter Tryz.func189,Tryz.ntmps189
  go_wp2
  go_ret
  exact⟨rfl,aj.alloc _ _ _⟩
theorem ab4 (l:aZ) (n:Int) (b:Nat) (w:World) (v:Value) (h:k_ w v l) (hl:l.length≤1000000) (hb:w.cell? ⟨b,0,none⟩=some (.int .i64 n)):
 Calls Tryz.prog 201 #[v, .func (.func 189) #[] #[.pointer (some ⟨b,0,none⟩)]] w fun e w'=>aj aF w w'∧(l.any (inB n)=true→∃k:Nat,e= .returned (.int .i64 k))∧(l.any (inB n)=false→e= .returned (.int .i64 (-1))):=by
 have eg:∀args w,(callFunc 189 args).run Tryz.prog w= .ok (.enter 189 args) w:=enters_of Tryz.func189 (by kernel_rfl) rfl
 have HP:=ah (fun lo hi W (f:aj aF w W)=>ab3 lo hi n b W (f.cell' hb id));clear hb
 obtain⟨A,hA⟩:∃A,A=l.any (inB n):=⟨_,rfl⟩
 have HA:=ah hA
 rw[←hA]
 clear hA
 rcases Rd.shape h with⟨ad,rfl,h0⟩|⟨p,off,c,rfl,hmax⟩
 ·have BL:=ah (show A=false by rw[HA.out,List.eq_nil_of_length_eq_zero h0];rfl)
  clear h h0
  go_enter Tryz.func201,Tryz.ntmps201
  go_wp2
  go_loop [8] (fun i=>i= .int .i64 0) (fun _=>0)
  case atStart=>rfl
  case round=>
   obtain rfl:=hrel
   go_wp2
   go_ret
   exact⟨aj.refl _ _,fun h=>(by rw[BL.out]at h;cases h),fun _=>rfl⟩
 ·have HH:=ah h;clear h
  generalize hn:l.length=m at*
  have HN:=ah hn;clear hn
  go_enter Tryz.func201,Tryz.ntmps201
  go_wp2
  go_loopw [8] (fun i W=>∃k:Nat,k≤m∧i= .int .i64 k∧(l.take k).any (inB n)=false∧aj aF w W) (fun i _=>m-(intOf i).toNat)
  case atStart=>exact⟨0,Nat.zero_le _,rfl,by simp,aj.refl _ _⟩
  case round=>
   obtain⟨k,hk,rfl,ha,hw⟩:=hrel
   have qN:=ah ha;clear ha
   have HW:=ah hw;clear hw
   by_cases hlt:k<m
   ·have hlk:k<l.length:=by rw[HN.out];exact hlt
    obtain⟨q0,q1⟩:=r_ HH.out HN.out.symm k hlk
    replace q0:=HW.out.cell' q0 id
    replace q1:=HW.out.cell' q1 id
    have HT:=ah (JZ (p:=inB n) (0,0) hlk)
    have HE:=ah (fun h=>HA.out.trans (List.any_eq_true.2 ⟨_,getD_mem (0,0) hlk,h⟩):inB n (l.getD k (0,0))=true→A=true)
    have HC:=ah (HP.out (l.getD k (0,0)).1 (l.getD k (0,0)).2)
    have hpe:((l.getD k (0,0)).1,(l.getD k (0,0)).2)=l.getD k (0,0):=rfl
    rw[hpe]at HC
    clear hpe hlk
    generalize inB n (l.getD k (0,0))=y at*
    generalize (l.getD k (0,0)).1=x0 at*
    generalize (l.getD k (0,0)).2=x1 at*
    cases y with
    |true=>
     have HEX:=ah (HE.out rfl)
     clear HE HT
     go_wp2_with(go_at_call 189;refine(HC.out _ HW.out).mono ?_;rintro e w1 ⟨rfl,hw1⟩;have HW1:=ah (HW.out.aH hw1);clear hw1)
     go_ret
     exact⟨HW1.out,fun _=>⟨k,rfl⟩,fun h=>(by rw[HEX.out]at h;cases h)⟩
    |false=>
     have Gy:=ah (show(l.take (k+1)).any (inB n)=false by rw[HT.out,qN.out];rfl)
     clear HE HT
     go_wp2_with(go_at_call 189;refine(HC.out _ HW.out).mono ?_;rintro e w1 ⟨rfl,hw1⟩;have HW1:=ah (HW.out.aH hw1);clear hw1)
     go_roundw
     case rel=>exact⟨k+1,by omega,by go_num,Gy.out,HW1.out⟩
     case measure=>simp[intOf];omega
   ·have hnk:m=k:=by omega
    have hall:A=false:=by
     rw[HA.out]
     have:=qN.out
     rwa [List.take_of_length_le (by rw[HN.out,hnk];exact Nat.le_refl _)]at this
    have yY:=ah hall;clear hall
    go_wp2
    go_ret
    exact⟨HW.out,fun h=>(by rw[yY.out]at h;cases h),fun _=>rfl⟩
theorem ab5 (l:aZ) (n:Int) (b:Nat) (w:World) (v:Value) (h:k_ w v l) (hl:l.length≤1000000) (hb:w.cell? ⟨b,0,none⟩=some (.int .i64 n)):
 Calls Tryz.prog 188 #[v, .func (.func 189) #[] #[.pointer (some ⟨b,0,none⟩)]] w fun e w'=>e= .returned (.bool (tf (bK l n)))∧aj aF w w':=by
 have HI:=ah (ab4 l n b w v h hl hb)
 obtain⟨a,c,rfl⟩:=Rd.sl h
 rw[←ab2]
 clear h hb
 generalize l.length=m at*
 generalize l.any (inB n)=y at*
 cases y with
 |true=>
  go_enter Tryz.func188,Tryz.ntmps188
  go_wp2_with(go_at_call 201;refine HI.out.mono ?_;rintro e w1 ⟨hw1,hy,-⟩;obtain⟨k,he⟩:=hy rfl;subst he;have HW1:=ah hw1;clear hw1 hy)
  go_ret
  exact⟨by first|rfl|(simp;omega),HW1.out⟩
 |false=>
  go_enter Tryz.func188,Tryz.ntmps188
  go_wp2_with(go_at_call 201;refine HI.out.mono ?_;rintro e w1 ⟨hw1,-,hy⟩;have he:=hy rfl;subst he;have HW1:=ah hw1;clear hw1 hy)
  go_ret
  exact⟨by first|rfl|(simp;omega),HW1.out⟩
theorem ab6 (l:aZ) (n:Int) (w:World) (v:Value) (h:k_ w v l) (hr:dO l) (hl:l.length≤1000000):
 Calls Tryz.prog 173 #[v, .int .i64 n] w fun e w'=>e= .returned (.bool (tf (bK l n)))∧aj aF w w':=by
 have HR:=ah (fun W (f:aj aF w W)=>Jw W v l (Rd.aS h f) hr.fits)
 have HC:=ah (fun W b (f:aj aF w W) hb=>ab5 l n b W v (Rd.aS h f) hl hb)
 rw[gu hr]at HR
 obtain⟨a,c,rfl⟩:=Rd.sl h
 clear h hr
 generalize l.length=m at*
 generalize tf (bK l n)=y at*
 go_enter Tryz.func173,Tryz.ntmps173
 go_wp2_with(first
  |(go_at_call 167;refine(HR.out _ (aj.alloc _ _ _)).mono ?_;rintro e w1 ⟨rfl,hw1⟩;have y0:w1.cell? ⟨w.heap.size,0,none⟩=some (.int .i64 n):=hw1.cell' (aG (heap_alloc_new w _) 0 rfl) id;have HW1:=ah ((aj.alloc aF w _).aH hw1);clear hw1)
  |(go_at_call 188;refine(HC.out _ _ HW1.out y0).mono ?_;rintro e w2 ⟨rfl,hw2⟩;have HW2:=ah (HW1.out.aH hw2);clear hw2))
 go_ret
 exact⟨by cases y<;>rfl,HW2.out⟩
open Go.RowKit
noncomputable def eU (c:bD) (d n:Int):Bool:=qC d n&&tf (kS c d n)
theorem Vm (c:bD) (w:World) (v:Value) (hv:je w v c) (hf:kU c) (hr:eP c) (hl:c.length≤100000) (dc n:Int):
 Calls Tryz.prog 144 #[v, .agg #[.int .i64 dc, .int .i64 n]] w fun e w'=>e= .returned (.bool (eU c dc n))∧aj aF w w':=by
 obtain⟨aA,cA,rfl⟩:=hv.sl
 have HA:=ah (fun w' (h:aj aF w w')=>JM w' _ c (Rd.aS hv h) hf hl)
 have RA:=ah hr;clear hr
 have HD:=ah (fun W=>Dz dc n W)
 have OA:=ah (fun d=>Nat.le_trans (BD c d) hl)
 clear hv hf hl
 generalize c.length=m at*
 unfold eU
 cases hd:qC dc n with
 |false=>
  rw[hd]at HD
  clear hd
  go_enter Tryz.func144,Tryz.ntmps144
  go_wp2_with(go_at_call 129;refine(HA.out _ (aj.alloc _ _ _)).mono ?_;rintro e w1 ⟨hf1,hp1,-⟩;obtain⟨A,rfl,-⟩:=hp1 RA.out;clear hp1;have b1:=hf1.blk (heap_alloc_new w _) id;have HB1:=ah b1;clear b1;have dN:=ah ((aj.alloc aF w _).aH hf1);clear hf1)
  obtain⟨α,hne,K,hK1,hK0,hK2⟩:=worlds (w1.alloc (.cells #[.slice (A 0).1 (A 0).2.1 (A 0).2.2, .slice (A 1).1 (A 1).2.1 (A 1).2.2, .slice (A 2).1 (A 2).2.1 (A 2).2.2, .slice (A 3).1 (A 3).2.1 (A 3).2.2] 177))
  have dS:=ah (fun s=>(dN.out.alloc1).aH (hK1 s))
  have k0:∀s,(K s).cell? ⟨w.heap.size,0,none⟩=some (.int .i64 dc):=fun s=>(hK1 s).cell' ((aj.alloc aF w1 _).cell' (aG HB1.out 0 rfl) id) id
  have k1:∀s,(K s).cell? ⟨w.heap.size,1,none⟩=some (.int .i64 n):=fun s=>(hK1 s).cell' ((aj.alloc aF w1 _).cell' (aG HB1.out 1 rfl) id) id
  clear hK1
  refine dX K (by kernel_rfl) (by kernel_rfl) hK0 ?_
  repeat(go_big_quiet_step ((go_at_call 126;exact Calls.bT hK2 (HD.out _))))
  refine wpQuiet_nil ?_
  intro w' hw'
  obtain⟨s,rfl⟩:=hw'
  go_wp2
  go_ret
  exact⟨rfl,dS.out s⟩
 |true=>
  rw[hd]at HD
  obtain⟨k,rfl,hk4⟩:∃k:Nat,dc=(k:Int)∧k<4:=by
   unfold qC at hd
   simp only[decide_eq_true_eq]at hd
   exact⟨dc.toNat,by omega,by omega⟩
  clear hd
  have hki:(k:Int)<4:=by omega
  have hkd:decide ((k:Int)<4)=true:=by simpa using hki
  show Calls _ _ _ _ fun e w'=>e= .returned (.bool (true&&tf (bK (dA c k) n)))∧_
  have RP:=ah (RA.out.2 k (by omega) hki)
  go_enter Tryz.func144,Tryz.ntmps144
  go_wp2_with(go_at_call 129;refine(HA.out _ (aj.alloc _ _ _)).mono ?_;rintro e w1 ⟨hf1,hp1,-⟩;obtain⟨A,rfl,hvs⟩:=hp1 RA.out;clear hp1;have b1:=hf1.blk (heap_alloc_new w _) id;have HB1:=ah b1;clear b1;have dN:=ah ((aj.alloc aF w _).aH hf1);clear hf1;have z_:=ah hvs;clear hvs)
  obtain⟨α,hne,K,hK1,hK0,hK2⟩:=worlds (w1.alloc (.cells #[.slice (A 0).1 (A 0).2.1 (A 0).2.2, .slice (A 1).1 (A 1).2.1 (A 1).2.2, .slice (A 2).1 (A 2).2.1 (A 2).2.2, .slice (A 3).1 (A 3).2.1 (A 3).2.2] 177))
  have dS:=ah (fun s=>(dN.out.alloc1).aH (hK1 s))
  have k0:∀s,(K s).cell? ⟨w.heap.size,0,none⟩=some (.int .i64 k):=fun s=>(hK1 s).cell' ((aj.alloc aF w1 _).cell' (aG HB1.out 0 rfl) id) id
  have k1:∀s,(K s).cell? ⟨w.heap.size,1,none⟩=some (.int .i64 n):=fun s=>(hK1 s).cell' ((aj.alloc aF w1 _).cell' (aG HB1.out 1 rfl) id) id
  have k2:∀s,(K s).cell? ⟨w1.heap.size,k,none⟩=some (.slice (A k).1 (A k).2.1 (A k).2.2):=fun s=>(hK1 s).cell' (aG (heap_alloc_new w1 _) k (by rcases(by omega:k=0∨k=1∨k=2∨k=3)with rfl|rfl|rfl|rfl<;>rfl)) id
  have HCH:=ah (fun s=>ab6 (dA c k) n (K s) (.slice (A k).1 (A k).2.1 (A k).2.2) (Rd.aS (Rd.aS (z_.out.own k hk4).rd (aj.alloc aF w1 _)) (hK1 s)) RP.out (by have:=OA.out (k:Int);omega))
  clear hK1 z_
  generalize A k=t at*
  generalize hy:tf (bK (dA c k) n)=y at*
  have HY:=ah hy;clear hy
  refine dX K (by kernel_rfl) (by kernel_rfl) hK0 ?_
  repeat(go_big_quiet_step ((first|(go_at_call 126;exact Calls.bT hK2 (HD.out _))|(go_at_call 173;exact Calls.bT hK2 (HCH.out _)))))
  refine wpQuiet_nil ?_
  intro w' hw'
  obtain⟨s,rfl⟩:=hw'
  go_wp2
  go_ret
  exact⟨by rw[HY.out];cases y<;>rfl,dS.out s⟩
end Go.Proofs.YtlhmbkjdfjoilaaGreat
namespace Go.Proofs.YtlhmbkjdfjoilaaGreat
theorem ab8 (p:Int→aZ):(nN p).length=(p 0).length+((p 1).length+((p 2).length+(p 3).length)):=by simp[nN,iK]
theorem eP.length {c:bD} (h:eP c) {n:Nat} (hp:∀d,0≤d→d<4→(dA c d).length≤n):c.length≤4*n:=by
 have e:=congrArg List.length (Bz (Int.le_refl 0) h.1)
 rw[ab8]at e
 have h0:=hp 0 (by decide) (by decide)
 have h1:=hp 1 (by decide) (by decide)
 have h2:=hp 2 (by decide) (by decide)
 have h3:=hp 3 (by decide) (by decide)
 omega
theorem tZ.length {l:aZ} {c:bD} (h:tZ l c):c.length≤4*l.length:=by
 refine h.right.length fun d h0 h4=>?_
 have hr:=(h.right.2 d h0 h4).1
 have hn:=JW hr
 have hs:∀x∈(dA c d).map (·.1),x∈l.map (·.2):=fun x hx=>by
  obtain⟨r,hr1,rfl⟩:=List.mem_map.1 hx
  have hi:kS c d r.1:=⟨r,hr1,Int.le_refl _,(mQ hr r hr1).2⟩
  exact List.mem_map.2 ⟨_,(h.mem d r.1 h0 h4).1 hi,rfl⟩
 have:=JV hn hs
 simpa using this
theorem eP.fits {c:bD} (h:eP c):kU c:=fun s hs=>by
 have hd:∀ {c:bD} {lo:Int},jq lo c→∀s∈c,lo≤s.1∧s.1<4:=by
  intro c
  induction c with
  |nil=>intro lo _ s hs;cases hs
  |cons x c ih=>
   intro lo h s hs
   rcases List.mem_cons.1 hs with rfl|hs
   ·exact⟨h.1,h.2.1⟩
   ·have:=ih h.2.2 s hs
    have:=h.1
    omega
 have h1:=hd h.1 s hs
 have h2:=(h.2 s.1 h1.1 h1.2)
 have hm:s.2∈dA c s.1:=by
  unfold dA
  exact List.mem_map.2 ⟨s,List.mem_filter.2 ⟨hs,by simp⟩,rfl⟩
 have h3:=mQ h2.1 s.2 hm
 have h4:=h2.2 s.2 hm
 omega
end Go.Proofs.YtlhmbkjdfjoilaaGreat
namespace Go.Proofs.YtlhmbkjdfjoilaaGreat
open Go.RowKit Go.Sort
def yZ (l:List Int):aZ:=l.map fun x=>(x,x)
theorem ab9 {l:List Int} {k:Nat} (hk:k<l.length):yZ (l.take (k+1))=yZ (l.take k)++ [(l.getD k 0,l.getD k 0)]:=by
 rw[take_succ 0 hk];simp[yZ]
theorem ab_ (l:List Int) (n:Int):bK (yZ l) n↔n∈l:=by
 constructor
 ·rintro⟨r,hr,h⟩
  obtain⟨x,hx,rfl⟩:=List.mem_map.1 hr
  have:n=x:=by have h1:x≤n:=h.1;have h2:n≤x:=h.2;omega
  rw[this];exact hx
 ·exact fun h=>⟨(n,n),List.mem_map.2 ⟨n,h,rfl⟩,Int.le_refl _,Int.le_refl _⟩
theorem acd (w:World) (v:Value) (l:List Int) (hv:Jv w v l) (hl:l.length≤100000) (hb:∀x∈l,1≤x∧x≤1099511627776):
 Calls Tryz.prog 127 #[v] w fun e w'=>∃v' out,e= .returned (.tuple #[v', .int .i64 0])∧OwnAt w w' 206 2 v' out.length (fD out)∧dO out∧(∀n,bK out n↔n∈l)∧out.length≤l.length:=by
 obtain⟨i0,hi,hz0,hz1,hz2⟩:=info_parts DX
 obtain⟨aA,cA,rfl⟩:=hv.sl
 have HH:=ah hv;clear hv
 have HB:=ah hb;clear hb
 have hone:(yZ l).length=l.length:=by simp[yZ]
 have xO:=ah hone;clear hone
 have HL:=ah hl;clear hl
 generalize hn:l.length=n at*
 have HN:=ah hn;clear hn
 have eg:∀args w,(callFunc 166 args).run Tryz.prog w= .ok (.enter 166 args) w:=enters_of Tryz.func166 (by kernel_rfl) rfl
 go_enter Tryz.func127,Tryz.ntmps127
 go_wp2
 go_loopw [4,9] (fun v i ww=>∃k:Nat,k≤n∧i= .int .i64 k∧OwnAt w ww 206 2 v k (fD (yZ (l.take k)))) (fun _ i _=>n-(intOf i).toNat)
 case atStart=>exact⟨0,Nat.zero_le _,rfl,OwnAt.nil (aj.refl _ _) _ _⟩
 case round=>
  obtain⟨k,hk,rfl,ho⟩:=hrel
  obtain⟨av,cv,rfl⟩:=ho.shape
  have HO:=ah ho;clear ho
  by_cases hlt:k<n
  ·rcases Rd.shape HH.out with⟨ad,he,h0⟩|⟨b,off,cc,he,hmax⟩
   ·exfalso;have:=HN.out;omega
   ·injection he with e1 e2 e3
    subst e1 e3
    clear e2
    rw[HN.out]at hmax
    have hlk:k<l.length:=by rw[HN.out];exact hlt
    have p0:=Uk HH.out HN.out.symm k hlk
    have q0:=HO.out.aI.cell' p0 id
    clear p0
    have hbx:=HB.out _ (getD_mem 0 hlk)
    have hE:=ab9 hlk
    generalize l.getD k 0=x at*
    have HE:=ah hE;clear hE
    have hnb:xF x=true:=by unfold xF;simpa using hbx
    have ou:=ah (fun W=>hnb▸BA x W);clear hnb
    have hk1:k≤100000:=Nat.le_trans hk HL.out
    go_wp2_with(first
     |(go_at_call 165;refine(ou.out _).mono ?_;rintro e w1 ⟨rfl,hw1⟩;rw[hw1];clear hw1 w1)
     |(at_builtin;refine kT w _ [.int .i64 x, .int .i64 x] rfl (.tmp 16) (.tmp 20) 175 rfl 206 i0 _ 2 16 Tryz.underlying175 hi hz0 hz1 hz2 (by decide) (by decide) _ _ _ HO.out 1 1 rfl (by simp[Act.eval]) rfl (by simp[Value.oneCell']) (by simp only[maxLen];omega) (by omega) ?_;intro BI lg w2 bP;have OW:=ah bP;clear bP))
    go_roundw
    case rel=>exact⟨k+1,by omega,by go_num,by rw[HE.out,oO];exact OW.out⟩
    case measure=>simp[intOf];omega
  ·obtain rfl:n=k:=by omega
   rw[List.take_of_length_le (by rw[HN.out];exact Nat.le_refl _)]at HO
   have hbd:∀r∈yZ l,1≤r.1∧r.1≤r.2∧r.2≤1099511627776:=fun r hr=>by
    obtain⟨x,hx,rfl⟩:=List.mem_map.1 hr
    have:=HB.out x hx
    exact⟨this.1,Int.le_refl _,this.2⟩
   have kE:=ah hbd;clear hbd
   have hl5:=HL.out
   go_wp2_with(first
    |(go_at_call 153;refine(Vh 166 eg abP _ _ _ n (yZ l) HO.out xO.out (Nat.le_trans HL.out (by decide))).mono ?_;rintro e w3 ⟨rfl,l',hp,hs,ho3⟩;have HP:=ah hp;clear hp;have HS:=ah hs;clear hs;have dw:=ah ho3;clear ho3)
    |(go_at_call 156;refine(UY _ _ l' (by have:=dw.out.rd;rw[←xO.out,←HP.out.length_eq]at this;rw[←xO.out,←HP.out.length_eq];exact this) (by rw[HP.out.length_eq,xO.out];exact Nat.le_trans HL.out (by decide)) (Gq HP.out HS.out kE.out).2.2).mono ?_;rintro e w4 ⟨v4,rfl,nP⟩;obtain⟨a4,c4,rfl⟩:=nP.shape;have mV:=ah nP;clear nP))
   go_ret2
   have hj:=Gq HP.out HS.out kE.out
   exact⟨_,rZ l',rfl,mV.out.base dw.out.aI,hj.1,fun x=>by rw[hj.2.1,ab_],Nat.le_trans (Vj l') (by rw[HP.out.length_eq,xO.out];exact Nat.le_refl _)⟩
open Go.RowKit
structure OB (l:aZ) (k:Nat) (p:Nat→aZ):Prop where
 done:∀d,d<k→dO (p d)∧(∀n,bK (p d) n↔((d:Int),n)∈l)∧(p d).length≤20000
 todo:∀d,k≤d→d<4→p d=[]
theorem OB.NT {l:aZ} {p:Nat→aZ} (h:OB l 4 p):tZ l (nN fun d=>p d.toNat):=by
 refine⟨Uf fun d h0 h4=>(h.done d.toNat (by omega)).1,fun d n h0 h4=>?_⟩
 unfold kS
 rw[Np _ h0 h4]
 have:=(h.done d.toNat (by omega)).2.1 n
 rwa [Int.toNat_of_nonneg h0]at this
theorem ace (w:World) (v:Value) (l:aZ) (hv:k_ w v l) (hd:yM l) (hl:l.length≤20000):
 Calls Tryz.prog 90 #[v] w fun e w'=>∃v' c,e= .returned (.tuple #[v', .int .i64 0])∧OwnAt w w' 92 3 v' c.length (dY c)∧tZ l c∧c.length≤800000:=by
 obtain⟨i0,hi,hz0,hz1,hz2⟩:=info_parts FY
 obtain⟨aA,cA,rfl⟩:=hv.sl
 have HH:=ah hv;clear hv
 have HD:=ah hd;clear hd
 have HL:=ah hl;clear hl
 generalize hn:l.length=n at*
 have HN:=ah hn;clear hn
 have HST:=ah (kG.start (M:=fun _=>False) 173 2 1 (aj.refl aF w) (fun k hk=>hk.elim))
 go_enter Tryz.func90,Tryz.ntmps90
 go_wp2
 go_loopw [12] (fun i ww=>∃(k:Nat) (vs:Nat→Value),k≤n∧i= .int .i64 k∧kG (fun _=>False) 173 2 1 w ww w.heap.size vs (fun d=>(numsL (l.take k) d).length) (fun d=>qF (numsL (l.take k) d))) (fun i _=>n-(intOf i).toNat)
 case atStart=>exact⟨0,fun _=> .slice none 0 0,Nat.zero_le _,rfl,HST.out⟩
 case round=>
  obtain⟨k,vs,hk,rfl,h4⟩:=hrel
  have H4:=ah h4;clear h4
  by_cases hlt:k<n
  ·rcases Rd.shape HH.out with⟨ad,he,h0⟩|⟨b,off,cc,he,hmax⟩
   ·exfalso;have:=HN.out;omega
   ·injection he with e1 e2 e3
    subst e1 e3
    clear e2
    rw[HN.out]at hmax
    have hlk:k<l.length:=by rw[HN.out];exact hlt
    obtain⟨p0,p1⟩:=r_ HH.out HN.out.symm k hlk
    have q0:=H4.out.aI.cell' p0 id
    have q1:=H4.out.aI.cell' p1 id
    clear p0 p1
    have hdk:=HD.out _ (getD_mem (0,0) hlk)
    have jZ:=ah (fun d=>Uw (l:=l) (k:=k) d hlk)
    obtain⟨s,hgd⟩:∃s,s=l.getD k (0,0):=⟨_,rfl⟩
    rw[←hgd]at jZ q0 q1 hdk
    clear hgd
    have hdr:qC s.1 s.2=true:=by unfold qC;simpa using hdk
    have HDR:=ah (fun W=>hdr▸Dz s.1 s.2 W);clear hdr
    obtain⟨dn,hdn⟩:∃dn:Nat,s.1=dn:=⟨s.1.toNat,by omega⟩
    have hd4:dn<4:=by omega
    rw[hdn]at q0 HDR
    have lW:=ah hdn;clear hdn hdk
    have hc4:(dn:Int)<4:=by omega
    have hsp:(wr.alloc (.cells #[.int .i64 dn, .int .i64 s.2] 98)).heap[wr.heap.size]?=some (.cells #[.int .i64 dn, .int .i64 s.2] 98 (0,0)):=heap_alloc_new wr _
    have nS:=ah hsp;clear hsp
    have HB4:=ah (H4.out.box (.cells #[.int .i64 dn, .int .i64 s.2] 98))
    have hlen:(numsL (l.take k) dn).length≤k:=Nat.le_trans (NR _ _) (List.length_take_le _ _)
    have HLEN:=ah (Nat.le_trans hlen (Nat.le_trans hk HL.out))
    clear hlen
    go_wp2_with(go_at_call 126;refine(HDR.out _).mono ?_;rintro e w1 ⟨rfl,hw1⟩;have HW1:=ah hw1;clear hw1;have n0:w1.cell? ⟨wr.heap.size,0,none⟩=some (.int .i64 dn):=HW1.out.cell' (aG nS.out 0 rfl) id;have n1:w1.cell? ⟨wr.heap.size,1,none⟩=some (.int .i64 s.2):=HW1.out.cell' (aG nS.out 1 rfl) id)
    have vW:=ah ((HB4.out.keep HW1.out).keep (aj.drew _ _))
    have hsb:wr.heap.size<w1.heap.size:=World.block_lt_of_cell? _ _ n0
    obtain⟨pl,hpl⟩:∃pl,pl=(numsL (l.take k) dn).length:=⟨_,rfl⟩
    have hob:iH (zU (fun k=>False∨k=wr.heap.size) w.heap.size vs dn) w w1.drew 2 1 (vs dn) pl (qF (numsL (l.take k) dn)):=by rw[hpl];exact vW.out.but hd4
    have Gi:=ah hob;clear hob
    rw[←hpl]at HLEN
    have dV:=ah hpl;clear hpl
    clear q0 q1
    generalize wr.heap.size=sb at*
    refine iq (S:=fun w'=>w'.cell? ⟨sb,0,none⟩=some (.int .i64 dn)∧w'.cell? ⟨sb,1,none⟩=some (.int .i64 s.2)∧w'.cell? ⟨w.heap.size,dn,none⟩=some (vs dn)) 11 (by kernel_rfl) ⟨n0,n1,vW.out.cell hd4⟩ ?_
    intro hS
    have hsb:sb<w1.drew.heap.size:=hsb
    clear n0 n1
    generalize w1.drew=Y at*
    refine aX 0 19 rfl rfl ?_
    refine aX 1 20 rfl rfl ?_
    try simp only[Act.put,aO,aN,aJ]
    refine aX 2 21 rfl rfl ?_
    refine aX 3 22 rfl rfl ?_
    try simp only[Act.put,aO,aN,aJ]
    refine aX 4 23 rfl rfl ?_
    refine aX 5 24 rfl rfl ?_
    try simp only[Act.put,aO,aN,aJ]
    refine aX 6 25 rfl rfl ?_
    refine aX 7 26 rfl rfl ?_
    try simp only[Act.put,aO,aN,aJ]
    refine bg (i:=8) (by kernel_rfl) rfl (fun K hK=>?_)
    go_simp
    have hS1:(Y.alloc (.cells #[.int .i64 s.2] 2)).cell? ⟨sb,0,none⟩=some (.int .i64 dn)∧(Y.alloc (.cells #[.int .i64 s.2] 2)).cell? ⟨sb,1,none⟩=some (.int .i64 s.2)∧(Y.alloc (.cells #[.int .i64 s.2] 2)).cell? ⟨w.heap.size,dn,none⟩=some (vs dn):=⟨(aj.alloc aF Y _).cell' hS.1 id,(aj.alloc aF Y _).cell' hS.2.1 id,(aj.alloc aF Y _).cell' hS.2.2 id⟩
    refine hK.out _ _ hS1 ?_
    clear hK K
    try simp only[Act.put,aO,aN,aJ]
    refine bg (i:=9) (by kernel_rfl) rfl (fun K hK=>?_)
    refine Ol (zU (fun k=>False∨k=sb) w.heap.size vs dn) w Y [.int .i64 s.2] rfl (.tmp 24) (.tmp 27) 171 rfl 2 i0 _ 1 8 Tryz.underlying171 hi hz0 hz1 hz2 (by decide) (by decide) (vs dn) pl _ Gi.out (vW.out.lt dn) 1 1 (by simp[Act.eval]) (by simp[Act.eval]) rfl (by simp[Value.oneCell']) (by have:=HLEN.out;simp only[maxLen];omega) (by have:=HLEN.out;omega) ?_
    intro ad lg w2 bP j_
    have hS2:w2.cell? ⟨sb,0,none⟩=some (.int .i64 dn)∧w2.cell? ⟨sb,1,none⟩=some (.int .i64 s.2)∧w2.cell? ⟨w.heap.size,dn,none⟩=some (vs dn):=⟨j_.cell (.inr (.inl (.inr rfl))) hS.1,j_.cell (.inr (.inl (.inr rfl))) hS.2.1,j_.cell (.inl rfl) hS.2.2⟩
    refine hK.out _ _ hS2 ?_
    clear hK K hS1
    have rG:=ah (((vW.out.step hd4 j_ bP).mono (M':=fun _=>False) fun k hk=>hk.elim).congr (n':=fun d=>(numsL (l.take (k+1)) d).length) (xs':=fun d=>qF (numsL (l.take (k+1)) d)) (fun d hd=>by
     rw[jZ.out]
     by_cases he:d=dn
     ·subst he;rw[upd_same,if_pos lW.out,List.length_append,←dV.out];rfl
     ·rw[qK _ _ he,if_neg (by rw[lW.out];omega),List.append_nil]) (fun d hd=>by
     rw[jZ.out]
     by_cases he:d=dn
     ·subst he;rw[upd_same,if_pos lW.out,FV];rfl
     ·rw[qK _ _ he,if_neg (by rw[lW.out];omega),List.append_nil]))
    have hcf:=j_.frozen (p:=⟨w.heap.size,dn,none⟩) (.inl rfl) (aW vW.out.blk dn)
    clear bP j_
    try simp only[Act.put,aO,aN,aJ]
    refine aX 10 29 rfl rfl ?_
    try simp only[Act.put,aO,aN,aJ]
    refine gJ (by kernel_rfl) (by kernel_rfl) rfl (fun K hK=>?_)
    have hcz:=hS2.2.2
    clear hS2 hS
    go_simp
    refine hK.out _ _ ?_
    clear hK K hcz hcf
    go_wp2
    go_roundw
    case rel=>exact⟨k+1,_,by omega,by go_num,rG.out⟩
    case measure=>simp[intOf];omega
  ·obtain rfl:n=k:=by omega
   rw[List.take_of_length_le (by rw[HN.out];exact Nat.le_refl _)]at H4
   obtain⟨wo,rfl⟩:∃wo:World,wo=wr:=⟨_,rfl⟩
   have hsh:∀d,d<4→∃t:Option Addr×Nat×Nat,vs d= .slice t.1 t.2.1 t.2.2:=fun d hd=>by
    obtain⟨a,c,h⟩:=(H4.out.own d hd).at_.shape
    exact⟨(a,_,c),h⟩
   obtain⟨A,hA⟩:=Go.Deep.choose_lt hsh
   clear hsh
   have c0:wo.cell? ⟨w.heap.size,0,none⟩=some (.slice (A 0).1 (A 0).2.1 (A 0).2.2):=hA 0 (by omega)▸H4.out.cell (d:=0) (by omega)
   have c1:wo.cell? ⟨w.heap.size,1,none⟩=some (.slice (A 1).1 (A 1).2.1 (A 1).2.2):=hA 1 (by omega)▸H4.out.cell (d:=1) (by omega)
   have c2:wo.cell? ⟨w.heap.size,2,none⟩=some (.slice (A 2).1 (A 2).2.1 (A 2).2.2):=hA 2 (by omega)▸H4.out.cell (d:=2) (by omega)
   have c3:wo.cell? ⟨w.heap.size,3,none⟩=some (.slice (A 3).1 (A 3).2.1 (A 3).2.2):=hA 3 (by omega)▸H4.out.cell (d:=3) (by omega)
   have zW:=ah hA;clear hA
   have hgw:w.heap.size<wo.heap.size:=World.block_lt_of_cell? _ _ c0
   have hp0:=rH.start (w0:=w) (w:=wo) (A:=fun _=>(none,0,0)) (p:=fun _=> []) ⟨fun d hd=>OwnAt.nil H4.out.aI _ _⟩
   have Oy:=ah hp0;clear hp0
   go_wp2
   clear c0 c1 c2 c3
   go_loopw [32] (fun i ww=>∃(j:Nat) (A':Nat→Sl) (p:Nat→aZ),j≤4∧i= .int .i64 j∧rH w ww wo.heap.size A' p∧OB l j p∧
    aj (fun k=>k=wo.heap.size) (wo.alloc (.cells #[.slice none 0 0, .slice none 0 0, .slice none 0 0, .slice none 0 0] 177)) ww) (fun i _=>4-(intOf i).toNat)
   case atStart=>exact⟨0,fun _=>(none,0,0),fun _=> [],by omega,rfl,Oy.out,⟨fun d hd=>by omega,fun d _ _=>rfl⟩,aj.refl _ _⟩
   case round=>
    obtain⟨j,A',p,hj,rfl,hp,hou,Gv⟩:=hrel
    have HP:=ah hp;clear hp
    have Eb:=ah hou;clear hou
    have D_:=ah Gv;clear Gv
    by_cases zX:j<4
    ·have hki:(j:Int)<4:=by omega
     have hkd:decide ((j:Int)<4)=true:=by simpa using hki
     have hix:∀W,(Instr.index 173 (.agg #[.slice (A 0).1 (A 0).2.1 (A 0).2.2, .slice (A 1).1 (A 1).2.1 (A 1).2.2, .slice (A 2).1 (A 2).2.1 (A 2).2.2, .slice (A 3).1 (A 3).2.1 (A 3).2.2]) (.int .i64 (j:Int))).run Tryz.prog W= .ok (.slice (A j).1 (A j).2.1 (A j).2.2) W:=by
      rcases(by omega:j=0∨j=1∨j=2∨j=3)with rfl|rfl|rfl|rfl<;>exact fun _=>by kernel_rfl
     have hob:=((H4.out.own j zX).at_.keep (aj.alloc aF wo (.cells #[.slice none 0 0, .slice none 0 0, .slice none 0 0, .slice none 0 0] 177)))
     have hno:=Rd.keep hob.rd D_.out (fun q hq h=>by have:=(H4.out.own j zX).at_.lt q hq;have h:q=wo.heap.size:=h;omega)
     rw[zW.out j zX]at hno
     have hcall:=acd wr _ (numsL l j) hno (Nat.le_trans (NR l j) (by rw[HN.out];exact Nat.le_trans HL.out (by decide))) (fun x hx=>by have:=HD.out _ (JF.1 hx);exact⟨this.2.2.1,this.2.2.2⟩)
     have HC:=ah hcall;clear hcall hob hno
     have hpc:=HP.out.cell zX
     have BM:=ah hpc;clear hpc
     go_wp2_with(go_at_call 127;refine HC.out.mono ?_;rintro e w3 ⟨v3,out,rfl,ho3,hr3,yV,hl3⟩;obtain⟨a3,c3,rfl⟩:=ho3.shape;have dw:=ah ho3;clear ho3;have HR3:=ah hr3;clear hr3;have Gf:=ah yV;clear yV;have ku:=ah hl3;clear hl3;have hcz:=dw.out.aI.cell' BM.out id;have hfz:w3.frozen? ⟨wo.heap.size,j,none⟩=false:=aW (HP.out.keep dw.out.aI).blk j)
     have Gx:=ah (HP.out.set zX (t:=(a3,out.length,c3)) dw.out)
     go_roundw
     case rel=>exact⟨j+1,_,_,by omega,by go_num,Gx.out,⟨fun d hd=>by
      by_cases he:d=j
      ·subst he;rw[upd_same];exact⟨HR3.out,fun n=>by rw[Gf.out,JF],Nat.le_trans ku.out (Nat.le_trans (NR l d) (by rw[HN.out];exact HL.out))⟩
      ·rw[qK _ _ he];exact Eb.out.done d (by omega),fun d h1 h2=>by
      rw[qK _ _ (by omega)];exact Eb.out.todo d (by omega) h2⟩,(D_.out.aH dw.out.aI).trans (aj.setCell (S:=fun k=>k=wo.heap.size) w3 (p:=⟨wo.heap.size,j,none⟩) (.inl rfl) _) fun _ _ h=>h⟩
     case measure=>simp[intOf];omega
    ·obtain rfl:j=4:=by omega
     have c0:wr.cell? ⟨wo.heap.size,0,none⟩=some (.slice (A' 0).1 (A' 0).2.1 (A' 0).2.2):=HP.out.cell (by omega)
     have c1:wr.cell? ⟨wo.heap.size,1,none⟩=some (.slice (A' 1).1 (A' 1).2.1 (A' 1).2.2):=HP.out.cell (by omega)
     have c2:wr.cell? ⟨wo.heap.size,2,none⟩=some (.slice (A' 2).1 (A' 2).2.1 (A' 2).2.2):=HP.out.cell (by omega)
     have c3:wr.cell? ⟨wo.heap.size,3,none⟩=some (.slice (A' 3).1 (A' 3).2.1 (A' 3).2.2):=HP.out.cell (by omega)
     go_wp2_with(go_at_call 128;refine(Vd _ A' p (fun d hd=>(HP.out.own d hd).at_.rd) (fun d hd=>Nat.le_trans (Eb.out.done d hd).2.2 (by decide))).mono ?_;rintro e w3 ⟨v3,c,rfl,ho3,hc3,hl3⟩;obtain⟨a3,k3,rfl⟩:=ho3.shape;have dw:=ah ho3;clear ho3;have BK:=ah hc3;clear hc3;have ku:=ah hl3;clear hl3)
     go_ret2
     exact⟨_,c,rfl,dw.out.base (HP.out.own 0 (by omega)).at_.aI,by rw[BK.out];exact Eb.out.NT,ku.out⟩
open Go.RowKit
theorem acf (d n e m:Int):(!decide (0≤uO d n e m))=qE d n e m:=by
 rw[←Uh]
 by_cases h:0≤uO d n e m
 ·have:¬uO d n e m<0:=by omega
  simp[h,this]
 ·have:uO d n e m<0:=by omega
  simp[h,this]
theorem Vo (w:World) (v:Value) (es:List aQ) (hv:Rd w v es.length (jy es)) (hok:DN es):
 Calls Tryz.prog 163 #[v] w fun e w'=>e= .returned (.bool (jg none es))∧aj aF w w':=by
 obtain⟨aA,cA,rfl⟩:=hv.sl
 have HH:=ah hv;clear hv
 have fH:=ah hok;clear hok
 generalize hn:es.length=n at*
 have HN:=ah hn;clear hn
 go_enter Tryz.func163,Tryz.ntmps163
 go_wp2
 go_loopw [7] (fun i ww=>∃k:Nat,k≤n∧i= .int .i64 k∧jg none (es.take k)=true∧aj aF w ww) (fun i _=>n-(intOf i).toNat)
 case atStart=>exact⟨0,Nat.zero_le _,rfl,rfl,aj.refl _ _⟩
 case round=>
  obtain⟨k,hk,rfl,hr,hw⟩:=hrel
  have HW:=ah hw;clear hw
  have HR:=ah hr;clear hr
  by_cases hlt:k<n
  ·rcases Rd.shape (HH.out.aS HW.out)with⟨ad,he,h0⟩|⟨b,off,cc,he,hmax⟩
   ·exfalso;have:=HN.out;omega
   ·injection he with e1 e2 e3
    subst e1 e3
    clear e2
    have hlk:k<es.length:=by rw[HN.out];exact hlt
    have her:=HH.out.aS HW.out
    obtain⟨q0,q1,q2,q3⟩:=ug her k hlk
    have hsz:=(fH.out.at hlk).2.2.2
    have hfk:=(fH.out.at hlk).2.2.1
    have hbl:b<wr.heap.size:=World.block_lt_of_cell? _ _ q0
    rcases Nat.eq_zero_or_pos k with rfl|hk0
    ·have hS:=UD (l:=es) hlk
     generalize es.getD 0 aQ.zero=e at*
     simp only[Nat.zero_mul,Nat.add_zero]at q0 q1 q2 q3
     clear her
     have hbf:aj aF wr (wr.alloc (.cells #[.int .i64 e.dc, .int .i64 e.n, .string e.s, .int .i64 e.k] 100)):=aj.alloc _ _ _
     have fO:=ah (HW.out.aH hbf)
     obtain⟨α,hne,K,hK3,hK0,hK2⟩:=worlds (wr.alloc (.cells #[.int .i64 e.dc, .int .i64 e.n, .string e.s, .int .i64 e.k] 100))
     have hK1:=hK3
     have n0:=(fun s=>(hK1 s).cell' (aG (heap_alloc_new wr _) 0 rfl:(wr.alloc (.cells #[.int .i64 e.dc, .int .i64 e.n, .string e.s, .int .i64 e.k] 100)).cell? ⟨wr.heap.size,0,none⟩=some (.int .i64 e.dc)) id)
     have n1:=(fun s=>(hK1 s).cell' (aG (heap_alloc_new wr _) 1 rfl:(wr.alloc (.cells #[.int .i64 e.dc, .int .i64 e.n, .string e.s, .int .i64 e.k] 100)).cell? ⟨wr.heap.size,1,none⟩=some (.int .i64 e.n)) id)
     have n2:=(fun s=>(hK1 s).cell' (aG (heap_alloc_new wr _) 2 rfl:(wr.alloc (.cells #[.int .i64 e.dc, .int .i64 e.n, .string e.s, .int .i64 e.k] 100)).cell? ⟨wr.heap.size,2,none⟩=some (.string e.s)) id)
     have n3:=(fun s=>(hK1 s).cell' (aG (heap_alloc_new wr _) 3 rfl:(wr.alloc (.cells #[.int .i64 e.dc, .int .i64 e.n, .string e.s, .int .i64 e.k] 100)).cell? ⟨wr.heap.size,3,none⟩=some (.int .i64 e.k)) id)
     cases hd:qC e.dc e.n with
     |false=>
      have he:iW e=false:=by simp[iW,hd]
      rw[he]at hS
      (try simp only[Bool.false_and]at hS)
      have HS:=ah hS;clear hS he
      have HDR:=ah (fun W=>Dz e.dc e.n W)
      rw[hd]at HDR
      have jY:=ah (fun W=>vU 0 0 0 0 W)
      clear hd
      go_wp2_with fail
      refine dX K (by kernel_rfl) (by kernel_rfl) hK0 ?_
      repeat(go_big_quiet_step ((first|(go_at_call 126;exact Calls.bT hK2 (HDR.out _))|(go_at_call 143;exact Calls.bT hK2 (jY.out _)))))
      refine wpQuiet_nil ?_
      intro w' hw'
      obtain⟨s,rfl⟩:=hw'
      have hfs:=hK1 s
      go_wp2
      go_ret
      exact⟨dF (uQ HS.out).symm,fO.out.aH hfs⟩
     |true=>
      have HDR:=ah (fun W=>Dz e.dc e.n W)
      rw[hd]at HDR
      cases h1:decide (30<(e.s.size:Int))with
      |true=>
       have jY:=ah (fun W=>vU 0 0 0 0 W)
       have he:iW e=false:=by simp at h1;simp[iW];intros;omega
       rw[he]at hS
       (try simp only[Bool.false_and]at hS)
       have HS:=ah hS;clear hS he
       clear hd
       go_wp2_with fail
       refine dX K (by kernel_rfl) (by kernel_rfl) hK0 ?_
       repeat(go_big_quiet_step ((first|(go_at_call 126;exact Calls.bT hK2 (HDR.out _))|(go_at_call 143;exact Calls.bT hK2 (jY.out _)))))
       refine wpQuiet_nil ?_
       intro w' hw'
       obtain⟨s,rfl⟩:=hw'
       have hfs:=hK1 s
       go_wp2
       go_ret
       exact⟨dF (uQ HS.out).symm,fO.out.aH hfs⟩
      |false=>
       cases h2:decide (1099511627776<e.k)with
       |true=>
        have jY:=ah (fun W=>vU 0 0 0 0 W)
        have he:iW e=false:=by simp at h2;simp[iW];intros;omega
        rw[he]at hS
        (try simp only[Bool.false_and]at hS)
        have HS:=ah hS;clear hS he
        clear hd
        go_wp2_with fail
        refine dX K (by kernel_rfl) (by kernel_rfl) hK0 ?_
        repeat(go_big_quiet_step ((first|(go_at_call 126;exact Calls.bT hK2 (HDR.out _))|(go_at_call 143;exact Calls.bT hK2 (jY.out _)))))
        refine wpQuiet_nil ?_
        intro w' hw'
        obtain⟨s,rfl⟩:=hw'
        have hfs:=hK1 s
        go_wp2
        go_ret
        exact⟨dF (uQ HS.out).symm,fO.out.aH hfs⟩
       |false=>
        cases h3:decide (e.k< -1099511627776)with
        |true=>
         have jY:=ah (fun W=>vU 0 0 0 0 W)
         have he:iW e=false:=by simp at h3;simp[iW];intros;omega
         rw[he]at hS
         (try simp only[Bool.false_and]at hS)
         have HS:=ah hS;clear hS he
         clear hd
         go_wp2_with fail
         refine dX K (by kernel_rfl) (by kernel_rfl) hK0 ?_
         repeat(go_big_quiet_step ((first|(go_at_call 126;exact Calls.bT hK2 (HDR.out _))|(go_at_call 143;exact Calls.bT hK2 (jY.out _)))))
         refine wpQuiet_nil ?_
         intro w' hw'
         obtain⟨s,rfl⟩:=hw'
         have hfs:=hK1 s
         go_wp2
         go_ret
         exact⟨dF (uQ HS.out).symm,fO.out.aH hfs⟩
        |false=>
         have he:iW e=true:=by simp at h1 h2 h3;simp[iW,hd];omega
         rw[he]at hS
         clear he hd
         have jY:=ah (fun W=>vU 0 0 0 0 W)
         have HS:=ah hS;clear hS
         go_wp2_with fail
         refine dX K (by kernel_rfl) (by kernel_rfl) hK0 ?_
         repeat(go_big_quiet_step ((first|(go_at_call 126;exact Calls.bT hK2 (HDR.out _))|(go_at_call 143;exact Calls.bT hK2 (jY.out _)))))
         refine wpQuiet_nil ?_
         intro w' hw'
         obtain⟨s,rfl⟩:=hw'
         have hfs:=hK1 s
         go_wp2
         go_roundw
         case rel=>exact⟨0+1,by omega,by go_num,HS.out,fO.out.aH hfs⟩
         case measure=>simp[intOf];omega
    ·obtain⟨j,rfl⟩:∃j,k=j+1:=⟨k-1,by omega⟩
     obtain⟨p0,p1,-,-⟩:=ug her j (by omega)
     clear her
     have hS:=UE (l:=es) (j:=j) hlk HR.out
     generalize es.getD (j+1) aQ.zero=e at*
     generalize es.getD j aQ.zero=pe at*
     have hbf:aj aF wr (wr.alloc (.cells #[.int .i64 e.dc, .int .i64 e.n, .string e.s, .int .i64 e.k] 100)):=aj.alloc _ _ _
     have fO:=ah (HW.out.aH hbf)
     obtain⟨α,hne,K,hK3,hK0,hK2⟩:=worlds (wr.alloc (.cells #[.int .i64 e.dc, .int .i64 e.n, .string e.s, .int .i64 e.k] 100))
     have hK1:=hK3
     have n0:=(fun s=>(hK1 s).cell' (aG (heap_alloc_new wr _) 0 rfl:(wr.alloc (.cells #[.int .i64 e.dc, .int .i64 e.n, .string e.s, .int .i64 e.k] 100)).cell? ⟨wr.heap.size,0,none⟩=some (.int .i64 e.dc)) id)
     have n1:=(fun s=>(hK1 s).cell' (aG (heap_alloc_new wr _) 1 rfl:(wr.alloc (.cells #[.int .i64 e.dc, .int .i64 e.n, .string e.s, .int .i64 e.k] 100)).cell? ⟨wr.heap.size,1,none⟩=some (.int .i64 e.n)) id)
     have n2:=(fun s=>(hK1 s).cell' (aG (heap_alloc_new wr _) 2 rfl:(wr.alloc (.cells #[.int .i64 e.dc, .int .i64 e.n, .string e.s, .int .i64 e.k] 100)).cell? ⟨wr.heap.size,2,none⟩=some (.string e.s)) id)
     have n3:=(fun s=>(hK1 s).cell' (aG (heap_alloc_new wr _) 3 rfl:(wr.alloc (.cells #[.int .i64 e.dc, .int .i64 e.n, .string e.s, .int .i64 e.k] 100)).cell? ⟨wr.heap.size,3,none⟩=some (.int .i64 e.k)) id)
     have m0:=(fun s=>(hK1 s).cell' (hbf.cell' p0 id) id)
     have m1:=(fun s=>(hK1 s).cell' (hbf.cell' p1 id) id)
     clear p0 p1
     cases hd:qC e.dc e.n with
     |false=>
      have he:iW e=false:=by simp[iW,hd]
      rw[he]at hS
      (try simp only[Bool.false_and]at hS)
      have HS:=ah hS;clear hS he
      have HDR:=ah (fun W=>Dz e.dc e.n W)
      rw[hd]at HDR
      have jY:=ah (fun W=>vU 0 0 0 0 W)
      clear hd
      go_wp2_with fail
      refine dX K (by kernel_rfl) (by kernel_rfl) hK0 ?_
      repeat(go_big_quiet_step ((first|(go_at_call 126;exact Calls.bT hK2 (HDR.out _))|(go_at_call 143;exact Calls.bT hK2 (jY.out _)))))
      refine wpQuiet_nil ?_
      intro w' hw'
      obtain⟨s,rfl⟩:=hw'
      have hfs:=hK1 s
      go_wp2
      go_ret
      exact⟨dF (uQ HS.out).symm,fO.out.aH hfs⟩
     |true=>
      have HDR:=ah (fun W=>Dz e.dc e.n W)
      rw[hd]at HDR
      cases h1:decide (30<(e.s.size:Int))with
      |true=>
       have jY:=ah (fun W=>vU 0 0 0 0 W)
       have he:iW e=false:=by simp at h1;simp[iW];intros;omega
       rw[he]at hS
       (try simp only[Bool.false_and]at hS)
       have HS:=ah hS;clear hS he
       clear hd
       go_wp2_with fail
       refine dX K (by kernel_rfl) (by kernel_rfl) hK0 ?_
       repeat(go_big_quiet_step ((first|(go_at_call 126;exact Calls.bT hK2 (HDR.out _))|(go_at_call 143;exact Calls.bT hK2 (jY.out _)))))
       refine wpQuiet_nil ?_
       intro w' hw'
       obtain⟨s,rfl⟩:=hw'
       have hfs:=hK1 s
       go_wp2
       go_ret
       exact⟨dF (uQ HS.out).symm,fO.out.aH hfs⟩
      |false=>
       cases h2:decide (1099511627776<e.k)with
       |true=>
        have jY:=ah (fun W=>vU 0 0 0 0 W)
        have he:iW e=false:=by simp at h2;simp[iW];intros;omega
        rw[he]at hS
        (try simp only[Bool.false_and]at hS)
        have HS:=ah hS;clear hS he
        clear hd
        go_wp2_with fail
        refine dX K (by kernel_rfl) (by kernel_rfl) hK0 ?_
        repeat(go_big_quiet_step ((first|(go_at_call 126;exact Calls.bT hK2 (HDR.out _))|(go_at_call 143;exact Calls.bT hK2 (jY.out _)))))
        refine wpQuiet_nil ?_
        intro w' hw'
        obtain⟨s,rfl⟩:=hw'
        have hfs:=hK1 s
        go_wp2
        go_ret
        exact⟨dF (uQ HS.out).symm,fO.out.aH hfs⟩
       |false=>
        cases h3:decide (e.k< -1099511627776)with
        |true=>
         have jY:=ah (fun W=>vU 0 0 0 0 W)
         have he:iW e=false:=by simp at h3;simp[iW];intros;omega
         rw[he]at hS
         (try simp only[Bool.false_and]at hS)
         have HS:=ah hS;clear hS he
         clear hd
         go_wp2_with fail
         refine dX K (by kernel_rfl) (by kernel_rfl) hK0 ?_
         repeat(go_big_quiet_step ((first|(go_at_call 126;exact Calls.bT hK2 (HDR.out _))|(go_at_call 143;exact Calls.bT hK2 (jY.out _)))))
         refine wpQuiet_nil ?_
         intro w' hw'
         obtain⟨s,rfl⟩:=hw'
         have hfs:=hK1 s
         go_wp2
         go_ret
         exact⟨dF (uQ HS.out).symm,fO.out.aH hfs⟩
        |false=>
         have he:iW e=true:=by simp at h1 h2 h3;simp[iW,hd];omega
         rw[he]at hS
         clear he hd
         rw[Bool.true_and]at hS
         have jY:=ah (fun W=>vU pe.dc pe.n e.dc e.n W)
         have hge:=acf pe.dc pe.n e.dc e.n
         rw[←hge]at hS
         generalize uO pe.dc pe.n e.dc e.n=cc at*
         cases hl:decide (0≤cc)with
         |true=>
          rw[hl]at hS
          have hS:=hS
          have HS:=ah hS;clear hS hge
          go_wp2_with fail
          refine dX K (by kernel_rfl) (by kernel_rfl) hK0 ?_
          repeat(go_big_quiet_step ((first|(go_at_call 126;exact Calls.bT hK2 (HDR.out _))|(go_at_call 143;exact Calls.bT hK2 (jY.out _)))))
          refine wpQuiet_nil ?_
          intro w' hw'
          obtain⟨s,rfl⟩:=hw'
          have hfs:=hK1 s
          go_wp2
          go_ret
          exact⟨dF (uQ HS.out).symm,fO.out.aH hfs⟩
         |false=>
          rw[hl]at hS
          have HS:=ah hS;clear hS hge
          go_wp2_with fail
          refine dX K (by kernel_rfl) (by kernel_rfl) hK0 ?_
          repeat(go_big_quiet_step ((first|(go_at_call 126;exact Calls.bT hK2 (HDR.out _))|(go_at_call 143;exact Calls.bT hK2 (jY.out _)))))
          refine wpQuiet_nil ?_
          intro w' hw'
          obtain⟨s,rfl⟩:=hw'
          have hfs:=hK1 s
          go_wp2
          go_roundw
          case rel=>exact⟨j+1+1,by omega,by go_num,HS.out,fO.out.aH hfs⟩
          case measure=>simp[intOf];omega
  ·obtain rfl:n=k:=by omega
   rw[List.take_of_length_le (by rw[HN.out];exact Nat.le_refl _)]at HR
   go_wp2
   go_ret
   exact⟨dF HR.out.symm,HW.out⟩
end Go.Proofs.YtlhmbkjdfjoilaaGreat
