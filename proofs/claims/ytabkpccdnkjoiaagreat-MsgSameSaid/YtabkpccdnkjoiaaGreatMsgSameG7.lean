/- Words for the law MsgSame: Size, SOf, COf, R8a, R8b. -/
import Derived.Test.YtabkpccdnkjoiaaGreatMsgSameG0
import Derived.Test.YtabkpccdnkjoiaaGreatMsgSameG3
import Derived.Test.YtabkpccdnkjoiaaGreatMsgSameG6
set_option linter.unusedSimpArgs false
set_option linter.unusedVariables false
set_option maxHeartbeats 32000000
set_option maxRecDepth 1000000
namespace Go.Proofs.YtabkpccdnkjoiaaGreat
theorem VP (p:Int→aX):(lF p).length=(p 0).length+((p 1).length+((p 2).length+(p 3).length)):=by simp[lF,dP]
theorem dw.length {c:aW} (h:dw c) {n:Nat} (hp:∀d,0≤d→d<4→(bI c d).length≤n):c.length≤4*n:=by
 have e:=congrArg List.length (zH (Int.le_refl 0) h.1)
 rw[VP]at e
 have h0:=hp 0 (by decide) (by decide)
 have h1:=hp 1 (by decide) (by decide)
 have h2:=hp 2 (by decide) (by decide)
 have h3:=hp 3 (by decide) (by decide)
 omega
theorem og.length {l:aX} {c:aW} (h:og l c):c.length≤4*l.length:=by
 refine h.right.length fun d h0 h4=>?_
 have hr:=(h.right.2 d h0 h4).1
 have hn:=Iy hr
 have hs:∀x∈(bI c d).map (·.1),x∈l.map (·.2):=fun x hx=>by
  obtain⟨r,hr1,rfl⟩:=List.mem_map.1 hx
  have hi:jQ c d r.1:=⟨r,hr1,Int.le_refl _,(mY hr r hr1).2⟩
  exact List.mem_map.2 ⟨_,(h.mem d r.1 h0 h4).1 hi,rfl⟩
 have:=Iu hn hs
 simpa using this
theorem oW.IW {a b c:aW} (h:oW 2 a b c) (ra:dw a) (rb:dw b):c.length≤4*(a.length+b.length):=by
 refine h.right.length fun d h0 h4=>?_
 have pa:=ra.2 d h0 h4
 have pb:=rb.2 d h0 h4
 have e:bI c d=oV (bI a d) (bI b d):=by
  refine MJ (h.right.2 d h0 h4).1 (Eb _ _ _ _ pa.1 pb.1) fun n=>?_
  rw[Ec _ _ _ _ pb.1]
  have:=h.mem d n h0 h4
  unfold gG jQ at this
  simpa using this
 rw[e]
 have:=NY pa pb
 have h1:=yE a d
 have h2:=yE b d
 omega
theorem dw.fits {c:aW} (h:dw c):kE c:=fun s hs=>by
 have hd:∀ {c:aW} {lo:Int},g_ lo c→∀s∈c,lo≤s.1∧s.1<4:=by
  intro c
  induction c with
  |nil=>intro lo _ s hs;cases hs
  |cons x c ih=>
   intro lo h s hs
   rcases List.mem_cons.1 hs with rfl|hs
   ·exact⟨h.1,h.2.1⟩
   ·have:=ih h.2.2 s hs
    have:=h.1
    omega
 have h1:=hd h.1 s hs
 have h2:=(h.2 s.1 h1.1 h1.2)
 have hm:s.2∈bI c s.1:=by
  unfold bI
  exact List.mem_map.2 ⟨s,List.mem_filter.2 ⟨hs,by simp⟩,rfl⟩
 have h3:=mY h2.1 s.2 hm
 have h4:=h2.2 s.2 hm
 omega
end Go.Proofs.YtabkpccdnkjoiaaGreat
namespace Go.Proofs.YtabkpccdnkjoiaaGreat
open Go.RowKit Go.Sort
def vT (l:List Int):aX:=l.map fun x=>(x,x)
theorem VQ {l:List Int} {k:Nat} (hk:k<l.length):vT (l.take (k+1))=vT (l.take k)++ [(l.getD k 0,l.getD k 0)]:=by
 rw[take_succ 0 hk];simp[vT]
theorem VR (l:List Int) (n:Int):bU (vT l) n↔n∈l:=by
 constructor
 ·rintro⟨r,hr,h⟩
  obtain⟨x,hx,rfl⟩:=List.mem_map.1 hr
  have:n=x:=by have h1:x≤n:=h.1;have h2:n≤x:=h.2;omega
  rw[this];exact hx
 ·exact fun h=>⟨(n,n),List.mem_map.2 ⟨n,h,rfl⟩,Int.le_refl _,Int.le_refl _⟩
theorem VT (w:World) (v:Value) (l:List Int) (hv:Ew w v l) (hl:l.length≤100000) (hb:∀x∈l,1≤x∧x≤1099511627776):
 Calls Tryz.prog 237 #[v] w fun e w'=>∃v' out,e= .returned (.tuple #[v', .int .i64 0])∧OwnAt w w' 288 2 v' out.length (dU out)∧dA out∧(∀n,bU out n↔n∈l)∧out.length≤l.length:=by
 obtain⟨i0,hi,hz0,hz1,hz2⟩:=info_parts EJ
 obtain⟨aA,cA,rfl⟩:=hv.sl
 have HH:=ah hv;clear hv
 have HB:=ah hb;clear hb
 have hone:(vT l).length=l.length:=by simp[vT]
 have pJ:=ah hone;clear hone
 have HL:=ah hl;clear hl
 generalize hn:l.length=n at*
 have HN:=ah hn;clear hn
 have eg:∀args w,(callFunc 268 args).run Tryz.prog w= .ok (.enter 268 args) w:=enters_of Tryz.func268 (by kernel_rfl) rfl
 go_enter Tryz.func237,Tryz.ntmps237
 go_wp2
 go_loopw [4,9] (fun v i ww=>∃k:Nat,k≤n∧i= .int .i64 k∧OwnAt w ww 288 2 v k (dU (vT (l.take k)))) (fun _ i _=>n-(intOf i).toNat)
 case atStart=>exact⟨0,Nat.zero_le _,rfl,OwnAt.nil (aj.refl _ _) _ _⟩
 case round=>
  obtain⟨k,hk,rfl,ho⟩:=hrel
  obtain⟨av,cv,rfl⟩:=ho.shape
  have HO:=ah ho;clear ho
  by_cases hlt:k<n
  ·rcases Rd.shape HH.out with⟨ad,he,h0⟩|⟨b,off,cc,he,hmax⟩
   ·exfalso;have:=HN.out;omega
   ·injection he with e1 e2 e3
    subst e1 e3
    clear e2
    rw[HN.out]at hmax
    have hlk:k<l.length:=by rw[HN.out];exact hlt
    have p0:=M_ HH.out HN.out.symm k hlk
    have q0:=HO.out.aP.cell' p0 id
    clear p0
    have hbx:=HB.out _ (getD_mem 0 hlk)
    have hE:=VQ hlk
    generalize l.getD k 0=x at*
    have HE:=ah hE;clear hE
    have hnb:uJ x=true:=by unfold uJ;simpa using hbx
    have BM:=ah (fun W=>hnb▸yC x W);clear hnb
    have hk1:k≤100000:=Nat.le_trans hk HL.out
    go_wp2_with(first
     |(go_at_call 267;refine(BM.out _).mono ?_;rintro e w1 ⟨rfl,hw1⟩;rw[hw1];clear hw1 w1)
     |(at_builtin;refine oh w _ [.int .i64 x, .int .i64 x] rfl (.tmp 16) (.tmp 20) 266 rfl 288 i0 _ 2 16 Tryz.underlying266 hi hz0 hz1 hz2 (by decide) (by decide) _ _ _ HO.out 1 1 rfl (by simp[Act.eval]) rfl (by simp[Value.oneCell']) (by simp only[maxLen];omega) (by omega) ?_;intro EN mF w2 cZ;have OW:=ah cZ;clear cZ))
    go_roundw
    case rel=>exact⟨k+1,by omega,by go_num,by rw[HE.out,oZ];exact OW.out⟩
    case measure=>simp[intOf];omega
  ·obtain rfl:n=k:=by omega
   rw[List.take_of_length_le (by rw[HN.out];exact Nat.le_refl _)]at HO
   have hbd:∀r∈vT l,1≤r.1∧r.1≤r.2∧r.2≤1099511627776:=fun r hr=>by
    obtain⟨x,hx,rfl⟩:=List.mem_map.1 hr
    have:=HB.out x hx
    exact⟨this.1,Int.le_refl _,this.2⟩
   have wW:=ah hbd;clear hbd
   have hl5:=HL.out
   go_wp2_with(first
    |(go_at_call 232;refine(Vy 268 eg Vx _ _ _ n (vT l) HO.out pJ.out (Nat.le_trans HL.out (by decide))).mono ?_;rintro e w3 ⟨rfl,l',hp,hs,ho3⟩;have HP:=ah hp;clear hp;have HS:=ah hs;clear hs;have dJ:=ah ho3;clear ho3)
    |(go_at_call 235;refine(Vd _ _ l' (by have:=dJ.out.rd;rw[←pJ.out,←HP.out.length_eq]at this;rw[←pJ.out,←HP.out.length_eq];exact this) (by rw[HP.out.length_eq,pJ.out];exact Nat.le_trans HL.out (by decide)) (NV HP.out HS.out wW.out).2.2).mono ?_;rintro e w4 ⟨v4,rfl,jH⟩;obtain⟨a4,c4,rfl⟩:=jH.shape;have qI:=ah jH;clear jH))
   go_ret2
   have hj:=NV HP.out HS.out wW.out
   exact⟨_,qC l',rfl,qI.out.base dJ.out.aP,hj.1,fun x=>by rw[hj.2.1,VR],Nat.le_trans (Vz l') (by rw[HP.out.length_eq,pJ.out];exact Nat.le_refl _)⟩
open Go.RowKit
structure IX (l:aX) (k:Nat) (p:Nat→aX):Prop where
 done:∀d,d<k→dA (p d)∧(∀n,bU (p d) n↔((d:Int),n)∈l)∧(p d).length≤20000
 todo:∀d,k≤d→d<4→p d=[]
theorem IX.II {l:aX} {p:Nat→aX} (h:IX l 4 p):og l (lF fun d=>p d.toNat):=by
 refine⟨Hl fun d h0 h4=>(h.done d.toNat (by omega)).1,fun d n h0 h4=>?_⟩
 unfold jQ
 rw[Bl _ h0 h4]
 have:=(h.done d.toNat (by omega)).2.1 n
 rwa [Int.toNat_of_nonneg h0]at this
theorem VU (w:World) (v:Value) (l:aX) (hv:ku w v l) (hd:vP l) (hl:l.length≤20000):
 Calls Tryz.prog 186 #[v] w fun e w'=>∃v' c,e= .returned (.tuple #[v', .int .i64 0])∧OwnAt w w' 144 3 v' c.length (eu c)∧og l c∧c.length≤800000:=by
 obtain⟨i0,hi,hz0,hz1,hz2⟩:=info_parts zJ
 obtain⟨aA,cA,rfl⟩:=hv.sl
 have HH:=ah hv;clear hv
 have HD:=ah hd;clear hd
 have HL:=ah hl;clear hl
 generalize hn:l.length=n at*
 have HN:=ah hn;clear hn
 have HST:=ah (jg.start (M:=fun _=>False) 303 2 1 (aj.refl ay w) (fun k hk=>hk.elim))
 go_enter Tryz.func186,Tryz.ntmps186
 go_wp2
 go_loopw [12] (fun i ww=>∃(k:Nat) (vs:Nat→Value),k≤n∧i= .int .i64 k∧jg (fun _=>False) 303 2 1 w ww w.heap.size vs (fun d=>(numsL (l.take k) d).length) (fun d=>nK (numsL (l.take k) d))) (fun i _=>n-(intOf i).toNat)
 case atStart=>exact⟨0,fun _=> .slice none 0 0,Nat.zero_le _,rfl,HST.out⟩
 case round=>
  obtain⟨k,vs,hk,rfl,h4⟩:=hrel
  have H4:=ah h4;clear h4
  by_cases hlt:k<n
  ·rcases Rd.shape HH.out with⟨ad,he,h0⟩|⟨b,off,cc,he,hmax⟩
   ·exfalso;have:=HN.out;omega
   ·injection he with e1 e2 e3
    subst e1 e3
    clear e2
    rw[HN.out]at hmax
    have hlk:k<l.length:=by rw[HN.out];exact hlt
    obtain⟨p0,p1⟩:=nM HH.out HN.out.symm k hlk
    have q0:=H4.out.aP.cell' p0 id
    have q1:=H4.out.aP.cell' p1 id
    clear p0 p1
    have hdk:=HD.out _ (getD_mem (0,0) hlk)
    have oq:=ah (fun d=>Ob (l:=l) (k:=k) d hlk)
    obtain⟨s,hgd⟩:∃s,s=l.getD k (0,0):=⟨_,rfl⟩
    rw[←hgd]at oq q0 q1 hdk
    clear hgd
    have hdr:nJ s.1 s.2=true:=by unfold nJ;simpa using hdk
    have HDR:=ah (fun W=>hdr▸zI s.1 s.2 W);clear hdr
    obtain⟨dn,hdn⟩:∃dn:Nat,s.1=dn:=⟨s.1.toNat,by omega⟩
    have hd4:dn<4:=by omega
    rw[hdn]at q0 HDR
    have lG:=ah hdn;clear hdn hdk
    have hc4:(dn:Int)<4:=by omega
    have hsp:(wr.alloc (.cells #[.int .i64 dn, .int .i64 s.2] 170)).heap[wr.heap.size]?=some (.cells #[.int .i64 dn, .int .i64 s.2] 170 (0,0)):=heap_alloc_new wr _
    have sQ:=ah hsp;clear hsp
    have HB4:=ah (H4.out.box (.cells #[.int .i64 dn, .int .i64 s.2] 170))
    have hlen:(numsL (l.take k) dn).length≤k:=Nat.le_trans (IE _ _) (List.length_take_le _ _)
    have HLEN:=ah (Nat.le_trans hlen (Nat.le_trans hk HL.out))
    clear hlen
    go_wp2_with(go_at_call 236;refine(HDR.out _).mono ?_;rintro e w1 ⟨rfl,hw1⟩;have HW1:=ah hw1;clear hw1;have n0:w1.cell? ⟨wr.heap.size,0,none⟩=some (.int .i64 dn):=HW1.out.cell' (aC sQ.out 0 rfl) id;have n1:w1.cell? ⟨wr.heap.size,1,none⟩=some (.int .i64 s.2):=HW1.out.cell' (aC sQ.out 1 rfl) id)
    have sO:=ah ((HB4.out.keep HW1.out).keep (aj.drew _ _))
    have hsb:wr.heap.size<w1.heap.size:=World.block_lt_of_cell? _ _ n0
    obtain⟨pl,hpl⟩:∃pl,pl=(numsL (l.take k) dn).length:=⟨_,rfl⟩
    have hob:h_ (wZ (fun k=>False∨k=wr.heap.size) w.heap.size vs dn) w w1.drew 2 1 (vs dn) pl (nK (numsL (l.take k) dn)):=by rw[hpl];exact sO.out.but hd4
    have pz:=ah hob;clear hob
    rw[←hpl]at HLEN
    have kU:=ah hpl;clear hpl
    clear q0 q1
    generalize wr.heap.size=sb at*
    refine iI (S:=fun w'=>w'.cell? ⟨sb,0,none⟩=some (.int .i64 dn)∧w'.cell? ⟨sb,1,none⟩=some (.int .i64 s.2)∧w'.cell? ⟨w.heap.size,dn,none⟩=some (vs dn)) 11 (by kernel_rfl) ⟨n0,n1,sO.out.cell hd4⟩ ?_
    intro hS
    have hsb:sb<w1.drew.heap.size:=hsb
    clear n0 n1
    generalize w1.drew=Y at*
    refine aS 0 19 rfl rfl (v:=?_) (.inl ⟨by rfl,?_⟩) ?_
    rotate_left 1
    ·(intro w hSw;(try dsimp only at hSw);go_simp;(try with_reducible rfl))
    refine aS 1 20 rfl rfl (v:=?_) (.inl ⟨by rfl,?_⟩) ?_
    rotate_left 1
    ·(intro w hSw;(try dsimp only at hSw);go_simp;(try with_reducible rfl))
    try simp only[Act.put,aI,aJ,aN]
    refine aS 2 21 rfl rfl (v:=?_) (.inl ⟨by rfl,?_⟩) ?_
    rotate_left 1
    ·(intro w hSw;(try dsimp only at hSw);go_simp;(try with_reducible rfl))
    refine aS 3 22 rfl rfl (v:=?_) (.inl ⟨by rfl,?_⟩) ?_
    rotate_left 1
    ·(intro w hSw;(try dsimp only at hSw);go_simp;(try with_reducible rfl))
    try simp only[Act.put,aI,aJ,aN]
    refine aS 4 23 rfl rfl (v:=?_) (.inl ⟨by rfl,?_⟩) ?_
    rotate_left 1
    ·(intro w hSw;(try dsimp only at hSw);go_simp;(try with_reducible rfl))
    refine aS 5 24 rfl rfl (v:=?_) (.inl ⟨by rfl,?_⟩) ?_
    rotate_left 1
    ·(intro w hSw;(try dsimp only at hSw);go_simp;(try with_reducible rfl))
    try simp only[Act.put,aI,aJ,aN]
    refine aS 6 25 rfl rfl (v:=?_) (.inl ⟨by rfl,?_⟩) ?_
    rotate_left 1
    ·(intro w hSw;(try dsimp only at hSw);go_simp;(try with_reducible rfl))
    refine aS 7 26 rfl rfl (v:=?_) (.inl ⟨by rfl,?_⟩) ?_
    rotate_left 1
    ·(intro w hSw;(try dsimp only at hSw);go_simp;(try with_reducible rfl))
    try simp only[Act.put,aI,aJ,aN]
    refine bM (i:=8) (by kernel_rfl) rfl (fun K hK=>?_)
    go_simp
    have hS1:(Y.alloc (.cells #[.int .i64 s.2] 2)).cell? ⟨sb,0,none⟩=some (.int .i64 dn)∧(Y.alloc (.cells #[.int .i64 s.2] 2)).cell? ⟨sb,1,none⟩=some (.int .i64 s.2)∧(Y.alloc (.cells #[.int .i64 s.2] 2)).cell? ⟨w.heap.size,dn,none⟩=some (vs dn):=⟨(aj.alloc ay Y _).cell' hS.1 id,(aj.alloc ay Y _).cell' hS.2.1 id,(aj.alloc ay Y _).cell' hS.2.2 id⟩
    refine hK.out _ _ hS1 ?_
    clear hK K
    try simp only[Act.put,aI,aJ,aN]
    refine bM (i:=9) (by kernel_rfl) rfl (fun K hK=>?_)
    refine Ij (wZ (fun k=>False∨k=sb) w.heap.size vs dn) w Y [.int .i64 s.2] rfl (.tmp 24) (.tmp 27) 252 rfl 2 i0 _ 1 8 Tryz.underlying252 hi hz0 hz1 hz2 (by decide) (by decide) (vs dn) pl _ pz.out (sO.out.lt dn) 1 1 (by simp[Act.eval]) (by simp[Act.eval]) rfl (by simp[Value.oneCell']) (by have:=HLEN.out;simp only[maxLen];omega) (by have:=HLEN.out;omega) ?_
    intro ad mF w2 cZ jC
    have hS2:w2.cell? ⟨sb,0,none⟩=some (.int .i64 dn)∧w2.cell? ⟨sb,1,none⟩=some (.int .i64 s.2)∧w2.cell? ⟨w.heap.size,dn,none⟩=some (vs dn):=⟨jC.cell (.inr (.inl (.inr rfl))) hS.1,jC.cell (.inr (.inl (.inr rfl))) hS.2.1,jC.cell (.inl rfl) hS.2.2⟩
    refine hK.out _ _ hS2 ?_
    clear hK K hS1
    have sS:=ah (((sO.out.step hd4 jC cZ).mono (M':=fun _=>False) fun k hk=>hk.elim).congr (n':=fun d=>(numsL (l.take (k+1)) d).length) (xs':=fun d=>nK (numsL (l.take (k+1)) d)) (fun d hd=>by
     rw[oq.out]
     by_cases he:d=dn
     ·subst he;rw[upd_same,if_pos lG.out,List.length_append,←kU.out];rfl
     ·rw[nO _ _ he,if_neg (by rw[lG.out];omega),List.append_nil]) (fun d hd=>by
     rw[oq.out]
     by_cases he:d=dn
     ·subst he;rw[upd_same,if_pos lG.out,Es];rfl
     ·rw[nO _ _ he,if_neg (by rw[lG.out];omega),List.append_nil]))
    have hcf:=jC.frozen (p:=⟨w.heap.size,dn,none⟩) (.inl rfl) (bf sO.out.blk dn)
    clear cZ jC
    try simp only[Act.put,aI,aJ,aN]
    refine aS 10 29 rfl rfl (v:=?_) (.inl ⟨by rfl,?_⟩) ?_
    rotate_left 1
    ·(intro w hSw;(try dsimp only at hSw);go_simp;(try with_reducible rfl))
    try simp only[Act.put,aI,aJ,aN]
    refine iQ (by kernel_rfl) (by kernel_rfl) rfl (fun K hK=>?_)
    have hcz:=hS2.2.2
    clear hS2 hS
    go_simp
    refine hK.out _ _ ?_
    clear hK K hcz hcf
    go_wp2
    go_roundw
    case rel=>exact⟨k+1,_,by omega,by go_num,sS.out⟩
    case measure=>simp[intOf];omega
  ·obtain rfl:n=k:=by omega
   rw[List.take_of_length_le (by rw[HN.out];exact Nat.le_refl _)]at H4
   obtain⟨wo,rfl⟩:∃wo:World,wo=wr:=⟨_,rfl⟩
   have hsh:∀d,d<4→∃t:Option Addr×Nat×Nat,vs d= .slice t.1 t.2.1 t.2.2:=fun d hd=>by
    obtain⟨a,c,h⟩:=(H4.out.own d hd).at_.shape
    exact⟨(a,_,c),h⟩
   obtain⟨A,hA⟩:=Go.Deep.choose_lt hsh
   clear hsh
   have c0:wo.cell? ⟨w.heap.size,0,none⟩=some (.slice (A 0).1 (A 0).2.1 (A 0).2.2):=hA 0 (by omega)▸H4.out.cell (d:=0) (by omega)
   have c1:wo.cell? ⟨w.heap.size,1,none⟩=some (.slice (A 1).1 (A 1).2.1 (A 1).2.2):=hA 1 (by omega)▸H4.out.cell (d:=1) (by omega)
   have c2:wo.cell? ⟨w.heap.size,2,none⟩=some (.slice (A 2).1 (A 2).2.1 (A 2).2.2):=hA 2 (by omega)▸H4.out.cell (d:=2) (by omega)
   have c3:wo.cell? ⟨w.heap.size,3,none⟩=some (.slice (A 3).1 (A 3).2.1 (A 3).2.2):=hA 3 (by omega)▸H4.out.cell (d:=3) (by omega)
   have w_:=ah hA;clear hA
   have hgw:w.heap.size<wo.heap.size:=World.block_lt_of_cell? _ _ c0
   have hp0:=ou.start (w0:=w) (w:=wo) (A:=fun _=>(none,0,0)) (p:=fun _=> []) ⟨fun d hd=>OwnAt.nil H4.out.aP _ _⟩
   have sU:=ah hp0;clear hp0
   go_wp2
   clear c0 c1 c2 c3
   go_loopw [32] (fun i ww=>∃(j:Nat) (A':Nat→Sl) (p:Nat→aX),j≤4∧i= .int .i64 j∧ou w ww wo.heap.size A' p∧IX l j p∧
    aj (fun k=>k=wo.heap.size) (wo.alloc (.cells #[.slice none 0 0, .slice none 0 0, .slice none 0 0, .slice none 0 0] 268)) ww) (fun i _=>4-(intOf i).toNat)
   case atStart=>exact⟨0,fun _=>(none,0,0),fun _=> [],by omega,rfl,sU.out,⟨fun d hd=>by omega,fun d _ _=>rfl⟩,aj.refl _ _⟩
   case round=>
    obtain⟨j,A',p,hj,rfl,hp,hou,BI⟩:=hrel
    have HP:=ah hp;clear hp
    have ET:=ah hou;clear hou
    have zO:=ah BI;clear BI
    by_cases xg:j<4
    ·have hki:(j:Int)<4:=by omega
     have hkd:decide ((j:Int)<4)=true:=by simpa using hki
     have hix:∀W,(Instr.index 303 (.agg #[.slice (A 0).1 (A 0).2.1 (A 0).2.2, .slice (A 1).1 (A 1).2.1 (A 1).2.2, .slice (A 2).1 (A 2).2.1 (A 2).2.2, .slice (A 3).1 (A 3).2.1 (A 3).2.2]) (.int .i64 (j:Int))).run Tryz.prog W= .ok (.slice (A j).1 (A j).2.1 (A j).2.2) W:=by
      rcases(by omega:j=0∨j=1∨j=2∨j=3)with rfl|rfl|rfl|rfl<;>exact fun _=>by kernel_rfl
     have hob:=((H4.out.own j xg).at_.keep (aj.alloc ay wo (.cells #[.slice none 0 0, .slice none 0 0, .slice none 0 0, .slice none 0 0] 268)))
     have hno:=Rd.keep hob.rd zO.out (fun q hq h=>by have:=(H4.out.own j xg).at_.lt q hq;have h:q=wo.heap.size:=h;omega)
     rw[w_.out j xg]at hno
     have hcall:=VT wr _ (numsL l j) hno (Nat.le_trans (IE l j) (by rw[HN.out];exact Nat.le_trans HL.out (by decide))) (fun x hx=>by have:=HD.out _ (ES.1 hx);exact⟨this.2.2.1,this.2.2.2⟩)
     have HC:=ah hcall;clear hcall hob hno
     have hpc:=HP.out.cell xg
     have BN:=ah hpc;clear hpc
     go_wp2_with(go_at_call 237;refine HC.out.mono ?_;rintro e w3 ⟨v3,out,rfl,ho3,hr3,pG,hl3⟩;obtain⟨a3,c3,rfl⟩:=ho3.shape;have dJ:=ah ho3;clear ho3;have HR3:=ah hr3;clear hr3;have EC:=ah pG;clear pG;have kV:=ah hl3;clear hl3;have hcz:=dJ.out.aP.cell' BN.out id;have hfz:w3.frozen? ⟨wo.heap.size,j,none⟩=false:=bf (HP.out.keep dJ.out.aP).blk j)
     have IC:=ah (HP.out.set xg (t:=(a3,out.length,c3)) dJ.out)
     go_roundw
     case rel=>exact⟨j+1,_,_,by omega,by go_num,IC.out,⟨fun d hd=>by
      by_cases he:d=j
      ·subst he;rw[upd_same];exact⟨HR3.out,fun n=>by rw[EC.out,ES],Nat.le_trans kV.out (Nat.le_trans (IE l d) (by rw[HN.out];exact HL.out))⟩
      ·rw[nO _ _ he];exact ET.out.done d (by omega),fun d h1 h2=>by
      rw[nO _ _ (by omega)];exact ET.out.todo d (by omega) h2⟩,(zO.out.au dJ.out.aP).trans (aj.setCell (S:=fun k=>k=wo.heap.size) w3 (p:=⟨wo.heap.size,j,none⟩) (.inl rfl) _) fun _ _ h=>h⟩
     case measure=>simp[intOf];omega
    ·obtain rfl:j=4:=by omega
     have c0:wr.cell? ⟨wo.heap.size,0,none⟩=some (.slice (A' 0).1 (A' 0).2.1 (A' 0).2.2):=HP.out.cell (by omega)
     have c1:wr.cell? ⟨wo.heap.size,1,none⟩=some (.slice (A' 1).1 (A' 1).2.1 (A' 1).2.2):=HP.out.cell (by omega)
     have c2:wr.cell? ⟨wo.heap.size,2,none⟩=some (.slice (A' 2).1 (A' 2).2.1 (A' 2).2.2):=HP.out.cell (by omega)
     have c3:wr.cell? ⟨wo.heap.size,3,none⟩=some (.slice (A' 3).1 (A' 3).2.1 (A' 3).2.2):=HP.out.cell (by omega)
     go_wp2_with(go_at_call 229;refine(NS _ A' p (fun d hd=>(HP.out.own d hd).at_.rd) (fun d hd=>Nat.le_trans (ET.out.done d hd).2.2 (by decide))).mono ?_;rintro e w3 ⟨v3,c,rfl,ho3,hc3,hl3⟩;obtain⟨a3,k3,rfl⟩:=ho3.shape;have dJ:=ah ho3;clear ho3;have rH:=ah hc3;clear hc3;have kV:=ah hl3;clear hl3)
     go_ret2
     exact⟨_,c,rfl,dJ.out.base (HP.out.own 0 (by omega)).at_.aP,by rw[rH.out];exact ET.out.II,kV.out⟩
open Go.RowKit
def aG.v (e:aG):Value:= .agg #[.int .i64 e.dc, .int .i64 e.n, .string e.s, .int .i64 e.k]
theorem BO (e:aG) (hs:e.s.size≤9223372036854775807) (w:World):Calls Tryz.prog 239 #[e.v] w fun x w'=>x= .returned (.bool (gV e))∧aj ay w w':=by
 unfold aG.v
 have c2:(w.alloc (.cells #[.int .i64 e.dc, .int .i64 e.n, .string e.s, .int .i64 e.k] 172)).cell? ⟨w.heap.size,2,none⟩=some (.string e.s):=aC (heap_alloc_new w _) 2 rfl
 have c3:(w.alloc (.cells #[.int .i64 e.dc, .int .i64 e.n, .string e.s, .int .i64 e.k] 172)).cell? ⟨w.heap.size,3,none⟩=some (.int .i64 e.k):=aC (heap_alloc_new w _) 3 rfl
 cases hd:nJ e.dc e.n with
 |false=>
  go_enter Tryz.func239,Tryz.ntmps239
  go_wp2_with(go_at_call 263;refine(MW _ _ _).mono ?_;rintro x w1 ⟨rfl,hw1⟩;rw[hd])
  go_ret
  exact⟨bP (by simp[gV,hd]),(aj.alloc _ _ _).au hw1⟩
 |true=>
  go_enter Tryz.func239,Tryz.ntmps239
  go_wp2_with(go_at_call 263;refine(MW _ _ _).mono ?_;rintro x w1 ⟨rfl,hw1⟩;rw[hd];have k2:=hw1.cell' c2 id;have k3:=hw1.cell' c3 id)
  all_goals
   go_ret
   refine⟨bP ?_,(aj.alloc _ _ _).au hw1⟩
   rw[Bool.eq_iff_iff]
   simp[gV,hd]<;>omega
theorem Oj:∀(l:List aG) (p:Option aG) (e:aG),jk p (l++ [e])=(jk p l&&gV e&&vS (match l.getLast? with|some x=>some x|none=>p) e)
 |[],p,e=>by simp[jk]
 |x::l,p,e=>by
  show(gV x&&vS p x&&jk (some x) (l++ [e]))=((gV x&&vS p x&&jk (some x) l)&&gV e&&_)
  rw[Oj l (some x) e]
  have:(match(x::l).getLast? with|some y=>some y|none=>p)=(match l.getLast? with|some y=>some y|none=>some x):=by
   cases l with
   |nil=>rfl
   |cons y l=>
    rw[List.getLast?_cons_cons]
    cases h:(y::l).getLast? with
    |none=>simp at h
    |some z=>rfl
  rw[this]
  simp only[Bool.and_assoc]
theorem Ol:∀(l:List aG) (p:Option aG) (k:Nat),jk p l=true→jk p (l.take k)=true
 |[],_,_,_=>by simp[jk]
 |_::_,_,0,_=>rfl
 |x::l,p,k+1,h=>by
  have h:(gV x&&vS p x&&jk (some x) l)=true:=h
  show(gV x&&vS p x&&jk (some x) (l.take k))=true
  simp only[Bool.and_eq_true]at h⊢
  exact⟨h.1,Ol l _ k h.2⟩
theorem Om {l:List aG} (h:0<l.length):jk none (l.take (0+1))=gV (l.getD 0 aG.zero):=by
 rw[take_succ aG.zero h]
 simp[jk,vS]
theorem Oo {l:List aG} {j:Nat} (h:j+1<l.length) (hr:jk none (l.take (j+1))=true):jk none (l.take (j+1+1))=(gV (l.getD (j+1) aG.zero)&&vK (l.getD j aG.zero).dc (l.getD j aG.zero).n (l.getD (j+1) aG.zero).dc (l.getD (j+1) aG.zero).n):=by
 rw[take_succ aG.zero h,Oj,hr]
 have:(l.take (j+1)).getLast?=some (l.getD j aG.zero):=by
  rw[take_succ aG.zero (by omega)];simp
 rw[this]
 simp[vS]
theorem rO {l:List aG} {k:Nat} (h:jk none (l.take k)=false):jk none l=false:=by
 cases hh:jk none l with
 |false=>rfl
 |true=>rw[Ol l none k hh]at h;cases h
theorem zS.at {es:List aG} (h:zS es) {k:Nat} (hk:k<es.length):(es.getD k aG.zero).fits:=h.fits _ (getD_mem _ hk)
open Go.RowKit
theorem Calls.mG {P:Program} {f:FuncId} {args:Array Value} {w:World} {v:Value} (h:Calls P f args w fun e w'=>e= .returned v∧w'=w):Calls P f args w fun e w'=>e= .returned v∧aj (fun _=>False) w w':=
 h.mono fun _ _ ⟨h1,h2⟩=>⟨h1,by rw[h2];exact aj.refl _ _⟩
theorem Oq (t:TypeId) (a b:ByteArray):binOp .geq t (.string a) (.string b)=pure (.bool !(Op.bytesLess a.toList b.toList)):=by simp[binOp,Op.stringOp]
theorem uP:∀(n:Nat) {ks:aH} {key:ByteArray} {es:List aG} {sub rest:aH},ks.drop n= .cons key es sub rest→gW sub<gW ks
 |0, .cons _ _ _ _,_,_,_,_,h=>by
  cases h
  simp only[gW]
  omega
 |0, .nil,_,_,_,_,h=>by cases h
 |n+1, .nil,_,_,_,_,h=>by cases h
 |n+1, .cons _ _ _ r,_,_,_,_,h=>by
  have h1:r.drop n=_:=h
  have:=uP n h1
  simp only[gW]
  omega
theorem Ot {ks:aH} {d n:Nat} {key:ByteArray} {es:List aG} {sub rest:aH} {p:Option ByteArray} (h:ks.drop n= .cons key es sub rest):mZ (ks.drop n) d p=(rE key&&ltK p key&& !isNil es sub&&bW d es sub&&mZ (ks.drop (n+1)) d (some key)):=by
 rw[h,aH.yI n ks h,Oi]
def Ou (ks:aH) (n:Nat) (p:Option ByteArray):Prop:=(n=0∧p=none)∨∃j key es sub rest,n=j+1∧ks.drop j= .cons key es sub rest∧p=some key
theorem VW (es:List aG) (ks:aH):((((es.length:Int)+(ks.len:Int))==0))=isNil es ks:=by
 rw[Bool.eq_iff_iff]
 simp only[isNil,beq_iff_eq,decide_eq_true_eq]
 omega
theorem VX {d:Nat} (h:d≤100):wrap64 (d:Int)=d:=by unfold wrap64;omega
theorem VY (Q:Nat→Prop):∀(N:Nat) (es:List aG) (ks:aH) (d:Nat) (w:World) (ev kv:Value),gW ks<N→bQ Q w ev kv es ks→iJ es ks→d≤100→
 Calls Tryz.prog 189 #[.agg #[ev,kv], .int .i64 d] w fun e w'=>e= .returned (.bool (bW d es ks))∧aj ay w w':=by
 intro N
 induction N with
 |zero=>intros;exfalso;omega
 |succ N jy=>
  intro es ks d w ev kv hN ht hok hd
  obtain⟨ae,ce,rfl⟩:=ht.ents.rd.sl
  obtain⟨os,hkr,fD⟩:=ht.kids
  obtain⟨ak,ck,rfl⟩:=hkr.rd.sl
  have HT:=ah ht;clear ht
  have jl:=ah hkr.rd;clear hkr
  have kW:=ah fD;clear fD
  have IH:=ah jy;clear jy
  have dB:=ah (aj.alloc ay w (.cells #[.slice ae es.length ce, .slice ak ks.len ck] 30))
  have box0:(w.alloc (.cells #[.slice ae es.length ce, .slice ak ks.len ck] 30)).cell? ⟨w.heap.size,0,none⟩=some (.slice ae es.length ce):=aC (heap_alloc_new w _) 0 rfl
  have box1:(w.alloc (.cells #[.slice ae es.length ce, .slice ak ks.len ck] 30)).cell? ⟨w.heap.size,1,none⟩=some (.slice ak ks.len ck):=aC (heap_alloc_new w _) 1 rfl
  have B0:=ah box0;clear box0
  have B1:=ah box1;clear box1
  have IY:=ah hok.es.len
  have vU:=ah hok.len
  have dL:=ah hok;clear hok
  have m_:=ah hN;clear hN
  cases d with
  |zero=>
   go_enter Tryz.func189,Tryz.ntmps189
   go_wp2
   go_ret
   exact⟨bP (by simp[bW]),dB.out⟩
  |succ d=>
   generalize hes:es.length=n at*
   have HN:=ah hes;clear hes
   generalize hkl:ks.len=m at*
   have HM:=ah hkl;clear hkl
   have hdz:(((d+1:Nat):Int)==0)=false:=by simp;omega
   have hwd:wrap64 (d:Int)=d:=VX (by omega)
   have HD:=ah hd;clear hd
   go_enter Tryz.func189,Tryz.ntmps189
   go_wp2
   go_loopw [13] (fun i ww=>∃k:Nat,k≤n∧i= .int .i64 k∧jk none (es.take k)=true∧aj ay (w.alloc (.cells #[.slice ae n ce, .slice ak m ck] 30)) ww) (fun i _=>n-(intOf i).toNat)
   case atStart=>exact⟨0,Nat.zero_le _,rfl,rfl,aj.refl _ _⟩
   case round=>
    obtain⟨k,hk,rfl,hr,hw⟩:=hrel
    have HW:=ah hw;clear hw
    have HR:=ah hr;clear hr
    have b0:=HW.out.cell' B0.out id
    by_cases hlt:k<n
    ·have hnm:(n:Int)≤9223372036854775807:=by have:=IY.out;omega
     rcases Rd.shape (HT.out.ents.rd.aO (dB.out.au HW.out))with⟨ad,he,h0⟩|⟨b,off,cc,he,hmax⟩
     ·exfalso;have:=HN.out;omega
     ·injection he with e1 e2 e3
      subst e1 e3
      clear e2 hmax
      have her:=HT.out.ents.rd.aO (dB.out.au HW.out)
      rw[HN.out]at her
      obtain⟨q0,q1,q2,q3⟩:=sW her k (by rw[HN.out];exact hlt)
      have hsz:=(dL.out.es.at (show k<es.length by rw[HN.out];exact hlt)).2.2.2
      clear her
      obtain⟨α,hne,K,hK1,hK0,hK2⟩:=worlds wr
      have kb0:=fun s=>(hK1 s).cell' b0 id
      rcases Nat.eq_zero_or_pos k with rfl|hk0
      ·have hS:=Om (l:=es) (by rw[HN.out];exact hlt)
       generalize es.getD 0 aG.zero=e at*
       simp only[Nat.zero_mul,Nat.add_zero]at q0 q1 q2 q3
       have k0:=fun s=>(hK1 s).cell' q0 id
       have k1:=fun s=>(hK1 s).cell' q1 id
       have k2:=fun s=>(hK1 s).cell' q2 id
       have k3:=fun s=>(hK1 s).cell' q3 id
       clear q0 q1 q2 q3
       cases he:gV e with
       |false=>
        rw[he]at hS
        have HS:=ah hS;clear hS
        go_wp2_with fail
        refine dG K (by kernel_rfl) (by kernel_rfl) hK0 ?_
        repeat(go_big_quiet_step ((first|(go_at_call 239;exact Calls.bK hK2 (BO e hsz _))|(go_at_call 109;exact Calls.bK hK2 (Bo _ _ _ _ _)))))
        refine wpQuiet_nil ?_
        intro w' hw'
        obtain⟨s,rfl⟩:=hw'
        have hfs:=hK1 s
        go_wp2
        go_ret
        exact⟨bP (by rw[bW,rO HS.out];simp),dB.out.au (HW.out.au hfs)⟩
       |true=>
        rw[he]at hS
        have HS:=ah hS;clear hS
        go_wp2_with fail
        refine dG K (by kernel_rfl) (by kernel_rfl) hK0 ?_
        repeat(go_big_quiet_step ((first|(go_at_call 239;exact Calls.bK hK2 (BO e hsz _))|(go_at_call 109;exact Calls.bK hK2 (Bo _ _ _ _ _)))))
        refine wpQuiet_nil ?_
        intro w' hw'
        obtain⟨s,rfl⟩:=hw'
        have hfs:=hK1 s
        go_wp2
        go_roundw
        case rel=>exact⟨0+1,by omega,by go_num,HS.out,HW.out.au hfs⟩
        case measure=>simp[intOf];omega
      ·obtain⟨j,rfl⟩:∃j,k=j+1:=⟨k-1,by omega⟩
       have her:=HT.out.ents.rd.aO (dB.out.au HW.out)
       rw[HN.out]at her
       obtain⟨p0,p1,-,-⟩:=sW her j (by rw[HN.out];omega)
       clear her
       have hS:=Oo (l:=es) (j:=j) (by rw[HN.out];exact hlt) HR.out
       generalize es.getD (j+1) aG.zero=e at*
       generalize es.getD j aG.zero=pe at*
       have k0:=fun s=>(hK1 s).cell' q0 id
       have k1:=fun s=>(hK1 s).cell' q1 id
       have k2:=fun s=>(hK1 s).cell' q2 id
       have k3:=fun s=>(hK1 s).cell' q3 id
       have k4:=fun s=>(hK1 s).cell' p0 id
       have k5:=fun s=>(hK1 s).cell' p1 id
       clear q0 q1 q2 q3 p0 p1
       cases he:gV e with
       |false=>
        rw[he,Bool.false_and]at hS
        have HS:=ah hS;clear hS
        go_wp2_with fail
        refine dG K (by kernel_rfl) (by kernel_rfl) hK0 ?_
        repeat(go_big_quiet_step ((first|(go_at_call 239;exact Calls.bK hK2 (BO e hsz _))|(go_at_call 109;exact Calls.bK hK2 (Bo _ _ _ _ _)))))
        refine wpQuiet_nil ?_
        intro w' hw'
        obtain⟨s,rfl⟩:=hw'
        have hfs:=hK1 s
        go_wp2
        go_ret
        exact⟨bP (by rw[bW,rO HS.out];simp),dB.out.au (HW.out.au hfs)⟩
       |true=>
        rw[he,Bool.true_and]at hS
        cases hl:vK pe.dc pe.n e.dc e.n with
        |false=>
         rw[hl]at hS
         have HS:=ah hS;clear hS
         go_wp2_with fail
         refine dG K (by kernel_rfl) (by kernel_rfl) hK0 ?_
         repeat(go_big_quiet_step ((first|(go_at_call 239;exact Calls.bK hK2 (BO e hsz _))|(go_at_call 109;exact Calls.bK hK2 (Bo _ _ _ _ _)))))
         refine wpQuiet_nil ?_
         intro w' hw'
         obtain⟨s,rfl⟩:=hw'
         have hfs:=hK1 s
         go_wp2
         go_ret
         exact⟨bP (by rw[bW,rO HS.out];simp),dB.out.au (HW.out.au hfs)⟩
        |true=>
         rw[hl]at hS
         have HS:=ah hS;clear hS
         go_wp2_with fail
         refine dG K (by kernel_rfl) (by kernel_rfl) hK0 ?_
         repeat(go_big_quiet_step ((first|(go_at_call 239;exact Calls.bK hK2 (BO e hsz _))|(go_at_call 109;exact Calls.bK hK2 (Bo _ _ _ _ _)))))
         refine wpQuiet_nil ?_
         intro w' hw'
         obtain⟨s,rfl⟩:=hw'
         have hfs:=hK1 s
         go_wp2
         go_roundw
         case rel=>exact⟨j+1+1,by omega,by go_num,HS.out,HW.out.au hfs⟩
         case measure=>simp[intOf];omega
    ·obtain rfl:n=k:=by omega
     rw[List.take_of_length_le (by rw[HN.out];exact Nat.le_refl _)]at HR
     have b1:=HW.out.cell' B1.out id
     go_wp2
     go_loopw [48] (fun i ww=>∃(k:Nat) (p:Option ByteArray),k≤m∧i= .int .i64 k∧Ou ks k p∧mZ ks d none=mZ (ks.drop k) d p∧aj ay (w.alloc (.cells #[.slice ae n ce, .slice ak m ck] 30)) ww) (fun i _=>m-(intOf i).toNat)
     case atStart=>exact⟨0,none,Nat.zero_le _,rfl, .inl ⟨rfl,rfl⟩,rfl,HW.out⟩
     case round=>
      clear b0 b1
      obtain⟨k,p,hk,rfl,hp,hr,hw⟩:=hrel
      have dQ:=ah hw;clear hw
      have HP:=ah hp;clear hp
      have b1:=dQ.out.cell' B1.out id
      by_cases hlt:k<m
      ·obtain⟨key,es',sub,rest,hdr⟩:=aH.rM (n:=k) (ks:=ks) (by rw[HM.out];exact hlt)
       have hmm:(m:Int)≤9223372036854775807:=by have:=vU.out;omega
       rcases Rd.shape (jl.out.aO (dB.out.au dQ.out))with⟨ad,he,h0⟩|⟨b,off,cc,he,hmax⟩
       ·exfalso;have:=HM.out;omega
       ·injection he with e1 e2 e3
        subst e1 e3
        clear e2 hmax
        obtain⟨ev',kv',c0,c1,c2,hta⟩:=qK (jl.out.aO (dB.out.au dQ.out)) (kW.out.aO (dB.out.au dQ.out)) hdr
        obtain⟨dW,dX,rfl⟩:=hta.ents.rd.sl
        obtain⟨os',iK,kX⟩:=hta.kids
        obtain⟨dY,dZ,rfl⟩:=iK.rd.sl
        clear iK kX
        have hok':=dL.out.ks.drop k
        rw[hdr]at hok'
        have hkz:=hok'.1
        have hsub:iJ es' sub:=⟨hok'.2.1,hok'.2.2.1,hok'.2.2.2.1⟩
        have l1:((es'.length:Nat):Int)≤140737488351232:=by have:=hsub.es.len;omega
        have l2:((sub.len:Nat):Int)≤140737488351232:=by have:=hsub.len;omega
        have IZ:=ah hsub;clear hsub hok'
        have fF:=ah (uP k hdr)
        rw[Ot hdr]at hr
        have HDR:=ah hdr;clear hdr
        have hbf:aj ay wr (wr.alloc (.cells #[.string key, .slice dW es'.length dX, .slice dY sub.len dZ] 83)):=aj.alloc _ _ _
        have n0:(wr.alloc (.cells #[.string key, .slice dW es'.length dX, .slice dY sub.len dZ] 83)).cell? ⟨wr.heap.size,0,none⟩=some (.string key):=aC (heap_alloc_new wr _) 0 rfl
        have n1:(wr.alloc (.cells #[.string key, .slice dW es'.length dX, .slice dY sub.len dZ] 83)).cell? ⟨wr.heap.size,1,none⟩=some (.slice dW es'.length dX):=aC (heap_alloc_new wr _) 1 rfl
        have n2:(wr.alloc (.cells #[.string key, .slice dW es'.length dX, .slice dY sub.len dZ] 83)).cell? ⟨wr.heap.size,2,none⟩=some (.slice dY sub.len dZ):=aC (heap_alloc_new wr _) 2 rfl
        have dM:=ah (hta.aO hbf);clear hta
        have yJ:=dQ;clear dQ
        have dQ:=ah (yJ.out.au hbf)
        have kk:∀j ng es0 vV vW,ks.drop j= .cons ng es0 vV vW→wr.cell? ⟨b,off+j*3,none⟩=some (.string ng):=fun j ng es0 vV vW h=>by
         obtain⟨_,_,h0,_⟩:=qK (jl.out.aO (dB.out.au yJ.out)) (kW.out.aO (dB.out.au yJ.out)) h
         exact h0
        have KK:=ah kk;clear kk
        have HIH:=ah (fun w' (h:aj ay (wr.alloc (.cells #[.string key, .slice dW es'.length dX, .slice dY sub.len dZ] 83)) w')=>IH.out es' sub d w' _ _ (by have:=fF.out;have:=m_.out;omega) (dM.out.aO h) IZ.out (by have:=HD.out;omega))
        have hnil:=VW es' sub
        generalize es'.length=n' at*
        generalize sub.len=m' at*
        obtain⟨α,hne,K,hK3,hK0,hK2⟩:=worlds (wr.alloc (.cells #[.string key, .slice dW n' dX, .slice dY m' dZ] 83))
        have hK1:=hK3
        have VZ:=fun s=>(hK1 s).cell' (hbf.cell' b1 id) id
        have V_:=fun s=>(hK1 s).cell' n0 id
        have Wh:=fun s=>(hK1 s).cell' n1 id
        have Wi:=fun s=>(hK1 s).cell' n2 id
        clear n0 n1 n2
        have hge:=Oq
        rcases HP.out with⟨rfl,rfl⟩|⟨j,ng,es0,vV,vW,rfl,hdj,rfl⟩
        ·simp only[Nat.zero_mul,Nat.add_zero]at c0 c1 c2
         cases g1:rE key with
         |false=>
          rw[g1]at hr
          simp only[Bool.false_and]at hr
          have hst:bW (d+1) es ks=false:=by rw[bW,Nat.add_sub_cancel,hr];simp
          have HST:=ah hst;clear hst hr
          go_wp2_with fail
          refine dG K (by kernel_rfl) (by kernel_rfl) hK0 ?_
          repeat(go_big_quiet_step ((first|(go_at_call 240;exact Calls.bK hK2 (Calls.mG (vJ key _ hkz)))|(go_at_call 189;exact Calls.bK hK2 (HIH.out _ (hK3 _))))))
          refine wpQuiet_nil ?_
          intro w' hw'
          obtain⟨s,rfl⟩:=hw'
          have hfs:=hK1 s
          go_wp2
          go_ret
          exact⟨bP HST.out.symm,dB.out.au (dQ.out.au hfs)⟩
         |true=>
          cases g3:isNil es' sub with
          |true=>
           rw[g1,g3]at hr
           rw[g3]at hnil
           simp only[Bool.not_true,Bool.and_false,Bool.false_and]at hr
           have hst:bW (d+1) es ks=false:=by rw[bW,Nat.add_sub_cancel,hr];simp
           have HST:=ah hst;clear hst hr
           go_wp2_with fail
           refine dG K (by kernel_rfl) (by kernel_rfl) hK0 ?_
           repeat(go_big_quiet_step ((first|(go_at_call 240;exact Calls.bK hK2 (Calls.mG (vJ key _ hkz)))|(go_at_call 189;exact Calls.bK hK2 (HIH.out _ (hK3 _))))))
           refine wpQuiet_nil ?_
           intro w' hw'
           obtain⟨s,rfl⟩:=hw'
           have hfs:=hK1 s
           go_wp2
           go_ret
           exact⟨bP HST.out.symm,dB.out.au (dQ.out.au hfs)⟩
          |false=>
           rw[g3]at hnil
           cases g4:bW d es' sub with
           |false=>
            rw[g1,g3,g4]at hr
            rw[g4]at HIH
            simp only[Bool.and_false,Bool.false_and]at hr
            have hst:bW (d+1) es ks=false:=by rw[bW,Nat.add_sub_cancel,hr];simp
            have HST:=ah hst;clear hst hr
            go_wp2_with fail
            refine dG K (by kernel_rfl) (by kernel_rfl) hK0 ?_
            repeat(go_big_quiet_step ((first|(go_at_call 240;exact Calls.bK hK2 (Calls.mG (vJ key _ hkz)))|(go_at_call 189;exact Calls.bK hK2 (HIH.out _ (hK3 _))))))
            refine wpQuiet_nil ?_
            intro w' hw'
            obtain⟨s,rfl⟩:=hw'
            have hfs:=hK1 s
            go_wp2
            go_ret
            exact⟨bP HST.out.symm,dB.out.au (dQ.out.au hfs)⟩
           |true=>
            rw[g1,g3,g4]at hr
            rw[g4]at HIH
            simp only[ltK,Bool.not_false,Bool.and_true,Bool.true_and]at hr
            have HST:=ah hr;clear hr
            go_wp2_with fail
            refine dG K (by kernel_rfl) (by kernel_rfl) hK0 ?_
            repeat(go_big_quiet_step ((first|(go_at_call 240;exact Calls.bK hK2 (Calls.mG (vJ key _ hkz)))|(go_at_call 189;exact Calls.bK hK2 (HIH.out _ (hK3 _))))))
            refine wpQuiet_nil ?_
            intro w' hw'
            obtain⟨s,rfl⟩:=hw'
            have hfs:=hK1 s
            go_wp2
            go_roundw
            case rel=>exact⟨0+1,some key,by omega,by go_num, .inr ⟨0,key,es',sub,rest,rfl,HDR.out,rfl⟩,HST.out,dQ.out.au hfs⟩
            case measure=>simp[intOf];omega
        ·have pk:=KK.out j ng es0 vV vW hdj
         clear hdj
         have Wj:=(fun s=>(hK1 s).cell' (hbf.cell' pk id) id)
         clear pk
         cases g1:rE key with
         |false=>
          rw[g1]at hr
          simp only[Bool.false_and]at hr
          have hst:bW (d+1) es ks=false:=by rw[bW,Nat.add_sub_cancel,hr];simp
          have HST:=ah hst;clear hst hr
          go_wp2_with fail
          refine dG K (by kernel_rfl) (by kernel_rfl) hK0 ?_
          repeat(go_big_quiet_step ((first|(go_at_call 240;exact Calls.bK hK2 (Calls.mG (vJ key _ hkz)))|(go_at_call 189;exact Calls.bK hK2 (HIH.out _ (hK3 _))))))
          refine wpQuiet_nil ?_
          intro w' hw'
          obtain⟨s,rfl⟩:=hw'
          have hfs:=hK1 s
          go_wp2
          go_ret
          exact⟨bP HST.out.symm,dB.out.au (dQ.out.au hfs)⟩
         |true=>
          cases g2:Op.bytesLess ng.toList key.toList with
          |false=>
           rw[show ltK (some ng) key=false from g2]at hr
           simp only[Bool.and_false,Bool.false_and]at hr
           have hst:bW (d+1) es ks=false:=by rw[bW,Nat.add_sub_cancel,hr];simp
           have HST:=ah hst;clear hst hr
           go_wp2_with fail
           refine dG K (by kernel_rfl) (by kernel_rfl) hK0 ?_
           repeat(go_big_quiet_step ((first|(go_at_call 240;exact Calls.bK hK2 (Calls.mG (vJ key _ hkz)))|(go_at_call 189;exact Calls.bK hK2 (HIH.out _ (hK3 _))))))
           refine wpQuiet_nil ?_
           intro w' hw'
           obtain⟨s,rfl⟩:=hw'
           have hfs:=hK1 s
           go_wp2
           go_ret
           exact⟨bP HST.out.symm,dB.out.au (dQ.out.au hfs)⟩
          |true=>
           cases g3:isNil es' sub with
           |true=>
            rw[g3]at hr
            rw[g3]at hnil
            simp only[Bool.not_true,Bool.and_false,Bool.false_and]at hr
            have hst:bW (d+1) es ks=false:=by rw[bW,Nat.add_sub_cancel,hr];simp
            have HST:=ah hst;clear hst hr
            go_wp2_with fail
            refine dG K (by kernel_rfl) (by kernel_rfl) hK0 ?_
            repeat(go_big_quiet_step ((first|(go_at_call 240;exact Calls.bK hK2 (Calls.mG (vJ key _ hkz)))|(go_at_call 189;exact Calls.bK hK2 (HIH.out _ (hK3 _))))))
            refine wpQuiet_nil ?_
            intro w' hw'
            obtain⟨s,rfl⟩:=hw'
            have hfs:=hK1 s
            go_wp2
            go_ret
            exact⟨bP HST.out.symm,dB.out.au (dQ.out.au hfs)⟩
           |false=>
            rw[g3]at hnil
            cases g4:bW d es' sub with
            |false=>
             rw[g4]at hr
             rw[g4]at HIH
             simp only[Bool.and_false,Bool.false_and]at hr
             have hst:bW (d+1) es ks=false:=by rw[bW,Nat.add_sub_cancel,hr];simp
             have HST:=ah hst;clear hst hr
             go_wp2_with fail
             refine dG K (by kernel_rfl) (by kernel_rfl) hK0 ?_
             repeat(go_big_quiet_step ((first|(go_at_call 240;exact Calls.bK hK2 (Calls.mG (vJ key _ hkz)))|(go_at_call 189;exact Calls.bK hK2 (HIH.out _ (hK3 _))))))
             refine wpQuiet_nil ?_
             intro w' hw'
             obtain⟨s,rfl⟩:=hw'
             have hfs:=hK1 s
             go_wp2
             go_ret
             exact⟨bP HST.out.symm,dB.out.au (dQ.out.au hfs)⟩
            |true=>
             rw[g1,g3,g4,show ltK (some ng) key=true from g2]at hr
             rw[g4]at HIH
             simp only[Bool.not_false,Bool.and_true,Bool.true_and]at hr
             have HST:=ah hr;clear hr
             go_wp2_with fail
             refine dG K (by kernel_rfl) (by kernel_rfl) hK0 ?_
             repeat(go_big_quiet_step ((first|(go_at_call 240;exact Calls.bK hK2 (Calls.mG (vJ key _ hkz)))|(go_at_call 189;exact Calls.bK hK2 (HIH.out _ (hK3 _))))))
             refine wpQuiet_nil ?_
             intro w' hw'
             obtain⟨s,rfl⟩:=hw'
             have hfs:=hK1 s
             go_wp2
             go_roundw
             case rel=>exact⟨(j+1)+1,some key,by omega,by go_num, .inr ⟨(j+1),key,es',sub,rest,rfl,HDR.out,rfl⟩,HST.out,dQ.out.au hfs⟩
             case measure=>simp[intOf];omega
      ·obtain rfl:m=k:=by omega
       rw[aH.sV (by rw[HM.out];exact Nat.le_refl _)]at hr
       have HRR:=ah hr;clear hr
       go_wp2
       go_ret
       exact⟨bP (by rw[bW,HR.out,Nat.add_sub_cancel,HRR.out];simp[mZ]),dB.out.au dQ.out⟩
end Go.Proofs.YtabkpccdnkjoiaaGreat
