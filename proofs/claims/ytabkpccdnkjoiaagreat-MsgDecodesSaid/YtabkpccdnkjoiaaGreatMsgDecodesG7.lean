/- Words for the law MsgDecodes: Size, SOf, COf, R8a, R8b. -/
import Derived.Test.YtabkpccdnkjoiaaGreatMsgDecodesG0
import Derived.Test.YtabkpccdnkjoiaaGreatMsgDecodesG3
import Derived.Test.YtabkpccdnkjoiaaGreatMsgDecodesG6
set_option linter.unusedSimpArgs false
set_option linter.unusedVariables false
set_option maxHeartbeats 32000000
set_option maxRecDepth 1000000
namespace Go.Proofs.YtabkpccdnkjoiaaGreat
theorem ZK (p:Int→aW):(nJ p).length=(p 0).length+((p 1).length+((p 2).length+(p 3).length)):=by simp[nJ,fC]
theorem dN.length {c:aX} (h:dN c) {n:Nat} (hp:∀d,0≤d→d<4→(bQ c d).length≤n):c.length≤4*n:=by
 have e:=congrArg List.length (Ce (Int.le_refl 0) h.1)
 rw[ZK]at e
 have h0:=hp 0 (by decide) (by decide)
 have h1:=hp 1 (by decide) (by decide)
 have h2:=hp 2 (by decide) (by decide)
 have h3:=hp 3 (by decide) (by decide)
 omega
theorem qO.length {l:aW} {c:aX} (h:qO l c):c.length≤4*l.length:=by
 refine h.right.length fun d h0 h4=>?_
 have hr:=(h.right.2 d h0 h4).1
 have hn:=LD hr
 have hs:∀x∈(bQ c d).map (·.1),x∈l.map (·.2):=fun x hx=>by
  obtain⟨r,hr1,rfl⟩:=List.mem_map.1 hx
  have hi:kT c d r.1:=⟨r,hr1,Int.le_refl _,(oZ hr r hr1).2⟩
  exact List.mem_map.2 ⟨_,(h.mem d r.1 h0 h4).1 hi,rfl⟩
 have:=Lu hn hs
 simpa using this
theorem rU.LY {a b c:aX} (h:rU 2 a b c) (ra:dN a) (rb:dN b):c.length≤4*(a.length+b.length):=by
 refine h.right.length fun d h0 h4=>?_
 have pa:=ra.2 d h0 h4
 have pb:=rb.2 d h0 h4
 have e:bQ c d=rQ (bQ a d) (bQ b d):=by
  refine Qk (h.right.2 d h0 h4).1 (Hq _ _ _ _ pa.1 pb.1) fun n=>?_
  rw[Hr _ _ _ _ pb.1]
  have:=h.mem d n h0 h4
  unfold iF kT at this
  simpa using this
 rw[e]
 have:=Rt pa pb
 have h1:=AV a d
 have h2:=AV b d
 omega
theorem dN.fits {c:aX} (h:dN c):oD c:=fun s hs=>by
 have hd:∀ {c:aX} {lo:Int},iZ lo c→∀s∈c,lo≤s.1∧s.1<4:=by
  intro c
  induction c with
  |nil=>intro lo _ s hs;cases hs
  |cons x c ih=>
   intro lo h s hs
   rcases List.mem_cons.1 hs with rfl|hs
   ·exact⟨h.1,h.2.1⟩
   ·have:=ih h.2.2 s hs
    have:=h.1
    omega
 have h1:=hd h.1 s hs
 have h2:=(h.2 s.1 h1.1 h1.2)
 have hm:s.2∈bQ c s.1:=by
  unfold bQ
  exact List.mem_map.2 ⟨s,List.mem_filter.2 ⟨hs,by simp⟩,rfl⟩
 have h3:=oZ h2.1 s.2 hm
 have h4:=h2.2 s.2 hm
 omega
end Go.Proofs.YtabkpccdnkjoiaaGreat
namespace Go.Proofs.YtabkpccdnkjoiaaGreat
open Go.RowKit Go.Sort
def xG (l:List Int):aW:=l.map fun x=>(x,x)
theorem ZL {l:List Int} {k:Nat} (hk:k<l.length):xG (l.take (k+1))=xG (l.take k)++ [(l.getD k 0,l.getD k 0)]:=by
 rw[take_succ 0 hk];simp[xG]
theorem ZM (l:List Int) (n:Int):dB (xG l) n↔n∈l:=by
 constructor
 ·rintro⟨r,hr,h⟩
  obtain⟨x,hx,rfl⟩:=List.mem_map.1 hr
  have:n=x:=by have h1:x≤n:=h.1;have h2:n≤x:=h.2;omega
  rw[this];exact hx
 ·exact fun h=>⟨(n,n),List.mem_map.2 ⟨n,h,rfl⟩,Int.le_refl _,Int.le_refl _⟩
theorem ZN (w:World) (v:Value) (l:List Int) (hv:Ik w v l) (hl:l.length≤100000) (hb:∀x∈l,1≤x∧x≤1099511627776):
 Calls Tryz.prog 237 #[v] w fun e w'=>∃v' out,e= .returned (.tuple #[v', .int .i64 0])∧OwnAt w w' 288 2 v' out.length (fH out)∧dR out∧(∀n,dB out n↔n∈l)∧out.length≤l.length:=by
 obtain⟨i0,hi,hz0,hz1,hz2⟩:=info_parts Iy
 obtain⟨aA,cA,rfl⟩:=hv.sl
 have HH:=ah hv;clear hv
 have HB:=ah hb;clear hb
 have hone:(xG l).length=l.length:=by simp[xG]
 have qp:=ah hone;clear hone
 have HL:=ah hl;clear hl
 generalize hn:l.length=n at*
 have HN:=ah hn;clear hn
 have eg:∀args w,(callFunc 268 args).run Tryz.prog w= .ok (.enter 268 args) w:=enters_of Tryz.func268 (by kernel_rfl) rfl
 go_enter Tryz.func237,Tryz.ntmps237
 go_wp2
 go_loopw [4,9] (fun v i ww=>∃k:Nat,k≤n∧i= .int .i64 k∧OwnAt w ww 288 2 v k (fH (xG (l.take k)))) (fun _ i _=>n-(intOf i).toNat)
 case atStart=>exact⟨0,Nat.zero_le _,rfl,OwnAt.nil (aj.refl _ _) _ _⟩
 case round=>
  obtain⟨k,hk,rfl,ho⟩:=hrel
  obtain⟨av,cv,rfl⟩:=ho.shape
  have HO:=ah ho;clear ho
  by_cases hlt:k<n
  ·rcases Rd.shape HH.out with⟨ad,he,h0⟩|⟨b,off,cc,he,hmax⟩
   ·exfalso;have:=HN.out;omega
   ·injection he with e1 e2 e3
    subst e1 e3
    clear e2
    rw[HN.out]at hmax
    have hlk:k<l.length:=by rw[HN.out];exact hlt
    have p0:=Qz HH.out HN.out.symm k hlk
    have q0:=HO.out.aH.cell' p0 id
    clear p0
    have hbx:=HB.out _ (getD_mem 0 hlk)
    have hE:=ZL hlk
    generalize l.getD k 0=x at*
    have HE:=ah hE;clear hE
    have hnb:vY x=true:=by unfold vY;simpa using hbx
    have A_:=ah (fun W=>hnb▸AP x W);clear hnb
    have hk1:k≤100000:=Nat.le_trans hk HL.out
    go_wp2_with(first
     |(go_at_call 267;refine(A_.out _).mono ?_;rintro e w1 ⟨rfl,hw1⟩;rw[hw1];clear hw1 w1)
     |(at_builtin;refine qP w _ [.int .i64 x, .int .i64 x] rfl (.tmp 16) (.tmp 20) 266 rfl 288 i0 _ 2 16 Tryz.underlying266 hi hz0 hz1 hz2 (by decide) (by decide) _ _ _ HO.out 1 1 rfl (by simp[Act.eval]) rfl (by simp[Value.oneCell']) (by simp only[maxLen];omega) (by omega) ?_;intro IE qQ w2 dM;have OW:=ah dM;clear dM))
    go_roundw
    case rel=>exact⟨k+1,by omega,by go_num,by rw[HE.out,rV];exact OW.out⟩
    case measure=>simp[intOf];omega
  ·obtain rfl:n=k:=by omega
   rw[List.take_of_length_le (by rw[HN.out];exact Nat.le_refl _)]at HO
   have hbd:∀r∈xG l,1≤r.1∧r.1≤r.2∧r.2≤1099511627776:=fun r hr=>by
    obtain⟨x,hx,rfl⟩:=List.mem_map.1 hr
    have:=HB.out x hx
    exact⟨this.1,Int.le_refl _,this.2⟩
   have uD:=ah hbd;clear hbd
   have hl5:=HL.out
   go_wp2_with(first
    |(go_at_call 232;refine(Zr 268 eg Zq _ _ _ n (xG l) HO.out qp.out (Nat.le_trans HL.out (by decide))).mono ?_;rintro e w3 ⟨rfl,l',hp,hs,ho3⟩;have HP:=ah hp;clear hp;have HS:=ah hs;clear hs;have dZ:=ah ho3;clear ho3)
    |(go_at_call 235;refine(YZ _ _ l' (by have:=dZ.out.rd;rw[←qp.out,←HP.out.length_eq]at this;rw[←qp.out,←HP.out.length_eq];exact this) (by rw[HP.out.length_eq,qp.out];exact Nat.le_trans HL.out (by decide)) (Ro HP.out HS.out uD.out).2.2).mono ?_;rintro e w4 ⟨v4,rfl,kL⟩;obtain⟨a4,c4,rfl⟩:=kL.shape;have tq:=ah kL;clear kL))
   go_ret2
   have hj:=Ro HP.out HS.out uD.out
   exact⟨_,sS l',rfl,tq.out.base dZ.out.aH,hj.1,fun x=>by rw[hj.2.1,ZM],Nat.le_trans (Zt l') (by rw[HP.out.length_eq,qp.out];exact Nat.le_refl _)⟩
open Go.RowKit
structure LZ (l:aW) (k:Nat) (p:Nat→aW):Prop where
 done:∀d,d<k→dR (p d)∧(∀n,dB (p d) n↔((d:Int),n)∈l)∧(p d).length≤20000
 todo:∀d,k≤d→d<4→p d=[]
theorem LZ.LM {l:aW} {p:Nat→aW} (h:LZ l 4 p):qO l (nJ fun d=>p d.toNat):=by
 refine⟨KL fun d h0 h4=>(h.done d.toNat (by omega)).1,fun d n h0 h4=>?_⟩
 unfold kT
 rw[Ej _ h0 h4]
 have:=(h.done d.toNat (by omega)).2.1 n
 rwa [Int.toNat_of_nonneg h0]at this
theorem ZO (w:World) (v:Value) (l:aW) (hv:lK w v l) (hd:xA l) (hl:l.length≤20000):
 Calls Tryz.prog 186 #[v] w fun e w'=>∃v' c,e= .returned (.tuple #[v', .int .i64 0])∧OwnAt w w' 144 3 v' c.length (fJ c)∧qO l c∧c.length≤800000:=by
 obtain⟨i0,hi,hz0,hz1,hz2⟩:=info_parts Cj
 obtain⟨aA,cA,rfl⟩:=hv.sl
 have HH:=ah hv;clear hv
 have HD:=ah hd;clear hd
 have HL:=ah hl;clear hl
 generalize hn:l.length=n at*
 have HN:=ah hn;clear hn
 have HST:=ah (jO.start (M:=fun _=>False) 303 2 1 (aj.refl ay w) (fun k hk=>hk.elim))
 go_enter Tryz.func186,Tryz.ntmps186
 go_wp2
 go_loopw [12] (fun i ww=>∃(k:Nat) (vs:Nat→Value),k≤n∧i= .int .i64 k∧jO (fun _=>False) 303 2 1 w ww w.heap.size vs (fun d=>(numsL (l.take k) d).length) (fun d=>qh (numsL (l.take k) d))) (fun i _=>n-(intOf i).toNat)
 case atStart=>exact⟨0,fun _=> .slice none 0 0,Nat.zero_le _,rfl,HST.out⟩
 case round=>
  obtain⟨k,vs,hk,rfl,h4⟩:=hrel
  have H4:=ah h4;clear h4
  by_cases hlt:k<n
  ·rcases Rd.shape HH.out with⟨ad,he,h0⟩|⟨b,off,cc,he,hmax⟩
   ·exfalso;have:=HN.out;omega
   ·injection he with e1 e2 e3
    subst e1 e3
    clear e2
    rw[HN.out]at hmax
    have hlk:k<l.length:=by rw[HN.out];exact hlt
    obtain⟨p0,p1⟩:=qj HH.out HN.out.symm k hlk
    have q0:=H4.out.aH.cell' p0 id
    have q1:=H4.out.aH.cell' p1 id
    clear p0 p1
    have hdk:=HD.out _ (getD_mem (0,0) hlk)
    have qR:=ah (fun d=>Ry (l:=l) (k:=k) d hlk)
    obtain⟨s,hgd⟩:∃s,s=l.getD k (0,0):=⟨_,rfl⟩
    rw[←hgd]at qR q0 q1 hdk
    clear hgd
    have hdr:qg s.1 s.2=true:=by unfold qg;simpa using hdk
    have HDR:=ah (fun W=>hdr▸Ci s.1 s.2 W);clear hdr
    obtain⟨dn,hdn⟩:∃dn:Nat,s.1=dn:=⟨s.1.toNat,by omega⟩
    have hd4:dn<4:=by omega
    rw[hdn]at q0 HDR
    have nK:=ah hdn;clear hdn hdk
    have hc4:(dn:Int)<4:=by omega
    have hsp:(wr.alloc (.cells #[.int .i64 dn, .int .i64 s.2] 170)).heap[wr.heap.size]?=some (.cells #[.int .i64 dn, .int .i64 s.2] 170 (0,0)):=heap_alloc_new wr _
    have tu:=ah hsp;clear hsp
    have HB4:=ah (H4.out.box (.cells #[.int .i64 dn, .int .i64 s.2] 170))
    have hlen:(numsL (l.take k) dn).length≤k:=Nat.le_trans (LJ _ _) (List.length_take_le _ _)
    have HLEN:=ah (Nat.le_trans hlen (Nat.le_trans hk HL.out))
    clear hlen
    go_wp2_with(go_at_call 236;refine(HDR.out _).mono ?_;rintro e w1 ⟨rfl,hw1⟩;have HW1:=ah hw1;clear hw1;have n0:w1.cell? ⟨wr.heap.size,0,none⟩=some (.int .i64 dn):=HW1.out.cell' (au tu.out 0 rfl) id;have n1:w1.cell? ⟨wr.heap.size,1,none⟩=some (.int .i64 s.2):=HW1.out.cell' (au tu.out 1 rfl) id)
    have uZ:=ah ((HB4.out.keep HW1.out).keep (aj.drew _ _))
    have hsb:wr.heap.size<w1.heap.size:=World.block_lt_of_cell? _ _ n0
    obtain⟨pl,hpl⟩:∃pl,pl=(numsL (l.take k) dn).length:=⟨_,rfl⟩
    have hob:jc (yL (fun k=>False∨k=wr.heap.size) w.heap.size vs dn) w w1.drew 2 1 (vs dn) pl (qh (numsL (l.take k) dn)):=by rw[hpl];exact uZ.out.but hd4
    have oH:=ah hob;clear hob
    rw[←hpl]at HLEN
    have jY:=ah hpl;clear hpl
    clear q0 q1
    generalize wr.heap.size=sb at*
    refine ku (S:=fun w'=>w'.cell? ⟨sb,0,none⟩=some (.int .i64 dn)∧w'.cell? ⟨sb,1,none⟩=some (.int .i64 s.2)∧w'.cell? ⟨w.heap.size,dn,none⟩=some (vs dn)) 11 (by kernel_rfl) ⟨n0,n1,uZ.out.cell hd4⟩ ?_
    intro hS
    have hsb:sb<w1.drew.heap.size:=hsb
    clear n0 n1
    generalize w1.drew=Y at*
    refine aU 0 19 rfl rfl (v:=?_) (.inl ⟨by rfl,?_⟩) ?_
    rotate_left 1
    ·(intro w hSw;(try dsimp only at hSw);go_simp;(try with_reducible rfl))
    refine aU 1 20 rfl rfl (v:=?_) (.inl ⟨by rfl,?_⟩) ?_
    rotate_left 1
    ·(intro w hSw;(try dsimp only at hSw);go_simp;(try with_reducible rfl))
    try simp only[Act.put,aN,aO,aP]
    refine aU 2 21 rfl rfl (v:=?_) (.inl ⟨by rfl,?_⟩) ?_
    rotate_left 1
    ·(intro w hSw;(try dsimp only at hSw);go_simp;(try with_reducible rfl))
    refine aU 3 22 rfl rfl (v:=?_) (.inl ⟨by rfl,?_⟩) ?_
    rotate_left 1
    ·(intro w hSw;(try dsimp only at hSw);go_simp;(try with_reducible rfl))
    try simp only[Act.put,aN,aO,aP]
    refine aU 4 23 rfl rfl (v:=?_) (.inl ⟨by rfl,?_⟩) ?_
    rotate_left 1
    ·(intro w hSw;(try dsimp only at hSw);go_simp;(try with_reducible rfl))
    refine aU 5 24 rfl rfl (v:=?_) (.inl ⟨by rfl,?_⟩) ?_
    rotate_left 1
    ·(intro w hSw;(try dsimp only at hSw);go_simp;(try with_reducible rfl))
    try simp only[Act.put,aN,aO,aP]
    refine aU 6 25 rfl rfl (v:=?_) (.inl ⟨by rfl,?_⟩) ?_
    rotate_left 1
    ·(intro w hSw;(try dsimp only at hSw);go_simp;(try with_reducible rfl))
    refine aU 7 26 rfl rfl (v:=?_) (.inl ⟨by rfl,?_⟩) ?_
    rotate_left 1
    ·(intro w hSw;(try dsimp only at hSw);go_simp;(try with_reducible rfl))
    try simp only[Act.put,aN,aO,aP]
    refine bJ (i:=8) (by kernel_rfl) rfl (fun K hK=>?_)
    go_simp
    have hS1:(Y.alloc (.cells #[.int .i64 s.2] 2)).cell? ⟨sb,0,none⟩=some (.int .i64 dn)∧(Y.alloc (.cells #[.int .i64 s.2] 2)).cell? ⟨sb,1,none⟩=some (.int .i64 s.2)∧(Y.alloc (.cells #[.int .i64 s.2] 2)).cell? ⟨w.heap.size,dn,none⟩=some (vs dn):=⟨(aj.alloc ay Y _).cell' hS.1 id,(aj.alloc ay Y _).cell' hS.2.1 id,(aj.alloc ay Y _).cell' hS.2.2 id⟩
    refine hK.out _ _ hS1 ?_
    clear hK K
    try simp only[Act.put,aN,aO,aP]
    refine bJ (i:=9) (by kernel_rfl) rfl (fun K hK=>?_)
    refine Lh (yL (fun k=>False∨k=sb) w.heap.size vs dn) w Y [.int .i64 s.2] rfl (.tmp 24) (.tmp 27) 252 rfl 2 i0 _ 1 8 Tryz.underlying252 hi hz0 hz1 hz2 (by decide) (by decide) (vs dn) pl _ oH.out (uZ.out.lt dn) 1 1 (by simp[Act.eval]) (by simp[Act.eval]) rfl (by simp[Value.oneCell']) (by have:=HLEN.out;simp only[maxLen];omega) (by have:=HLEN.out;omega) ?_
    intro ad qQ w2 dM kE
    have hS2:w2.cell? ⟨sb,0,none⟩=some (.int .i64 dn)∧w2.cell? ⟨sb,1,none⟩=some (.int .i64 s.2)∧w2.cell? ⟨w.heap.size,dn,none⟩=some (vs dn):=⟨kE.cell (.inr (.inl (.inr rfl))) hS.1,kE.cell (.inr (.inl (.inr rfl))) hS.2.1,kE.cell (.inl rfl) hS.2.2⟩
    refine hK.out _ _ hS2 ?_
    clear hK K hS1
    have u_:=ah (((uZ.out.step hd4 kE dM).mono (M':=fun _=>False) fun k hk=>hk.elim).congr (n':=fun d=>(numsL (l.take (k+1)) d).length) (xs':=fun d=>qh (numsL (l.take (k+1)) d)) (fun d hd=>by
     rw[qR.out]
     by_cases he:d=dn
     ·subst he;rw[upd_same,if_pos nK.out,List.length_append,←jY.out];rfl
     ·rw[ql _ _ he,if_neg (by rw[nK.out];omega),List.append_nil]) (fun d hd=>by
     rw[qR.out]
     by_cases he:d=dn
     ·subst he;rw[upd_same,if_pos nK.out,Ih];rfl
     ·rw[ql _ _ he,if_neg (by rw[nK.out];omega),List.append_nil]))
    have hcf:=kE.frozen (p:=⟨w.heap.size,dn,none⟩) (.inl rfl) (aG uZ.out.blk dn)
    clear dM kE
    try simp only[Act.put,aN,aO,aP]
    refine aU 10 29 rfl rfl (v:=?_) (.inl ⟨by rfl,?_⟩) ?_
    rotate_left 1
    ·(intro w hSw;(try dsimp only at hSw);go_simp;(try with_reducible rfl))
    try simp only[Act.put,aN,aO,aP]
    refine iC (by kernel_rfl) (by kernel_rfl) rfl (fun K hK=>?_)
    have hcz:=hS2.2.2
    clear hS2 hS
    go_simp
    refine hK.out _ _ ?_
    clear hK K hcz hcf
    go_wp2
    go_roundw
    case rel=>exact⟨k+1,_,by omega,by go_num,u_.out⟩
    case measure=>simp[intOf];omega
  ·obtain rfl:n=k:=by omega
   rw[List.take_of_length_le (by rw[HN.out];exact Nat.le_refl _)]at H4
   obtain⟨wo,rfl⟩:∃wo:World,wo=wr:=⟨_,rfl⟩
   have hsh:∀d,d<4→∃t:Option Addr×Nat×Nat,vs d= .slice t.1 t.2.1 t.2.2:=fun d hd=>by
    obtain⟨a,c,h⟩:=(H4.out.own d hd).at_.shape
    exact⟨(a,_,c),h⟩
   obtain⟨A,hA⟩:=Go.Deep.choose_lt hsh
   clear hsh
   have c0:wo.cell? ⟨w.heap.size,0,none⟩=some (.slice (A 0).1 (A 0).2.1 (A 0).2.2):=hA 0 (by omega)▸H4.out.cell (d:=0) (by omega)
   have c1:wo.cell? ⟨w.heap.size,1,none⟩=some (.slice (A 1).1 (A 1).2.1 (A 1).2.2):=hA 1 (by omega)▸H4.out.cell (d:=1) (by omega)
   have c2:wo.cell? ⟨w.heap.size,2,none⟩=some (.slice (A 2).1 (A 2).2.1 (A 2).2.2):=hA 2 (by omega)▸H4.out.cell (d:=2) (by omega)
   have c3:wo.cell? ⟨w.heap.size,3,none⟩=some (.slice (A 3).1 (A 3).2.1 (A 3).2.2):=hA 3 (by omega)▸H4.out.cell (d:=3) (by omega)
   have yM:=ah hA;clear hA
   have hgw:w.heap.size<wo.heap.size:=World.block_lt_of_cell? _ _ c0
   have hp0:=qU.start (w0:=w) (w:=wo) (A:=fun _=>(none,0,0)) (p:=fun _=> []) ⟨fun d hd=>OwnAt.nil H4.out.aH _ _⟩
   have vg:=ah hp0;clear hp0
   go_wp2
   clear c0 c1 c2 c3
   go_loopw [32] (fun i ww=>∃(j:Nat) (A':Nat→Sl) (p:Nat→aW),j≤4∧i= .int .i64 j∧qU w ww wo.heap.size A' p∧LZ l j p∧
    aj (fun k=>k=wo.heap.size) (wo.alloc (.cells #[.slice none 0 0, .slice none 0 0, .slice none 0 0, .slice none 0 0] 268)) ww) (fun i _=>4-(intOf i).toNat)
   case atStart=>exact⟨0,fun _=>(none,0,0),fun _=> [],by omega,rfl,vg.out,⟨fun d hd=>by omega,fun d _ _=>rfl⟩,aj.refl _ _⟩
   case round=>
    obtain⟨j,A',p,hj,rfl,hp,hou,lT⟩:=hrel
    have HP:=ah hp;clear hp
    have IQ:=ah hou;clear hou
    have jL:=ah lT;clear lT
    by_cases yN:j<4
    ·have hki:(j:Int)<4:=by omega
     have hkd:decide ((j:Int)<4)=true:=by simpa using hki
     have hix:∀W,(Instr.index 303 (.agg #[.slice (A 0).1 (A 0).2.1 (A 0).2.2, .slice (A 1).1 (A 1).2.1 (A 1).2.2, .slice (A 2).1 (A 2).2.1 (A 2).2.2, .slice (A 3).1 (A 3).2.1 (A 3).2.2]) (.int .i64 (j:Int))).run Tryz.prog W= .ok (.slice (A j).1 (A j).2.1 (A j).2.2) W:=by
      rcases(by omega:j=0∨j=1∨j=2∨j=3)with rfl|rfl|rfl|rfl<;>exact fun _=>by kernel_rfl
     have hob:=((H4.out.own j yN).at_.keep (aj.alloc ay wo (.cells #[.slice none 0 0, .slice none 0 0, .slice none 0 0, .slice none 0 0] 268)))
     have hno:=Rd.keep hob.rd jL.out (fun q hq h=>by have:=(H4.out.own j yN).at_.lt q hq;have h:q=wo.heap.size:=h;omega)
     rw[yM.out j yN]at hno
     have hcall:=ZN wr _ (numsL l j) hno (Nat.le_trans (LJ l j) (by rw[HN.out];exact Nat.le_trans HL.out (by decide))) (fun x hx=>by have:=HD.out _ (IL.1 hx);exact⟨this.2.2.1,this.2.2.2⟩)
     have HC:=ah hcall;clear hcall hob hno
     have hpc:=HP.out.cell yN
     have CS:=ah hpc;clear hpc
     go_wp2_with(go_at_call 237;refine HC.out.mono ?_;rintro e w3 ⟨v3,out,rfl,ho3,hr3,jG,hl3⟩;obtain⟨a3,c3,rfl⟩:=ho3.shape;have dZ:=ah ho3;clear ho3;have HR3:=ah hr3;clear hr3;have xu:=ah jG;clear jG;have lU:=ah hl3;clear hl3;have hcz:=dZ.out.aH.cell' CS.out id;have hfz:w3.frozen? ⟨wo.heap.size,j,none⟩=false:=aG (HP.out.keep dZ.out.aH).blk j)
     have LH:=ah (HP.out.set yN (t:=(a3,out.length,c3)) dZ.out)
     go_roundw
     case rel=>exact⟨j+1,_,_,by omega,by go_num,LH.out,⟨fun d hd=>by
      by_cases he:d=j
      ·subst he;rw[upd_same];exact⟨HR3.out,fun n=>by rw[xu.out,IL],Nat.le_trans lU.out (Nat.le_trans (LJ l d) (by rw[HN.out];exact HL.out))⟩
      ·rw[ql _ _ he];exact IQ.out.done d (by omega),fun d h1 h2=>by
      rw[ql _ _ (by omega)];exact IQ.out.todo d (by omega) h2⟩,(jL.out.aC dZ.out.aH).trans (aj.setCell (S:=fun k=>k=wo.heap.size) w3 (p:=⟨wo.heap.size,j,none⟩) (.inl rfl) _) fun _ _ h=>h⟩
     case measure=>simp[intOf];omega
    ·obtain rfl:j=4:=by omega
     have c0:wr.cell? ⟨wo.heap.size,0,none⟩=some (.slice (A' 0).1 (A' 0).2.1 (A' 0).2.2):=HP.out.cell (by omega)
     have c1:wr.cell? ⟨wo.heap.size,1,none⟩=some (.slice (A' 1).1 (A' 1).2.1 (A' 1).2.2):=HP.out.cell (by omega)
     have c2:wr.cell? ⟨wo.heap.size,2,none⟩=some (.slice (A' 2).1 (A' 2).2.1 (A' 2).2.2):=HP.out.cell (by omega)
     have c3:wr.cell? ⟨wo.heap.size,3,none⟩=some (.slice (A' 3).1 (A' 3).2.1 (A' 3).2.2):=HP.out.cell (by omega)
     go_wp2_with(go_at_call 229;refine(Rk _ A' p (fun d hd=>(HP.out.own d hd).at_.rd) (fun d hd=>Nat.le_trans (IQ.out.done d hd).2.2 (by decide))).mono ?_;rintro e w3 ⟨v3,c,rfl,ho3,hc3,hl3⟩;obtain⟨a3,k3,rfl⟩:=ho3.shape;have dZ:=ah ho3;clear ho3;have mP:=ah hc3;clear hc3;have lU:=ah hl3;clear hl3)
     go_ret2
     exact⟨_,c,rfl,dZ.out.base (HP.out.own 0 (by omega)).at_.aH,by rw[mP.out];exact IQ.out.LM,lU.out⟩
open Go.RowKit
def aQ.v (e:aQ):Value:= .agg #[.int .i64 e.dc, .int .i64 e.n, .string e.s, .int .i64 e.k]
theorem ED (e:aQ) (hs:e.s.size≤9223372036854775807) (w:World):Calls Tryz.prog 239 #[e.v] w fun x w'=>x= .returned (.bool (iO e))∧aj ay w w':=by
 unfold aQ.v
 have c2:(w.alloc (.cells #[.int .i64 e.dc, .int .i64 e.n, .string e.s, .int .i64 e.k] 172)).cell? ⟨w.heap.size,2,none⟩=some (.string e.s):=au (heap_alloc_new w _) 2 rfl
 have c3:(w.alloc (.cells #[.int .i64 e.dc, .int .i64 e.n, .string e.s, .int .i64 e.k] 172)).cell? ⟨w.heap.size,3,none⟩=some (.int .i64 e.k):=au (heap_alloc_new w _) 3 rfl
 cases hd:qg e.dc e.n with
 |false=>
  go_enter Tryz.func239,Tryz.ntmps239
  go_wp2_with(go_at_call 263;refine(Qw _ _ _).mono ?_;rintro x w1 ⟨rfl,hw1⟩;rw[hd])
  go_ret
  exact⟨dK (by simp[iO,hd]),(aj.alloc _ _ _).aC hw1⟩
 |true=>
  go_enter Tryz.func239,Tryz.ntmps239
  go_wp2_with(go_at_call 263;refine(Qw _ _ _).mono ?_;rintro x w1 ⟨rfl,hw1⟩;rw[hd];have k2:=hw1.cell' c2 id;have k3:=hw1.cell' c3 id)
  all_goals
   go_ret
   refine⟨dK ?_,(aj.alloc _ _ _).aC hw1⟩
   rw[Bool.eq_iff_iff]
   simp[iO,hd]<;>omega
theorem RI:∀(l:List aQ) (p:Option aQ) (e:aQ),jQ p (l++ [e])=(jQ p l&&iO e&&xE (match l.getLast? with|some x=>some x|none=>p) e)
 |[],p,e=>by simp[jQ]
 |x::l,p,e=>by
  show(iO x&&xE p x&&jQ (some x) (l++ [e]))=((iO x&&xE p x&&jQ (some x) l)&&iO e&&_)
  rw[RI l (some x) e]
  have:(match(x::l).getLast? with|some y=>some y|none=>p)=(match l.getLast? with|some y=>some y|none=>some x):=by
   cases l with
   |nil=>rfl
   |cons y l=>
    rw[List.getLast?_cons_cons]
    cases h:(y::l).getLast? with
    |none=>simp at h
    |some z=>rfl
  rw[this]
  simp only[Bool.and_assoc]
theorem RJ:∀(l:List aQ) (p:Option aQ) (k:Nat),jQ p l=true→jQ p (l.take k)=true
 |[],_,_,_=>by simp[jQ]
 |_::_,_,0,_=>rfl
 |x::l,p,k+1,h=>by
  have h:(iO x&&xE p x&&jQ (some x) l)=true:=h
  show(iO x&&xE p x&&jQ (some x) (l.take k))=true
  simp only[Bool.and_eq_true]at h⊢
  exact⟨h.1,RJ l _ k h.2⟩
theorem RN {l:List aQ} (h:0<l.length):jQ none (l.take (0+1))=iO (l.getD 0 aQ.zero):=by
 rw[take_succ aQ.zero h]
 simp[jQ,xE]
theorem RP {l:List aQ} {j:Nat} (h:j+1<l.length) (hr:jQ none (l.take (j+1))=true):jQ none (l.take (j+1+1))=(iO (l.getD (j+1) aQ.zero)&&xk (l.getD j aQ.zero).dc (l.getD j aQ.zero).n (l.getD (j+1) aQ.zero).dc (l.getD (j+1) aQ.zero).n):=by
 rw[take_succ aQ.zero h,RI,hr]
 have:(l.take (j+1)).getLast?=some (l.getD j aQ.zero):=by
  rw[take_succ aQ.zero (by omega)];simp
 rw[this]
 simp[xE]
theorem uI {l:List aQ} {k:Nat} (h:jQ none (l.take k)=false):jQ none l=false:=by
 cases hh:jQ none l with
 |false=>rfl
 |true=>rw[RJ l none k hh]at h;cases h
theorem Ey.at {es:List aQ} (h:Ey es) {k:Nat} (hk:k<es.length):(es.getD k aQ.zero).fits:=h.fits _ (getD_mem _ hk)
open Go.RowKit
theorem Calls.oJ {P:Program} {f:FuncId} {args:Array Value} {w:World} {v:Value} (h:Calls P f args w fun e w'=>e= .returned v∧w'=w):Calls P f args w fun e w'=>e= .returned v∧aj (fun _=>False) w w':=
 h.mono fun _ _ ⟨h1,h2⟩=>⟨h1,by rw[h2];exact aj.refl _ _⟩
theorem RQ (t:TypeId) (a b:ByteArray):binOp .geq t (.string a) (.string b)=pure (.bool !(Op.bytesLess a.toList b.toList)):=by simp[binOp,Op.stringOp]
theorem yT:∀(n:Nat) {ks:aS} {key:ByteArray} {es:List aQ} {sub rest:aS},ks.drop n= .cons key es sub rest→jE sub<jE ks
 |0, .cons _ _ _ _,_,_,_,_,h=>by
  cases h
  simp only[jE]
  omega
 |0, .nil,_,_,_,_,h=>by cases h
 |n+1, .nil,_,_,_,_,h=>by cases h
 |n+1, .cons _ _ _ r,_,_,_,_,h=>by
  have h1:r.drop n=_:=h
  have:=yT n h1
  simp only[jE]
  omega
theorem RS {ks:aS} {d n:Nat} {key:ByteArray} {es:List aQ} {sub rest:aS} {p:Option ByteArray} (h:ks.drop n= .cons key es sub rest):pz (ks.drop n) d p=(uy key&&ltK p key&& !isNil es sub&&dD d es sub&&pz (ks.drop (n+1)) d (some key)):=by
 rw[h,aS.CQ n ks h,RH]
def RU (ks:aS) (n:Nat) (p:Option ByteArray):Prop:=(n=0∧p=none)∨∃j key es sub rest,n=j+1∧ks.drop j= .cons key es sub rest∧p=some key
theorem ZP (es:List aQ) (ks:aS):((((es.length:Int)+(ks.len:Int))==0))=isNil es ks:=by
 rw[Bool.eq_iff_iff]
 simp only[isNil,beq_iff_eq,decide_eq_true_eq]
 omega
theorem ZQ {d:Nat} (h:d≤100):wrap64 (d:Int)=d:=by unfold wrap64;omega
theorem ZR (Q:Nat→Prop):∀(N:Nat) (es:List aQ) (ks:aS) (d:Nat) (w:World) (ev kv:Value),jE ks<N→dh Q w ev kv es ks→oI es ks→d≤100→
 Calls Tryz.prog 189 #[.agg #[ev,kv], .int .i64 d] w fun e w'=>e= .returned (.bool (dD d es ks))∧aj ay w w':=by
 intro N
 induction N with
 |zero=>intros;exfalso;omega
 |succ N mV=>
  intro es ks d w ev kv hN ht hok hd
  obtain⟨ae,ce,rfl⟩:=ht.ents.rd.sl
  obtain⟨os,hkr,iP⟩:=ht.kids
  obtain⟨ak,ck,rfl⟩:=hkr.rd.sl
  have HT:=ah ht;clear ht
  have mW:=ah hkr.rd;clear hkr
  have qw:=ah iP;clear iP
  have IH:=ah mV;clear mV
  have dF:=ah (aj.alloc ay w (.cells #[.slice ae es.length ce, .slice ak ks.len ck] 30))
  have box0:(w.alloc (.cells #[.slice ae es.length ce, .slice ak ks.len ck] 30)).cell? ⟨w.heap.size,0,none⟩=some (.slice ae es.length ce):=au (heap_alloc_new w _) 0 rfl
  have box1:(w.alloc (.cells #[.slice ae es.length ce, .slice ak ks.len ck] 30)).cell? ⟨w.heap.size,1,none⟩=some (.slice ak ks.len ck):=au (heap_alloc_new w _) 1 rfl
  have B0:=ah box0;clear box0
  have B1:=ah box1;clear box1
  have L_:=ah hok.es.len
  have xH:=ah hok.len
  have bT:=ah hok;clear hok
  have kF:=ah hN;clear hN
  cases d with
  |zero=>
   go_enter Tryz.func189,Tryz.ntmps189
   go_wp2
   go_ret
   exact⟨dK (by simp[dD]),dF.out⟩
  |succ d=>
   generalize hes:es.length=n at*
   have HN:=ah hes;clear hes
   generalize hkl:ks.len=m at*
   have HM:=ah hkl;clear hkl
   have hdz:(((d+1:Nat):Int)==0)=false:=by simp;omega
   have hwd:wrap64 (d:Int)=d:=ZQ (by omega)
   have HD:=ah hd;clear hd
   go_enter Tryz.func189,Tryz.ntmps189
   go_wp2
   go_loopw [13] (fun i ww=>∃k:Nat,k≤n∧i= .int .i64 k∧jQ none (es.take k)=true∧aj ay (w.alloc (.cells #[.slice ae n ce, .slice ak m ck] 30)) ww) (fun i _=>n-(intOf i).toNat)
   case atStart=>exact⟨0,Nat.zero_le _,rfl,rfl,aj.refl _ _⟩
   case round=>
    obtain⟨k,hk,rfl,hr,hw⟩:=hrel
    have HW:=ah hw;clear hw
    have HR:=ah hr;clear hr
    have b0:=HW.out.cell' B0.out id
    by_cases hlt:k<n
    ·have hnm:(n:Int)≤9223372036854775807:=by have:=L_.out;omega
     rcases Rd.shape (HT.out.ents.rd.aJ (dF.out.aC HW.out))with⟨ad,he,h0⟩|⟨b,off,cc,he,hmax⟩
     ·exfalso;have:=HN.out;omega
     ·injection he with e1 e2 e3
      subst e1 e3
      clear e2 hmax
      have her:=HT.out.ents.rd.aJ (dF.out.aC HW.out)
      rw[HN.out]at her
      obtain⟨q0,q1,q2,q3⟩:=xC her k (by rw[HN.out];exact hlt)
      have hsz:=(bT.out.es.at (show k<es.length by rw[HN.out];exact hlt)).2.2.2
      clear her
      obtain⟨α,hne,K,hK1,hK0,hK2⟩:=worlds wr
      have kb0:=fun s=>(hK1 s).cell' b0 id
      rcases Nat.eq_zero_or_pos k with rfl|hk0
      ·have hS:=RN (l:=es) (by rw[HN.out];exact hlt)
       generalize es.getD 0 aQ.zero=e at*
       simp only[Nat.zero_mul,Nat.add_zero]at q0 q1 q2 q3
       have k0:=fun s=>(hK1 s).cell' q0 id
       have k1:=fun s=>(hK1 s).cell' q1 id
       have k2:=fun s=>(hK1 s).cell' q2 id
       have k3:=fun s=>(hK1 s).cell' q3 id
       clear q0 q1 q2 q3
       cases he:iO e with
       |false=>
        rw[he]at hS
        have HS:=ah hS;clear hS
        go_wp2_with fail
        refine dX K (by kernel_rfl) (by kernel_rfl) hK0 ?_
        repeat(go_big_quiet_step ((first|(go_at_call 239;exact Calls.bY hK2 (ED e hsz _))|(go_at_call 109;exact Calls.bY hK2 (Em _ _ _ _ _)))))
        refine wpQuiet_nil ?_
        intro w' hw'
        obtain⟨s,rfl⟩:=hw'
        have hfs:=hK1 s
        go_wp2
        go_ret
        exact⟨dK (by rw[dD,uI HS.out];simp),dF.out.aC (HW.out.aC hfs)⟩
       |true=>
        rw[he]at hS
        have HS:=ah hS;clear hS
        go_wp2_with fail
        refine dX K (by kernel_rfl) (by kernel_rfl) hK0 ?_
        repeat(go_big_quiet_step ((first|(go_at_call 239;exact Calls.bY hK2 (ED e hsz _))|(go_at_call 109;exact Calls.bY hK2 (Em _ _ _ _ _)))))
        refine wpQuiet_nil ?_
        intro w' hw'
        obtain⟨s,rfl⟩:=hw'
        have hfs:=hK1 s
        go_wp2
        go_roundw
        case rel=>exact⟨0+1,by omega,by go_num,HS.out,HW.out.aC hfs⟩
        case measure=>simp[intOf];omega
      ·obtain⟨j,rfl⟩:∃j,k=j+1:=⟨k-1,by omega⟩
       have her:=HT.out.ents.rd.aJ (dF.out.aC HW.out)
       rw[HN.out]at her
       obtain⟨p0,p1,-,-⟩:=xC her j (by rw[HN.out];omega)
       clear her
       have hS:=RP (l:=es) (j:=j) (by rw[HN.out];exact hlt) HR.out
       generalize es.getD (j+1) aQ.zero=e at*
       generalize es.getD j aQ.zero=pe at*
       have k0:=fun s=>(hK1 s).cell' q0 id
       have k1:=fun s=>(hK1 s).cell' q1 id
       have k2:=fun s=>(hK1 s).cell' q2 id
       have k3:=fun s=>(hK1 s).cell' q3 id
       have k4:=fun s=>(hK1 s).cell' p0 id
       have k5:=fun s=>(hK1 s).cell' p1 id
       clear q0 q1 q2 q3 p0 p1
       cases he:iO e with
       |false=>
        rw[he,Bool.false_and]at hS
        have HS:=ah hS;clear hS
        go_wp2_with fail
        refine dX K (by kernel_rfl) (by kernel_rfl) hK0 ?_
        repeat(go_big_quiet_step ((first|(go_at_call 239;exact Calls.bY hK2 (ED e hsz _))|(go_at_call 109;exact Calls.bY hK2 (Em _ _ _ _ _)))))
        refine wpQuiet_nil ?_
        intro w' hw'
        obtain⟨s,rfl⟩:=hw'
        have hfs:=hK1 s
        go_wp2
        go_ret
        exact⟨dK (by rw[dD,uI HS.out];simp),dF.out.aC (HW.out.aC hfs)⟩
       |true=>
        rw[he,Bool.true_and]at hS
        cases hl:xk pe.dc pe.n e.dc e.n with
        |false=>
         rw[hl]at hS
         have HS:=ah hS;clear hS
         go_wp2_with fail
         refine dX K (by kernel_rfl) (by kernel_rfl) hK0 ?_
         repeat(go_big_quiet_step ((first|(go_at_call 239;exact Calls.bY hK2 (ED e hsz _))|(go_at_call 109;exact Calls.bY hK2 (Em _ _ _ _ _)))))
         refine wpQuiet_nil ?_
         intro w' hw'
         obtain⟨s,rfl⟩:=hw'
         have hfs:=hK1 s
         go_wp2
         go_ret
         exact⟨dK (by rw[dD,uI HS.out];simp),dF.out.aC (HW.out.aC hfs)⟩
        |true=>
         rw[hl]at hS
         have HS:=ah hS;clear hS
         go_wp2_with fail
         refine dX K (by kernel_rfl) (by kernel_rfl) hK0 ?_
         repeat(go_big_quiet_step ((first|(go_at_call 239;exact Calls.bY hK2 (ED e hsz _))|(go_at_call 109;exact Calls.bY hK2 (Em _ _ _ _ _)))))
         refine wpQuiet_nil ?_
         intro w' hw'
         obtain⟨s,rfl⟩:=hw'
         have hfs:=hK1 s
         go_wp2
         go_roundw
         case rel=>exact⟨j+1+1,by omega,by go_num,HS.out,HW.out.aC hfs⟩
         case measure=>simp[intOf];omega
    ·obtain rfl:n=k:=by omega
     rw[List.take_of_length_le (by rw[HN.out];exact Nat.le_refl _)]at HR
     have b1:=HW.out.cell' B1.out id
     go_wp2
     go_loopw [48] (fun i ww=>∃(k:Nat) (p:Option ByteArray),k≤m∧i= .int .i64 k∧RU ks k p∧pz ks d none=pz (ks.drop k) d p∧aj ay (w.alloc (.cells #[.slice ae n ce, .slice ak m ck] 30)) ww) (fun i _=>m-(intOf i).toNat)
     case atStart=>exact⟨0,none,Nat.zero_le _,rfl, .inl ⟨rfl,rfl⟩,rfl,HW.out⟩
     case round=>
      clear b0 b1
      obtain⟨k,p,hk,rfl,hp,hr,hw⟩:=hrel
      have fD:=ah hw;clear hw
      have HP:=ah hp;clear hp
      have b1:=fD.out.cell' B1.out id
      by_cases hlt:k<m
      ·obtain⟨key,es',sub,rest,hdr⟩:=aS.xB (n:=k) (ks:=ks) (by rw[HM.out];exact hlt)
       have hmm:(m:Int)≤9223372036854775807:=by have:=xH.out;omega
       rcases Rd.shape (mW.out.aJ (dF.out.aC fD.out))with⟨ad,he,h0⟩|⟨b,off,cc,he,hmax⟩
       ·exfalso;have:=HM.out;omega
       ·injection he with e1 e2 e3
        subst e1 e3
        clear e2 hmax
        obtain⟨ev',kv',c0,c1,c2,hta⟩:=wz (mW.out.aJ (dF.out.aC fD.out)) (qw.out.aJ (dF.out.aC fD.out)) hdr
        obtain⟨h_,ig,rfl⟩:=hta.ents.rd.sl
        obtain⟨os',lV,qx⟩:=hta.kids
        obtain⟨iq,iw,rfl⟩:=lV.rd.sl
        clear lV qx
        have hok':=bT.out.ks.drop k
        rw[hdr]at hok'
        have hkz:=hok'.1
        have hsub:oI es' sub:=⟨hok'.2.1,hok'.2.2.1,hok'.2.2.2.1⟩
        have l1:((es'.length:Nat):Int)≤140737488351232:=by have:=hsub.es.len;omega
        have l2:((sub.len:Nat):Int)≤140737488351232:=by have:=hsub.len;omega
        have Mc:=ah hsub;clear hsub hok'
        have iH:=ah (yT k hdr)
        rw[RS hdr]at hr
        have HDR:=ah hdr;clear hdr
        have hbf:aj ay wr (wr.alloc (.cells #[.string key, .slice h_ es'.length ig, .slice iq sub.len iw] 83)):=aj.alloc _ _ _
        have n0:(wr.alloc (.cells #[.string key, .slice h_ es'.length ig, .slice iq sub.len iw] 83)).cell? ⟨wr.heap.size,0,none⟩=some (.string key):=au (heap_alloc_new wr _) 0 rfl
        have n1:(wr.alloc (.cells #[.string key, .slice h_ es'.length ig, .slice iq sub.len iw] 83)).cell? ⟨wr.heap.size,1,none⟩=some (.slice h_ es'.length ig):=au (heap_alloc_new wr _) 1 rfl
        have n2:(wr.alloc (.cells #[.string key, .slice h_ es'.length ig, .slice iq sub.len iw] 83)).cell? ⟨wr.heap.size,2,none⟩=some (.slice iq sub.len iw):=au (heap_alloc_new wr _) 2 rfl
        have gV:=ah (hta.aJ hbf);clear hta
        have Ba:=fD;clear fD
        have fD:=ah (Ba.out.aC hbf)
        have kk:∀j pF es0 xI xJ,ks.drop j= .cons pF es0 xI xJ→wr.cell? ⟨b,off+j*3,none⟩=some (.string pF):=fun j pF es0 xI xJ h=>by
         obtain⟨_,_,h0,_⟩:=wz (mW.out.aJ (dF.out.aC Ba.out)) (qw.out.aJ (dF.out.aC Ba.out)) h
         exact h0
        have KK:=ah kk;clear kk
        have HIH:=ah (fun w' (h:aj ay (wr.alloc (.cells #[.string key, .slice h_ es'.length ig, .slice iq sub.len iw] 83)) w')=>IH.out es' sub d w' _ _ (by have:=iH.out;have:=kF.out;omega) (gV.out.aJ h) Mc.out (by have:=HD.out;omega))
        have hnil:=ZP es' sub
        generalize es'.length=n' at*
        generalize sub.len=m' at*
        obtain⟨α,hne,K,hK3,hK0,hK2⟩:=worlds (wr.alloc (.cells #[.string key, .slice h_ n' ig, .slice iq m' iw] 83))
        have hK1:=hK3
        have ZT:=fun s=>(hK1 s).cell' (hbf.cell' b1 id) id
        have ZU:=fun s=>(hK1 s).cell' n0 id
        have IU:=fun s=>(hK1 s).cell' n1 id
        have Md:=fun s=>(hK1 s).cell' n2 id
        clear n0 n1 n2
        have hge:=RQ
        rcases HP.out with⟨rfl,rfl⟩|⟨j,pF,es0,xI,xJ,rfl,hdj,rfl⟩
        ·simp only[Nat.zero_mul,Nat.add_zero]at c0 c1 c2
         cases g1:uy key with
         |false=>
          rw[g1]at hr
          simp only[Bool.false_and]at hr
          have hst:dD (d+1) es ks=false:=by rw[dD,Nat.add_sub_cancel,hr];simp
          have HST:=ah hst;clear hst hr
          go_wp2_with fail
          refine dX K (by kernel_rfl) (by kernel_rfl) hK0 ?_
          repeat(go_big_quiet_step ((first|(go_at_call 240;exact Calls.bY hK2 (Calls.oJ (xg key _ hkz)))|(go_at_call 189;exact Calls.bY hK2 (HIH.out _ (hK3 _))))))
          refine wpQuiet_nil ?_
          intro w' hw'
          obtain⟨s,rfl⟩:=hw'
          have hfs:=hK1 s
          go_wp2
          go_ret
          exact⟨dK HST.out.symm,dF.out.aC (fD.out.aC hfs)⟩
         |true=>
          cases g3:isNil es' sub with
          |true=>
           rw[g1,g3]at hr
           rw[g3]at hnil
           simp only[Bool.not_true,Bool.and_false,Bool.false_and]at hr
           have hst:dD (d+1) es ks=false:=by rw[dD,Nat.add_sub_cancel,hr];simp
           have HST:=ah hst;clear hst hr
           go_wp2_with fail
           refine dX K (by kernel_rfl) (by kernel_rfl) hK0 ?_
           repeat(go_big_quiet_step ((first|(go_at_call 240;exact Calls.bY hK2 (Calls.oJ (xg key _ hkz)))|(go_at_call 189;exact Calls.bY hK2 (HIH.out _ (hK3 _))))))
           refine wpQuiet_nil ?_
           intro w' hw'
           obtain⟨s,rfl⟩:=hw'
           have hfs:=hK1 s
           go_wp2
           go_ret
           exact⟨dK HST.out.symm,dF.out.aC (fD.out.aC hfs)⟩
          |false=>
           rw[g3]at hnil
           cases g4:dD d es' sub with
           |false=>
            rw[g1,g3,g4]at hr
            rw[g4]at HIH
            simp only[Bool.and_false,Bool.false_and]at hr
            have hst:dD (d+1) es ks=false:=by rw[dD,Nat.add_sub_cancel,hr];simp
            have HST:=ah hst;clear hst hr
            go_wp2_with fail
            refine dX K (by kernel_rfl) (by kernel_rfl) hK0 ?_
            repeat(go_big_quiet_step ((first|(go_at_call 240;exact Calls.bY hK2 (Calls.oJ (xg key _ hkz)))|(go_at_call 189;exact Calls.bY hK2 (HIH.out _ (hK3 _))))))
            refine wpQuiet_nil ?_
            intro w' hw'
            obtain⟨s,rfl⟩:=hw'
            have hfs:=hK1 s
            go_wp2
            go_ret
            exact⟨dK HST.out.symm,dF.out.aC (fD.out.aC hfs)⟩
           |true=>
            rw[g1,g3,g4]at hr
            rw[g4]at HIH
            simp only[ltK,Bool.not_false,Bool.and_true,Bool.true_and]at hr
            have HST:=ah hr;clear hr
            go_wp2_with fail
            refine dX K (by kernel_rfl) (by kernel_rfl) hK0 ?_
            repeat(go_big_quiet_step ((first|(go_at_call 240;exact Calls.bY hK2 (Calls.oJ (xg key _ hkz)))|(go_at_call 189;exact Calls.bY hK2 (HIH.out _ (hK3 _))))))
            refine wpQuiet_nil ?_
            intro w' hw'
            obtain⟨s,rfl⟩:=hw'
            have hfs:=hK1 s
            go_wp2
            go_roundw
            case rel=>exact⟨0+1,some key,by omega,by go_num, .inr ⟨0,key,es',sub,rest,rfl,HDR.out,rfl⟩,HST.out,fD.out.aC hfs⟩
            case measure=>simp[intOf];omega
        ·have pk:=KK.out j pF es0 xI xJ hdj
         clear hdj
         have ZV:=(fun s=>(hK1 s).cell' (hbf.cell' pk id) id)
         clear pk
         cases g1:uy key with
         |false=>
          rw[g1]at hr
          simp only[Bool.false_and]at hr
          have hst:dD (d+1) es ks=false:=by rw[dD,Nat.add_sub_cancel,hr];simp
          have HST:=ah hst;clear hst hr
          go_wp2_with fail
          refine dX K (by kernel_rfl) (by kernel_rfl) hK0 ?_
          repeat(go_big_quiet_step ((first|(go_at_call 240;exact Calls.bY hK2 (Calls.oJ (xg key _ hkz)))|(go_at_call 189;exact Calls.bY hK2 (HIH.out _ (hK3 _))))))
          refine wpQuiet_nil ?_
          intro w' hw'
          obtain⟨s,rfl⟩:=hw'
          have hfs:=hK1 s
          go_wp2
          go_ret
          exact⟨dK HST.out.symm,dF.out.aC (fD.out.aC hfs)⟩
         |true=>
          cases g2:Op.bytesLess pF.toList key.toList with
          |false=>
           rw[show ltK (some pF) key=false from g2]at hr
           simp only[Bool.and_false,Bool.false_and]at hr
           have hst:dD (d+1) es ks=false:=by rw[dD,Nat.add_sub_cancel,hr];simp
           have HST:=ah hst;clear hst hr
           go_wp2_with fail
           refine dX K (by kernel_rfl) (by kernel_rfl) hK0 ?_
           repeat(go_big_quiet_step ((first|(go_at_call 240;exact Calls.bY hK2 (Calls.oJ (xg key _ hkz)))|(go_at_call 189;exact Calls.bY hK2 (HIH.out _ (hK3 _))))))
           refine wpQuiet_nil ?_
           intro w' hw'
           obtain⟨s,rfl⟩:=hw'
           have hfs:=hK1 s
           go_wp2
           go_ret
           exact⟨dK HST.out.symm,dF.out.aC (fD.out.aC hfs)⟩
          |true=>
           cases g3:isNil es' sub with
           |true=>
            rw[g3]at hr
            rw[g3]at hnil
            simp only[Bool.not_true,Bool.and_false,Bool.false_and]at hr
            have hst:dD (d+1) es ks=false:=by rw[dD,Nat.add_sub_cancel,hr];simp
            have HST:=ah hst;clear hst hr
            go_wp2_with fail
            refine dX K (by kernel_rfl) (by kernel_rfl) hK0 ?_
            repeat(go_big_quiet_step ((first|(go_at_call 240;exact Calls.bY hK2 (Calls.oJ (xg key _ hkz)))|(go_at_call 189;exact Calls.bY hK2 (HIH.out _ (hK3 _))))))
            refine wpQuiet_nil ?_
            intro w' hw'
            obtain⟨s,rfl⟩:=hw'
            have hfs:=hK1 s
            go_wp2
            go_ret
            exact⟨dK HST.out.symm,dF.out.aC (fD.out.aC hfs)⟩
           |false=>
            rw[g3]at hnil
            cases g4:dD d es' sub with
            |false=>
             rw[g4]at hr
             rw[g4]at HIH
             simp only[Bool.and_false,Bool.false_and]at hr
             have hst:dD (d+1) es ks=false:=by rw[dD,Nat.add_sub_cancel,hr];simp
             have HST:=ah hst;clear hst hr
             go_wp2_with fail
             refine dX K (by kernel_rfl) (by kernel_rfl) hK0 ?_
             repeat(go_big_quiet_step ((first|(go_at_call 240;exact Calls.bY hK2 (Calls.oJ (xg key _ hkz)))|(go_at_call 189;exact Calls.bY hK2 (HIH.out _ (hK3 _))))))
             refine wpQuiet_nil ?_
             intro w' hw'
             obtain⟨s,rfl⟩:=hw'
             have hfs:=hK1 s
             go_wp2
             go_ret
             exact⟨dK HST.out.symm,dF.out.aC (fD.out.aC hfs)⟩
            |true=>
             rw[g1,g3,g4,show ltK (some pF) key=true from g2]at hr
             rw[g4]at HIH
             simp only[Bool.not_false,Bool.and_true,Bool.true_and]at hr
             have HST:=ah hr;clear hr
             go_wp2_with fail
             refine dX K (by kernel_rfl) (by kernel_rfl) hK0 ?_
             repeat(go_big_quiet_step ((first|(go_at_call 240;exact Calls.bY hK2 (Calls.oJ (xg key _ hkz)))|(go_at_call 189;exact Calls.bY hK2 (HIH.out _ (hK3 _))))))
             refine wpQuiet_nil ?_
             intro w' hw'
             obtain⟨s,rfl⟩:=hw'
             have hfs:=hK1 s
             go_wp2
             go_roundw
             case rel=>exact⟨(j+1)+1,some key,by omega,by go_num, .inr ⟨(j+1),key,es',sub,rest,rfl,HDR.out,rfl⟩,HST.out,fD.out.aC hfs⟩
             case measure=>simp[intOf];omega
      ·obtain rfl:m=k:=by omega
       rw[aS.yR (by rw[HM.out];exact Nat.le_refl _)]at hr
       have HRR:=ah hr;clear hr
       go_wp2
       go_ret
       exact⟨dK (by rw[dD,HR.out,Nat.add_sub_cancel,HRR.out];simp[pz]),dF.out.aC fD.out⟩
end Go.Proofs.YtabkpccdnkjoiaaGreat
