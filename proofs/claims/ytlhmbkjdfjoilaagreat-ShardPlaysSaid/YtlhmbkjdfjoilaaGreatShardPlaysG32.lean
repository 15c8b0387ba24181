/- Words for the law ShardPlays: Ps9, Ps10, Ps11, Ps12, Ps13. -/
import Derived.Test.YtlhmbkjdfjoilaaGreatShardPlaysG0
import Derived.Test.YtlhmbkjdfjoilaaGreatShardPlaysG21
import Derived.Test.YtlhmbkjdfjoilaaGreatShardPlaysG22
import Derived.Test.YtlhmbkjdfjoilaaGreatShardPlaysG27
import Derived.Test.YtlhmbkjdfjoilaaGreatShardPlaysG30
import Derived.Test.YtlhmbkjdfjoilaaGreatShardPlaysG31
set_option linter.unusedSimpArgs false
set_option linter.unusedVariables false
set_option maxHeartbeats 32000000
set_option maxRecDepth 1000000
namespace Go.Proofs.YtlhmbkjdfjoilaaGreat
open Go.RowKit
section
variable {L:Nat→Prop} {w:World} {b n vb:Nat} {sv:Value} {vs:List aU} {rs:List bC}
theorem ahU (h:dW L w b n vb sv vs rs) (QA:Nat→Prop) (es:List aQ) (ks:aT) (c:bD) (ev kv cv:Value) (ha:dU QA w ev kv cv es ks c) (hok:iD es ks c) (bf k:Int) (hb:jP n es ks c k=false∨(jP n es ks c k=true∧bF (bQ n k) ks≠ks)):
 Calls Tryz.prog 18 #[.pointer (some ⟨b,0,none⟩), .int .i64 bf, .int .i64 k, .agg #[ev,kv,cv]] w fun e w'=>e= .returned (.int .i64 1)∧aj aF w w':=by
 have HH:=ah (fun W (f:aj aF w W)=>(Ey b n n (some ⟨vb,0,none⟩) k W (h.aS f).mX).mono fun e w' hp=>(⟨hp.1,hp.2▸aj.refl _ _⟩:e= .returned (.bool (decide (0≤k∧k<(n:Int))))∧aj aF W w'))
 have HR:=ah (fun W (f:aj aF w W)=>xQ QA es ks c W ev kv cv (ha.aS f) hok)
 have yB:=ah (fun(hm:jP n es ks c k=true) W (f:aj aF w W)=>(show Calls Tryz.prog 41 #[.pointer (some ⟨b,0,none⟩), .agg #[ev,kv,cv], .int .i64 k] W (Hr W (bQ n k) ks c)from by
  obtain⟨_,h2,h3⟩:=vO.1 hm
  subst h3
  exact Qg QA [] ks c W ev kv cv (ha.aS f) hok h2 b n n (some ⟨vb,0,none⟩) k (h.aS f).mX))
 have lS:=ah (fun(hm:jP n es ks c k=true) (hne:bF (bQ n k) ks≠ks) W (f:aj aF w W) Q jV mW (h3:dU Q W (.slice none 0 0) jV mW [] (bF (bQ n k) ks) c)=>(show Calls Tryz.prog 43 #[.agg #[.slice none 0 0,jV,mW], .agg #[ev,kv,cv]] W (fun e w'=>e= .returned (.bool false)∧aj aF W w')from by
  obtain⟨_,h2,h4⟩:=vO.1 hm
  subst h4
  have hg:=Ar (bQ n k) (t:=(ks,c)) ⟨hok,h2⟩
  have:=XC Q QA [] (bF (bQ n k) ks) c [] ks c W (.slice none 0 0) jV mW ev kv cv h3 hg.ok (ha.aS f) hok
  rwa [eH (fun h=>hne h.2.2.1.2)]at this))
 have vC:=ah hb
 have hmd:jP n es ks c k=(decide (0≤k∧k<(n:Int))&&(tf (jA es ks c)&&decide (es.length=0))):=rfl
 obtain⟨d0,e0,d1,e1,d2,e2,rfl,rfl,rfl⟩:=ha.shape
 clear h ha hok hb
 unfold Hr at yB
 generalize jP n es ks c k=mb at*
 generalize bF (bQ n k) ks=fk at*
 generalize decide (0≤k∧k<(n:Int))=hd at*
 generalize tf (jA es ks c)=r at*
 generalize es.length=el at*
 generalize ks.len=kl at*
 generalize hcl:c.length=cl at*
 have ba:=heap_alloc_new w (.cells #[.slice d0 el e0, .slice d1 kl e1, .slice d2 cl e2] 32)
 have yx:=ah ba
 have gK:=ah (aj.alloc aF w (.cells #[.slice d0 el e0, .slice d1 kl e1, .slice d2 cl e2] 32))
 have rJ:=ah hcl
 clear ba hcl
 go_enter Tryz.func18,Tryz.ntmps18
 go_upto_region 1 with fail
 obtain⟨W1,hW1⟩:∃W1,W1=w.alloc (.cells #[.slice d0 el e0, .slice d1 kl e1, .slice d2 cl e2] 32):=⟨_,rfl⟩
 rw[←hW1]at yx gK⊢
 clear hW1
 go_cut [34] (fun v W=>v= .bool true∧aj aF W1 W)
 case first=>
  cases mb with
  |false=>
   obtain⟨α,hne,K,hK1,hK0,hK2⟩:=worlds W1
   have dS:=ah hK1
   have k2:∀s,(K s).cell? ⟨w.heap.size,0,none⟩=some (.slice d0 el e0):=fun s=>(hK1 s).cell' (aG yx.out 0 rfl) id
   have k3:∀s,(K s).cell? ⟨w.heap.size,1,none⟩=some (.slice d1 kl e1):=fun s=>(hK1 s).cell' (aG yx.out 1 rfl) id
   have k4:∀s,(K s).cell? ⟨w.heap.size,2,none⟩=some (.slice d2 cl e2):=fun s=>(hK1 s).cell' (aG yx.out 2 rfl) id
   have xY:=ah (fun s=>HH.out (K s) (gK.out.aH (hK1 s)))
   have qM:=ah (fun s=>HR.out (K s) (gK.out.aH (hK1 s)))
   clear hK1 HH HR yB lS vC
   cases hd with
   |false=>
    clear hmd
    refine dX K (by kernel_rfl) (by kernel_rfl) hK0 ?_
    repeat(go_big_quiet_step ((go_at_call 39;exact Calls.bT hK2 (xY.out _))))
    refine wpQuiet_nil ?_
    intro w' hw'
    obtain⟨s,rfl⟩:=hw'
    go_wp2
    go_meet
    case rel=>exact⟨rfl,dS.out s⟩
   |true=>
    cases r with
    |false=>
     clear hmd
     refine dX K (by kernel_rfl) (by kernel_rfl) hK0 ?_
     repeat(go_big_quiet_step ((first|(go_at_call 39;exact Calls.bT hK2 (xY.out _))|(go_at_call 40;exact Calls.bT hK2 (qM.out _)))))
     refine wpQuiet_nil ?_
     intro w' hw'
     obtain⟨s,rfl⟩:=hw'
     go_wp2
     go_meet
     case rel=>exact⟨rfl,dS.out s⟩
    |true=>
     have hel:0<el:=by
      rcases Nat.eq_zero_or_pos el with h|h
      ·subst h;simp at hmd
      ·exact h
     have ag0:(0:Int)<(el:Int):=by omega
     clear hmd
     refine dX K (by kernel_rfl) (by kernel_rfl) hK0 ?_
     repeat(go_big_quiet_step ((first|(go_at_call 39;exact Calls.bT hK2 (xY.out _))|(go_at_call 40;exact Calls.bT hK2 (qM.out _)))))
     refine wpQuiet_nil ?_
     intro w' hw'
     obtain⟨s,rfl⟩:=hw'
     go_wp2
     go_meet
     case rel=>exact⟨by simp[hel],dS.out s⟩
  |true=>
   have HC2:=ah (yB.out rfl)
   have HS2:=ah (lS.out rfl (vC.out.resolve_left (by decide)).2)
   clear yB lS vC
   symm at hmd
   rw[Bool.and_eq_true,Bool.and_eq_true,decide_eq_true_eq]at hmd
   obtain⟨m1,m2,m3⟩:=hmd
   subst m1 m2 m3
   have dJ:=ah (fun Y Y' (f:aj aF Y Y') (hS:aj aF W1 Y∧Y.cell? ⟨w.heap.size,0,none⟩=some (.slice d0 0 e0)∧Y.cell? ⟨w.heap.size,1,none⟩=some (.slice d1 kl e1)∧Y.cell? ⟨w.heap.size,2,none⟩=some (.slice d2 cl e2))=>
    (⟨hS.1.aH f,f.cell' hS.2.1 id,f.cell' hS.2.2.1 id,f.cell' hS.2.2.2 id⟩:aj aF W1 Y'∧Y'.cell? ⟨w.heap.size,0,none⟩=some (.slice d0 0 e0)∧Y'.cell? ⟨w.heap.size,1,none⟩=some (.slice d1 kl e1)∧Y'.cell? ⟨w.heap.size,2,none⟩=some (.slice d2 cl e2)))
   have dH:=dJ.out _ _ (aj.drew aF _) ⟨aj.refl aF W1,aG yx.out 0 rfl,aG yx.out 1 rfl,aG yx.out 2 rfl⟩
   refine iq (S:=fun Y=>aj aF W1 Y∧Y.cell? ⟨w.heap.size,0,none⟩=some (.slice d0 0 e0)∧Y.cell? ⟨w.heap.size,1,none⟩=some (.slice d1 kl e1)∧Y.cell? ⟨w.heap.size,2,none⟩=some (.slice d2 cl e2)) 25 (by kernel_rfl) dH ?_
   clear dH
   intro hS
   generalize World.drew _=Y0 at*
   refine aY 0 10 rfl rfl ?_
   refine aY 1 11 rfl rfl ?_
   try simp only[Act.put,aO,aN,aJ]
   refine bg (i:=2) (by kernel_rfl) rfl (fun K hK=>?_)
   go_simp
   refine(HH.out _ (gK.out.aH hS.1)).mono ?_
   rintro e Y1 ⟨rfl,hf1⟩
   have hS1:=dJ.out _ _ hf1 hS
   refine hK.out _ _ hS1 ?_
   clear hK K hS hf1
   have hS:=hS1
   clear hS1
   try simp only[Act.put,aO,aN,aJ]
   refine aY 3 13 rfl rfl ?_
   refine aY 4 14 rfl rfl ?_
   try simp only[Act.put,aO,aN,aJ]
   refine aY 5 15 rfl rfl ?_
   try simp only[Act.put,aO,aN,aJ]
   refine bg (i:=6) (by kernel_rfl) rfl (fun K hK=>?_)
   go_simp
   refine(HR.out _ (gK.out.aH hS.1)).mono ?_
   rintro e Y2 ⟨rfl,hf2⟩
   have hS1:=dJ.out _ _ hf2 hS
   refine hK.out _ _ hS1 ?_
   clear hK K hS hf2
   have hS:=hS1
   clear hS1
   try simp only[Act.put,aO,aN,aJ]
   refine aY 7 17 rfl rfl ?_
   refine aY 8 18 rfl rfl ?_
   try simp only[Act.put,aO,aN,aJ]
   refine aY 9 19 rfl rfl ?_
   refine aY 10 20 rfl rfl ?_
   try simp only[Act.put,aO,aN,aJ]
   refine aY 11 21 rfl rfl ?_
   refine aY 12 22 rfl rfl ?_
   try simp only[Act.put,aO,aN,aJ]
   refine aY 13 23 rfl rfl ?_
   refine aY 14 24 rfl rfl ?_
   try simp only[Act.put,aO,aN,aJ]
   refine aY 15 25 rfl rfl ?_
   refine aY 16 26 rfl rfl ?_
   try simp only[Act.put,aO,aN,aJ]
   refine aY 17 27 rfl rfl ?_
   refine aY 18 28 rfl rfl ?_
   try simp only[Act.put,aO,aN,aJ]
   refine aY 19 29 rfl rfl ?_
   refine aY 21 31 rfl rfl ?_
   try simp only[Act.put,aO,aN,aJ]
   refine bg (i:=20) (by kernel_rfl) rfl (fun K hK=>?_)
   go_simp
   refine(HC2.out _ (gK.out.aH hS.1)).mono ?_
   rintro e Y3 ⟨jV,mW,rfl,hta,ho3⟩
   obtain⟨uy,kH,-⟩:=hta.kids
   obtain⟨a5,c5,rfl⟩:=kH.rd.sl
   obtain⟨a6,c6,rfl⟩:=ho3.shape
   have Ij:=ah (⟨hta,by show Rd Y3 _ c.length (dY c);rw[rJ.out];exact ho3.rd⟩:dU _ Y3 _ _ _ [] fk c)
   have hS1:=dJ.out _ _ ho3.aI hS
   refine hK.out _ _ hS1 ?_
   clear hK K hS kH hta ho3
   have hS:=hS1
   clear hS1
   try simp only[Act.put,aO,aN,aJ]
   refine bg (i:=22) (by kernel_rfl) rfl (fun K hK=>?_)
   go_simp
   refine(HS2.out _ (gK.out.aH hS.1) _ _ _ Ij.out).mono ?_
   rintro e Y4 ⟨rfl,hf4⟩
   have hS1:=dJ.out _ _ hf4 hS
   refine hK.out _ _ hS1 ?_
   clear hK K hS hf4 Ij
   have hS:=hS1
   clear hS1
   try simp only[Act.put,aO,aN,aJ]
   refine aY 23 33 rfl rfl ?_
   try simp only[Act.put,aO,aN,aJ]
   refine bg (i:=24) (by kernel_rfl) rfl (fun K hK=>?_)
   go_simp
   refine hK.out _ _ hS ?_
   clear hK K
   refine mF (by kernel_rfl) ?_
   go_wp2
   go_meet
   case rel=>exact⟨rfl,hS.1⟩
 case rest=>
  obtain⟨rfl,hfr⟩:=hcut
  obtain⟨W5,rfl⟩:∃W5,W5=wc:=⟨_,rfl⟩
  have iV:=ah (gK.out.aH hfr)
  clear hfr
  go_wp2
  go_ret
  exact⟨rfl,iV.out⟩
end
open Go.RowKit
section
variable {L:Nat→Prop} {w:World} {b n vb:Nat} {sv:Value} {vs:List aU} {rs:List bC}
theorem ahV (h:dW L w b n vb sv vs rs) (x:Int) (QA:Nat→Prop) (es:List aQ) (ks:aT) (c:bD) (ev kv cv:Value) (ha:dU QA w ev kv cv es ks c) (hok:iD es ks c) (hm:jP n es ks c 0=false) (hp:dG x (rs.map bC.id)=-1):
 Calls Tryz.prog 15 #[.pointer (some ⟨b,0,none⟩), .int .i64 x, .agg #[ev,kv,cv]] w fun e w'=>e= .returned (.int .i64 1)∧aj aF w w':=by
 have HA:=ah (fun W (f:aj aF w W)=>hp▸Lp (h.aS f) x)
 have hn1:=h.n1
 have jZ:=ah (fun W (f:aj aF w W)=>YN (h.aS f) QA es ks c ev kv cv (ha.aS f) hok 0 hm)
 have HDR:=ah (fun W (f:aj aF w W)=>Qw x (rs.map (bC.q n)) b W sv (h.aS f).rd vH (by rw[List.length_map];have:=h.few;omega) (h.aS f).pq (by rw[Aw];exact hp))
 have QO:=ah (fun W (f:aj aF w W)=>(h.aS f).mX)
 obtain⟨a0,c0,a1,c1,a2,c2,rfl,rfl,rfl⟩:=ha.shape
 clear h ha hok hm hp
 generalize es.length=el at*
 generalize ks.len=kl at*
 generalize c.length=cl at*
 have HB0:=ah (heap_alloc_new w (.cells #[.slice a0 el c0, .slice a1 kl c1, .slice a2 cl c2] 32))
 have jD:=ah (aj.alloc aF w (.cells #[.slice a0 el c0, .slice a1 kl c1, .slice a2 cl c2] 32))
 go_enter Tryz.func15,Tryz.ntmps15
 go_upto_region 5 with(go_at_call 38;refine(HA.out _ jD.out).mono ?_;rintro e W1 ⟨rfl,hf1⟩;have HB1:=ah (hf1.blk HB0.out id);have dN:=ah (jD.out.aH hf1);clear hf1 HB0 jD)
 have y0:=QO.out _ dN.out
 have hb0:=World.block_lt_of_cell? _ _ y0
 have x0:=aG HB1.out 0 rfl
 have x1:=aG HB1.out 1 rfl
 have x2:=aG HB1.out 2 rfl
 have hb1:=lt_of_block HB1.out
 have hn0:(0:Int)<(n:Int):=by omega
 go_wp2
 go_loopw [21] (fun iv W=>iv= .int .i64 0∧W=W1) (fun _ _=>0)
 case atStart=>exact⟨rfl,rfl⟩
 case round=>
  obtain⟨rfl,rfl⟩:=hrel
  go_wp2_with(first
   |(go_at_call 16;refine(jZ.out _ dN.out).mono ?_;rintro e W2 ⟨rfl,hf2⟩;clear y0 hb0 x0 x1 x2 hb1;have HF2:=ah ((dN.out.aH hf2).alloc1 (o:= .cells #[.slice none 0 0, .slice none 0 0, .slice none 0 0] 32));clear hf2)
   |(go_at_call 23;refine(HDR.out _ HF2.out).mono ?_;rintro e W4 ⟨rfl,hf4⟩;have dR:=ah hf4;clear hf4))
  go_ret
  exact⟨rfl,HF2.out.aH dR.out⟩
end
open Go.RowKit
section
variable {Q:Nat→Prop} {w:World} {n:Nat} {vv sv:Value} {vs:List aU} {rs:List bn}
theorem ahW (h:jf Q w n vv sv vs rs) (x:Int) (b0 b1 b2:Option Addr) (n0 n1 n2 d0 d1 d2:Nat) (hp:dG x (rs.map bn.id)≠-1):
 Calls Tryz.prog 60 #[.agg #[vv,sv], .int .i64 x, .agg #[.slice b0 n0 d0, .slice b1 n1 d1, .slice b2 n2 d2]] w fun e w'=>e= .returned (.tuple #[.agg #[vv,sv], .int .i64 8])∧aj aF w w':=by
 have hp0:0≤dG x (rs.map bn.id):=by
  rcases nY x (rs.map bn.id)with⟨h1,_⟩|⟨k,_,h1,_⟩
  ·exact absurd h1 hp
  ·omega
 have HA:=ah (fun W (f:aj aF w W)=>EP (h.aS f) x)
 obtain⟨a0,c0,a1,c1,rfl,rfl⟩:=h.shape
 clear h hp
 generalize dG x (rs.map bn.id)=P at*
 generalize rs.length=m at*
 obtain⟨hf3,hz3,hb0,hb1,hb2⟩:=oD w #[.slice a0 n c0, .slice a1 m c1] #[.slice b0 n0 d0, .slice b1 n1 d1, .slice b2 n2 d2] #[.slice none 0 0, .slice none 0 0] 62 32 62
 obtain⟨W3,hW3⟩:∃W3,W3=((w.alloc (.cells #[.slice a0 n c0, .slice a1 m c1] 62)).alloc (.cells #[.slice b0 n0 d0, .slice b1 n1 d1, .slice b2 n2 d2] 32)).alloc (.cells #[.slice none 0 0, .slice none 0 0] 62):=⟨_,rfl⟩
 rw[←hW3]at hf3 hz3 hb0 hb1 hb2
 have HW3:=ah hW3
 have HF3:=ah hf3
 have HB0:=ah hb0
 have HB2:=ah hb2
 have s0:=aG hb0 0 rfl
 have s1:=aG hb0 1 rfl
 have hl0:=lt_of_block hb0
 clear hf3 hz3 hb0 hb1 hb2 hW3
 go_enter Tryz.func60,Tryz.ntmps60
 go_upto_region 1 with fail
 rw[←HW3.out]
 go_upto_region 2 with(go_at_call 82;refine(HA.out _ HF3.out).mono ?_;rintro e W5 ⟨rfl,hf5⟩;have iV:=ah (HF3.out.aH hf5);have kY:=ah (hf5.blk HB0.out id);have lU:=ah (hf5.blk HB2.out id);clear s0 s1 hl0 hf5)
 have y0:=aG kY.out 0 rfl
 have y1:=aG kY.out 1 rfl
 have x0:=aG lU.out 0 rfl
 have x1:=aG lU.out 1 rfl
 have f0:=aW lU.out 0
 have f1:=aW lU.out 1
 have hlx:=lt_of_block lU.out
 have bH:=ah (yC lU.out (.slice a0 n c0) (.slice a1 m c1))
 go_wp2
 have z0:=aG bH.out.1 0 rfl
 have z1:=aG bH.out.1 1 rfl
 refine bodyPost_ret (v:= .tuple #[.agg #[.slice a0 n c0, .slice a1 m c1], .int .i64 8]) (by simp[results,Tryz.results60,go_sem,z0,z1]) rfl ⟨rfl,iV.out.trans bH.out.2 fun y hy e=>by omega⟩
theorem ahX (h:jf Q w n vv sv vs rs) (x:Int) (QA:Nat→Prop) (es:List aQ) (ks:aT) (c:bD) (ev kv cv:Value) (ha:dU QA w ev kv cv es ks c) (hok:iD es ks c) (hm:jP n es ks c 0=false) (hp:dG x (rs.map bn.id)=-1):
 Calls Tryz.prog 60 #[.agg #[vv,sv], .int .i64 x, .agg #[ev,kv,cv]] w fun e w'=>e= .returned (.tuple #[.agg #[vv,sv], .int .i64 1])∧aj aF w w':=by
 have HA:=ah (fun W (f:aj aF w W)=>hp▸EP (h.aS f) x)
 obtain⟨a0,c0,a1,c1,rfl,rfl⟩:=h.shape
 have hn1:=h.n1
 have jZ:=ah (fun W (f:aj aF w W)=>YM QA n h.n4 a0 a1 c0 rs.length c1 W es ks c ev kv cv (ha.aS f) hok 0 hm)
 obtain⟨b0,d0,b1,d1,b2,d2,rfl,rfl,rfl⟩:=ha.shape
 clear h ha hok hm hp
 generalize rs.length=m at*
 generalize es.length=n0 at*
 generalize ks.len=n1 at*
 generalize c.length=n2 at*
 obtain⟨hf3,hz3,hb0,hb1,hb2⟩:=oD w #[.slice a0 n c0, .slice a1 m c1] #[.slice b0 n0 d0, .slice b1 n1 d1, .slice b2 n2 d2] #[.slice none 0 0, .slice none 0 0] 62 32 62
 obtain⟨W3,hW3⟩:∃W3,W3=((w.alloc (.cells #[.slice a0 n c0, .slice a1 m c1] 62)).alloc (.cells #[.slice b0 n0 d0, .slice b1 n1 d1, .slice b2 n2 d2] 32)).alloc (.cells #[.slice none 0 0, .slice none 0 0] 62):=⟨_,rfl⟩
 rw[←hW3]at hf3 hz3 hb0 hb1 hb2
 have HW3:=ah hW3
 have HF3:=ah hf3
 have HB0:=ah hb0
 have HB1:=ah hb1
 have HB2:=ah hb2
 have s0:=aG hb0 0 rfl
 have s1:=aG hb0 1 rfl
 have hl0:=lt_of_block hb0
 clear hf3 hz3 hb0 hb1 hb2 hW3
 have hn0:(0:Int)<(n:Int):=by omega
 go_enter Tryz.func60,Tryz.ntmps60
 go_upto_region 1 with fail
 rw[←HW3.out]
 go_upto_region 3 with(go_at_call 82;refine(HA.out _ HF3.out).mono ?_;rintro e W5 ⟨rfl,hf5⟩;have iV:=ah (HF3.out.aH hf5);have kY:=ah (hf5.blk HB0.out id);have SL:=ah (hf5.blk HB1.out id);have lU:=ah (hf5.blk HB2.out id);clear s0 s1 hl0 hf5)
 have s0:=aG kY.out 0 rfl
 have s1:=aG kY.out 1 rfl
 have hls:=lt_of_block kY.out
 go_upto_region 4 with fail
 have hfA:=aj.alloc aF W5 (.cells #[.slice a0 n c0, .slice a1 m c1] 62)
 have gK:=ah hfA
 have HF6:=ah (iV.out.aH hfA)
 clear s0 s1 hls
 generalize World.alloc W5 _=W6 at*
 clear hfA
 have rW:=ah (gK.out.blk kY.out id)
 have wX:=ah (gK.out.blk SL.out id)
 have I_:=ah (gK.out.blk lU.out id)
 have s0:=aG rW.out 0 rfl
 have s1:=aG rW.out 1 rfl
 have q0:=aG wX.out 0 rfl
 have q1:=aG wX.out 1 rfl
 have q2:=aG wX.out 2 rfl
 have hls:=lt_of_block rW.out
 have hlc:=lt_of_block wX.out
 go_wp2
 go_loopw [21] (fun iv W=>iv= .int .i64 0∧W=W6) (fun _ _=>0)
 case atStart=>exact⟨rfl,rfl⟩
 case round=>
  obtain⟨rfl,hw⟩:=hrel
  subst hw
  go_upto_region 8 with(go_at_call 56;refine(jZ.out _ HF6.out).mono ?_;rintro e W7 ⟨rfl,gV⟩;have ahY:=ah gV;clear s0 s1 q0 q1 q2 hls hlc gV)
  have hfB:=aj.alloc aF W7 (.cells #[.slice none 0 0, .slice none 0 0, .slice none 0 0] 32)
  have SY:=ah (ahY.out.aH hfB)
  clear hfB
  generalize World.alloc W7 _=W8 at*
  have SX:=ah (SY.out.blk rW.out id)
  have Dc:=ah (SY.out.blk I_.out id)
  have y0:=aG SX.out 0 rfl
  have y1:=aG SX.out 1 rfl
  have x0:=aG Dc.out 0 rfl
  have x1:=aG Dc.out 1 rfl
  have f0:=aW Dc.out 0
  have f1:=aW Dc.out 1
  have hlx:=lt_of_block Dc.out
  have bH:=ah (yC Dc.out (.slice a0 n c0) (.slice a1 m c1))
  go_wp2
  have z0:=aG bH.out.1 0 rfl
  have z1:=aG bH.out.1 1 rfl
  refine bodyPost_ret (v:= .tuple #[.agg #[.slice a0 n c0, .slice a1 m c1], .int .i64 1]) (by simp[results,Tryz.results60,go_sem,z0,z1]) rfl ⟨rfl,(HF6.out.aH SY.out).trans bH.out.2 fun y hy e=>by omega⟩
end
open Go.RowKit
section
variable {Q:Nat→Prop} {w:World} {n:Nat} {vv sv:Value} {vs:List aU} {rs:List bn}
def ZF (Q:Nat→Prop) (w:World) (n:Nat) (vs:List aU) (rs:List bn) (t:bY) (e:Ending) (w':World):Prop:=
 ∃II sv' ns rs',e= .returned (.tuple #[.agg #[II,sv'], .int .i64 0])∧jf Q w' n II sv' ns rs'∧ns.map aU.g=List.zipWith fK (vs.map aU.g) (jd n t)∧rs'.map bn.con=rs.map bn.con∧aj aF w w'
theorem ahZ (h:jf Q w n vv sv vs rs) (hQ:∀k,w.heap.size≤k→Q k) (x:Int) (ks:aT) (c:bD) (ev kv cv:Value) (ha:eF Q w ⟨[],ks,c,ev,kv,cv⟩) (hg:Good (ks,c)) (hp:dG x (rs.map bn.id)=-1) (hl:rs.length<4)
 (hsz:∀j,j<n→dQ (vs.getD j default).g+dM ks≤2000∧(vs.getD j default).g.2.length+c.length≤2000):
 Calls Tryz.prog 60 #[.agg #[vv,sv], .int .i64 x, .agg #[ev,kv,cv]] w (ZF Q w n vs rs (ks,c)):=by
 have hnm:x∉(rs.map bn.con).map bI.id:=by
  rw[oH]
  rcases nY x (rs.map bn.id)with⟨_,h1⟩|⟨k,_,h1,_⟩
  ·exact h1
  ·rw[hp]at h1;omega
 have hl4:(rs.map bn.con).length<4:=by rw[List.length_map];exact hl
 have ZG:=ah (fun j (hj:j<n)=>XJ (n:=n) (t:=(ks,c)) hnm hl4 hj)
 have hn1:=h.n1
 have hn4:=h.n4
 have ZH:=ah (XY hn1 x (ks,c) (rs.map bn.con))
 have jw:=ah hnm
 have HA:=ah (fun W (f:aj aF w W)=>hp▸EP (h.aS f) x)
 have HR:=ah (fun W (f:aj aF w W)=>h.aS f)
 have HQ:=ah hQ
 have uH:=ah ha
 have HG:=ah hg
 have iC:=ah hsz
 have hat:dU Q w ev kv cv [] ks c:=ha.at_
 obtain⟨a0,c0,a1,c1,rfl,rfl⟩:=h.shape
 have jZ:=ah (fun j (hj:j<n) W (f:aj aF w W)=>(show Calls Tryz.prog 56 #[.agg #[.slice a0 n c0, .slice a1 rs.length c1], .agg #[ev,kv,cv], .int .i64 (j:Int)] W (Fq W (bQ n (j:Int)) ks cv)from RJ Q n hn4 a0 a1 c0 rs.length c1 W ks c ev kv cv (hat.aS f) hg j (vO.2 ⟨⟨by omega,by omega⟩,hg.right,rfl⟩)))
 obtain⟨b0,d0,b1,d1,b2,d2,rfl,rfl,rfl⟩:=hat.shape
 have S_:=ah (show(rs.map bn.con).length=rs.length from List.length_map ..)
 clear h ha hg hp hl hsz hat hnm hl4 hQ
 unfold ZF
 unfold Fq at jZ
 obtain⟨st,hst⟩:∃st,st=rs.map bn.con:=⟨_,rfl⟩
 have HST:=ah hst
 rw[←hst]at ZG ZH jw S_⊢
 clear hst
 obtain⟨m,hm⟩:∃m,m=rs.length:=⟨_,rfl⟩
 have n_:=ah hm
 rw[←hm]at HA HR jZ S_⊢
 clear hm
 obtain⟨kl,hkl⟩:∃kl,kl=ks.len:=⟨_,rfl⟩
 rw[←hkl]at uH jZ⊢
 clear hkl
 generalize hcl:c.length=cl at*
 have rJ:=ah hcl
 clear hcl
 obtain⟨hf3,hz3,hb0,hb1,hb2⟩:=oD w #[.slice a0 n c0, .slice a1 m c1] #[.slice b0 0 d0, .slice b1 kl d1, .slice b2 cl d2] #[.slice none 0 0, .slice none 0 0] 62 32 62
 obtain⟨W3,hW3⟩:∃W3,W3=((w.alloc (.cells #[.slice a0 n c0, .slice a1 m c1] 62)).alloc (.cells #[.slice b0 0 d0, .slice b1 kl d1, .slice b2 cl d2] 32)).alloc (.cells #[.slice none 0 0, .slice none 0 0] 62):=⟨_,rfl⟩
 rw[←hW3]at hf3 hz3 hb0 hb1 hb2
 have HW3:=ah hW3
 have HF3:=ah hf3
 have HZ3:=ah hz3
 have HB0:=ah hb0
 have HB1:=ah hb1
 have HB2:=ah hb2
 have s0:=aG hb0 0 rfl
 have s1:=aG hb0 1 rfl
 have hl0:=lt_of_block hb0
 clear hf3 hz3 hb0 hb1 hb2 hW3
 go_enter Tryz.func60,Tryz.ntmps60
 go_upto_region 1 with fail
 rw[←HW3.out]
 go_upto_region 3 with(go_at_call 82;refine(HA.out _ HF3.out).mono ?_;rintro e W5 ⟨rfl,hf5⟩;have iV:=ah (HF3.out.aH hf5);have qA:=ah hf5;clear s0 s1 hl0 hf5)
 have kY:=ah (qA.out.blk HB0.out id)
 have s0:=aG kY.out 0 rfl
 have s1:=aG kY.out 1 rfl
 have hls:=lt_of_block kY.out
 go_upto_region 4 with fail
 have hfA:=aj.alloc aF W5 (.cells #[.slice a0 n c0, .slice a1 m c1] 62)
 have hb8:=heap_alloc_new W5 (.cells #[.slice a0 n c0, .slice a1 m c1] 62)
 have gK:=ah hfA
 have HF6:=ah (iV.out.aH hfA)
 obtain⟨p8,zn⟩:∃p8,p8=W5.heap.size:=⟨_,rfl⟩
 obtain⟨p9,kM⟩:∃p9,p9=w.heap.size+1+1:=⟨_,rfl⟩
 have rW:=ah (hfA.blk kY.out id)
 have wX:=ah (hfA.blk (qA.out.blk HB1.out id) id)
 have hx6:=hfA.blk (qA.out.blk HB2.out id) id
 rw[←zn]at hb8⊢
 rw[←kM]at hx6⊢
 have I_:=ah hx6
 have tJ:=ah hb8
 have xU:=ah (show w.heap.size+1<p9∧p9<p8 by have h1:=HZ3.out;have h2:=qA.out.size;omega)
 clear s0 s1 hls zn kM hx6 hb8
 generalize World.alloc W5 _=W6 at*
 clear hfA
 have s0:=aG rW.out 0 rfl
 have hls:=lt_of_block rW.out
 have hn0:(0:Int)<(n:Int):=by omega
 go_wp2
 clear s0 hls
 go_loopw [21] (fun iv W=>∃(j:Nat) (Tc:Value) (uN:List bn),j≤n∧iv= .int .i64 j∧aj (fun b=>b=p8) W6 W∧W.heap[p8]?=some (.cells #[.slice a0 n c0,Tc] 62 (0,0))∧jf (fun b=>Q b∧b≠p8∧b≠p9) W n (.slice a0 n c0) Tc vs uN∧uN.map bn.con=vK n x (ks,c) st j) (fun iv _=>n-(intOf iv).toNat)
 case atStart=>exact⟨0,_,rs,Nat.zero_le _,rfl,aj.refl _ _,tJ.out,(HR.out w (aj.refl _ _)).turn fun y hy hq=>⟨HF6.out.block y hy id,hq,by have:=xU.out;omega,by have:=xU.out;omega⟩,by rw[←HST.out];rfl⟩
 case round=>
  obtain⟨j,Tc,uN,hj,rfl,hf,hbx,iF,hcon⟩:=hrel
  obtain⟨_,_,a2,c2,IL,rfl⟩:=iF.shape
  clear IL
  have HFJ:=ah hf
  have bW:=ah hbx
  have pG:=ah iF
  have yj:=ah hcon
  have hpp:=xU.out
  have ah1:=HF6.out.size
  have h56:=gK.out.size
  have eX:=ah (HF6.out.trans hf fun y hy e=>by omega)
  have Td:=ah (hf.blk rW.out (by omega))
  have MK:=ah (hf.blk wX.out (by omega))
  have ZI:=ah (hf.blk I_.out (by omega))
  clear hf hbx iF hcon
  by_cases hlt:j<n
  ·have s0:=aG Td.out 0 rfl
   have s1:=aG Td.out 1 rfl
   have q0:=aG MK.out 0 rfl
   have q1:=aG MK.out 1 rfl
   have q2:=aG MK.out 2 rfl
   have hls:=lt_of_block Td.out
   have hlc:=lt_of_block MK.out
   have hjj:(j:Int)<(n:Int):=by omega
   have Tf:=ah (jZ.out j hlt wr eX.out)
   go_upto_region 8 with(go_at_call 56;refine Tf.out.mono ?_;rintro e W7 ⟨ev7,kv7,rfl,zH,gV⟩;obtain⟨g0,h0,rfl⟩:=zH.ents.rd.sl;obtain⟨os7,Ja,-⟩:=zH.kids;obtain⟨g1,h1,rfl⟩:=Ja.rd.sl;have Jb:=ah zH;have oJ:=ah gV;clear s0 s1 q0 q1 q2 hls hlc zH gV Ja)
   obtain⟨fk,hfk⟩:∃fk,fk=bF (bQ n (j:Int)) ks:=⟨_,rfl⟩
   have Ti:=ah (show Good (fk,c) by rw[hfk];exact Ar (bQ n (j:Int)) HG.out)
   have IW:=ah (show bF (bQ n (j:Int)) fk=fk by rw[hfk];exact Hw _ _)
   have hstp:=ZG.out j hlt
   rw[show bF (bQ n (j:Int)) (ks,c).1=fk from hfk.symm]at hstp
   have rG:=ah hstp
   rw[←hfk]at Jb⊢
   clear hfk hstp
   have tK:=heap_alloc_new W7 (.cells #[.slice g0 0 h0, .slice g1 fk.len h1, .slice b2 cl d2] 32)
   have hfB:=aj.alloc aF W7 (.cells #[.slice g0 0 h0, .slice g1 fk.len h1, .slice b2 cl d2] 32)
   have iU:=ah (oJ.out.aH hfB)
   have b_:=ah hfB
   obtain⟨pa,hpa⟩:∃pa,pa=W7.heap.size:=⟨_,rfl⟩
   have BF:=ah hpa
   rw[←hpa]at tK⊢
   clear hpa hfB
   generalize World.alloc W7 _=W8 at*
   have yx:=ah tK
   have hb8:=iU.out.blk bW.out id
   have x0:=aG hb8 0 rfl
   have x1:=aG hb8 1 rfl
   have q0:=aG tK 0 rfl
   have q1:=aG tK 1 rfl
   have q2:=aG tK 2 rfl
   have EZ:=lt_of_block hb8
   have hla:=lt_of_block tK
   have ah6:p8<wr.heap.size:=lt_of_block bW.out
   have hsg:=SK (pG.out.aS iU.out) (fun y hy=>⟨HQ.out y (by have:=eX.out.size;have:=iU.out.size;omega),by have:=iU.out.size;omega,by have:=iU.out.size;omega⟩) fk c (.slice g0 0 h0) (.slice g1 fk.len h1) (.slice b2 cl d2)
    ⟨(Jb.out.aS b_.out).turn fun y hy hq=>⟨rfl,HQ.out y (by have:=eX.out.size;omega),by omega,by omega⟩,uH.out.ctx.turn fun y hy hq=>⟨(eX.out.aH iU.out).block y hy id,hq,by omega,by omega⟩⟩ Ti.out x j hlt IW.out
   unfold MH at hsg
   rw[yj.out,rG.out]at hsg
   have IZ:=ah hsg
   clear hb8 tK hsg
   go_wp2_with(go_at_call 57;refine IZ.out.mono ?_;rintro e W9 ⟨ZJ,Bc,rfl,yE,Df,iJ⟩;obtain⟨_,_,a9,c9,Tj,rfl⟩:=yE.shape;have Tn:=ah yE;have Tq:=ah Df;have qw:=ah iJ;have fB:=(iU.out.aH iJ).blk bW.out id;have f_:=ah fB;clear x0 x1 q0 q1 q2 EZ hla yE Df iJ Tj;have x0:=aG fB 0 rfl;have x1:=aG fB 1 rfl;have f0:=aW fB 0;have f1:=aW fB 1;have zC:=lt_of_block fB;clear fB)
   go_roundw
   case rel=>
    have hse:=yC f_.out (.slice a0 n c0) (.slice a9 Bc.length c9)
    exact⟨j+1,_,Bc,by omega,by go_num,(HFJ.out.trans (iU.out.aH qw.out) fun _ _ h=>h.elim).trans hse.2 fun _ _ h=>h,hse.1,Tn.out.turn fun y hy hq=>⟨hse.2.block y hy hq.2.1,hq⟩,Tq.out⟩
   case measure=>simp[intOf];omega
  ·obtain rfl:n=j:=by omega
   have FH:=yj.out
   rw[ZH.out]at FH
   have MG:uN.map bn.id=st.map bI.id++ [x]:=by rw[←oH,FH,List.map_append];rfl
   have Dh:st.length=m:=S_.out
   have hlen:uN.length=m+1:=by have h:=congrArg List.length FH;rw[List.length_map,List.length_append,Dh]at h;simpa using h
   have hmr:m<uN.length:=by omega
   have hpos:dG x (uN.map bn.id)=(m:Int):=by
    rw[MG]
    have h:=QK jw.out
    rw[List.length_map,Dh]at h
    exact h
   have hat:(uN.getD m default).con=⟨x,jd n (ks,c),List.replicate n true⟩:=by
    rw[←EO hmr,FH,getD_at _ (by rw[List.length_append,Dh];simp),List.getElem_append_right (by rw[Dh];exact Nat.le_refl _)]
    simp[Dh]
   have hpart:(uN.getD m default).part.map aU.g=jd n (ks,c):=congrArg bI.part hat
   have ZK:mZ x (uN.map bn.con)=n:=by
    unfold mZ
    rw[oH,hpos,if_neg (by omega),show((m:Int)).toNat=m by omega,EO hmr,hat]
    exact X_ n
   have hpl:(uN.getD m default).part.length=n:=by have h:=congrArg List.length hpart;rw[List.length_map,Qp]at h;exact h
   have AO:=Zo pG.out (fun y hy=>⟨HQ.out y (by have:=eX.out.size;omega),by have:=lt_of_block bW.out;omega,by have:=lt_of_block ZI.out;omega⟩) x m hmr hpos ZK fun y hy=>by
    have h1:=iC.out y hy
    have h2:((uN.getD m default).part.getD y default).g=(bF (bQ n (y:Int)) ks,c):=by
     rw[←vI (by rw[hpl];exact hy),hpart]
     exact KZ (ks,c) hy
    rw[h2]
    have h3:=Aq (bQ n (y:Int)) ks
    exact⟨Nat.le_trans (Nat.add_le_add_left h3 _) h1.1,by show _+c.length≤2000;rw[rJ.out];exact h1.2⟩
   unfold Sz at AO
   rw[hpart]at AO
   have QT:=ah AO
   have ah7:=ah (show lT x (uN.map bn.con)=st by
    unfold lT
    rw[oH,hpos,if_neg (by omega),show((m:Int)).toNat=m by omega,FH,←Dh]
    exact XZ _ _)
   have x0:=aG bW.out 0 rfl
   have x1:=aG bW.out 1 rfl
   have hlx:=lt_of_block bW.out
   clear FH MG hlen hpos hat hpart ZK hpl AO Dh hmr
   go_wp2_with(go_at_call 58;refine QT.out.mono ?_;rintro e W9 ⟨vv9,ZJ,ns9,Bc,rfl,yE,ZL,Df,iJ⟩;obtain⟨g0,h0,g1,h1,rfl,rfl⟩:=yE.shape;have Tn:=ah yE;have ah9:=ah ZL;have Tq:=ah Df;have qw:=ah iJ;have fB:=iJ.blk ZI.out id;have f_:=ah fB;clear x0 x1 hlx yE ZL Df iJ;have x0:=aG fB 0 rfl;have x1:=aG fB 1 rfl;have f0:=aW fB 0;have f1:=aW fB 1;have zC:=lt_of_block fB;clear fB)
   have hse:=yC f_.out (.slice g0 n h0) (.slice g1 Bc.length h1)
   have z0:=aG hse.1 0 rfl
   have z1:=aG hse.1 1 rfl
   refine bodyPost_ret (v:= .tuple #[.agg #[.slice g0 n h0, .slice g1 Bc.length h1], .int .i64 0]) (by simp[results,Tryz.results60,go_sem,z0,z1]) rfl ⟨_,_,ns9,Bc,rfl,Tn.out.turn fun y hy hq=>⟨hse.2.block y hy hq.2.2,hq.1⟩,ah9.out,Tq.out.trans ah7.out,(eX.out.aH qw.out).trans hse.2 fun y hy e=>by omega⟩
end
open Go.RowKit
section
variable {Q:Nat→Prop} {w:World} {n:Nat} {vv sv:Value} {vs:List aU} {rs:List bn}
theorem ah_ (h:jf Q w n vv sv vs rs) (hQ:∀k,w.heap.size≤k→Q k) (x:Int) (ks:aT) (c:bD) (ev kv cv:Value) (ha:eF Q w ⟨[],ks,c,ev,kv,cv⟩) (hg:Good (ks,c)) (hp:dG x (rs.map bn.id)=-1) (hl:4≤rs.length):
 Calls Tryz.prog 60 #[.agg #[vv,sv], .int .i64 x, .agg #[ev,kv,cv]] w fun e w'=>e= .returned (.tuple #[.agg #[vv,sv], .int .i64 4])∧aj aF w w':=by
 have hn1:=h.n1
 have hn4:=h.n4
 have HA:=ah (fun W (f:aj aF w W)=>hp▸EP (h.aS f) x)
 have HR:=ah (fun W (f:aj aF w W)=>h.aS f)
 have HQ:=ah hQ
 have uH:=ah ha
 have HG:=ah hg
 have hat:dU Q w ev kv cv [] ks c:=ha.at_
 obtain⟨a0,c0,a1,c1,rfl,rfl⟩:=h.shape
 have jZ:=ah (fun j (hj:j<n) W (f:aj aF w W)=>(show Calls Tryz.prog 56 #[.agg #[.slice a0 n c0, .slice a1 rs.length c1], .agg #[ev,kv,cv], .int .i64 (j:Int)] W (Fq W (bQ n (j:Int)) ks cv)from RJ Q n hn4 a0 a1 c0 rs.length c1 W ks c ev kv cv (hat.aS f) hg j (vO.2 ⟨⟨by omega,by omega⟩,hg.right,rfl⟩)))
 obtain⟨b0,d0,b1,d1,b2,d2,rfl,rfl,rfl⟩:=hat.shape
 have ZM:∀t,mD n x 0 t (rs.map bn.con)=(4,rs.map bn.con):=fun t=>by
  unfold mD
  rw[oH,if_pos hp,List.length_map,if_pos hl]
 have HS4:=ah ZM
 clear h ha hg hp hl hat hQ ZM
 unfold Fq at jZ
 obtain⟨m,hm⟩:∃m,m=rs.length:=⟨_,rfl⟩
 have n_:=ah hm
 rw[←hm]at HA HR jZ⊢
 clear hm
 obtain⟨kl,hkl⟩:∃kl,kl=ks.len:=⟨_,rfl⟩
 rw[←hkl]at uH jZ⊢
 clear hkl
 generalize hcl:c.length=cl at*
 have rJ:=ah hcl
 clear hcl
 obtain⟨hf3,hz3,hb0,hb1,hb2⟩:=oD w #[.slice a0 n c0, .slice a1 m c1] #[.slice b0 0 d0, .slice b1 kl d1, .slice b2 cl d2] #[.slice none 0 0, .slice none 0 0] 62 32 62
 obtain⟨W3,hW3⟩:∃W3,W3=((w.alloc (.cells #[.slice a0 n c0, .slice a1 m c1] 62)).alloc (.cells #[.slice b0 0 d0, .slice b1 kl d1, .slice b2 cl d2] 32)).alloc (.cells #[.slice none 0 0, .slice none 0 0] 62):=⟨_,rfl⟩
 rw[←hW3]at hf3 hz3 hb0 hb1 hb2
 have HW3:=ah hW3
 have HF3:=ah hf3
 have HZ3:=ah hz3
 have HB0:=ah hb0
 have HB1:=ah hb1
 have HB2:=ah hb2
 have s0:=aG hb0 0 rfl
 have s1:=aG hb0 1 rfl
 have hl0:=lt_of_block hb0
 clear hf3 hz3 hb0 hb1 hb2 hW3
 go_enter Tryz.func60,Tryz.ntmps60
 go_upto_region 1 with fail
 rw[←HW3.out]
 go_upto_region 3 with(go_at_call 82;refine(HA.out _ HF3.out).mono ?_;rintro e W5 ⟨rfl,hf5⟩;have iV:=ah (HF3.out.aH hf5);have qA:=ah hf5;clear s0 s1 hl0 hf5)
 have kY:=ah (qA.out.blk HB0.out id)
 have s0:=aG kY.out 0 rfl
 have s1:=aG kY.out 1 rfl
 have hls:=lt_of_block kY.out
 go_upto_region 4 with fail
 have hfA:=aj.alloc aF W5 (.cells #[.slice a0 n c0, .slice a1 m c1] 62)
 have hb8:=heap_alloc_new W5 (.cells #[.slice a0 n c0, .slice a1 m c1] 62)
 have gK:=ah hfA
 have HF6:=ah (iV.out.aH hfA)
 obtain⟨p8,zn⟩:∃p8,p8=W5.heap.size:=⟨_,rfl⟩
 obtain⟨p9,kM⟩:∃p9,p9=w.heap.size+1+1:=⟨_,rfl⟩
 have rW:=ah (hfA.blk kY.out id)
 have wX:=ah (hfA.blk (qA.out.blk HB1.out id) id)
 have hx6:=hfA.blk (qA.out.blk HB2.out id) id
 rw[←zn]at hb8⊢
 rw[←kM]at hx6⊢
 have I_:=ah hx6
 have tJ:=ah hb8
 have xU:=ah (show w.heap.size+1<p9∧p9<p8 by have h1:=HZ3.out;have h2:=qA.out.size;omega)
 clear s0 s1 hls zn kM hx6 hb8
 generalize World.alloc W5 _=W6 at*
 clear hfA
 have s0:=aG rW.out 0 rfl
 have hls:=lt_of_block rW.out
 have hn0:(0:Int)<(n:Int):=by omega
 go_wp2
 clear s0 hls
 go_loopw [21] (fun iv W=>iv= .int .i64 0∧W=W6) (fun _ _=>0)
 case atStart=>exact⟨rfl,rfl⟩
 case round=>
  obtain⟨rfl,hw⟩:=hrel
  subst hw
  have hpp:=xU.out
  have ah1:=HF6.out.size
  have h56:=gK.out.size
  have s0:=aG rW.out 0 rfl
  have s1:=aG rW.out 1 rfl
  have q0:=aG wX.out 0 rfl
  have q1:=aG wX.out 1 rfl
  have q2:=aG wX.out 2 rfl
  have hls:=lt_of_block rW.out
  have hlc:=lt_of_block wX.out
  have hjj:(0:Int)<(n:Int):=by omega
  have Tt:=jZ.out 0 hn1 wr HF6.out
  rw[show(((0:Nat):Int))=0 from rfl]at Tt
  have Tf:=ah Tt
  clear Tt
  go_upto_region 8 with(go_at_call 56;refine Tf.out.mono ?_;rintro e W7 ⟨ev7,kv7,rfl,zH,gV⟩;obtain⟨g0,h0,rfl⟩:=zH.ents.rd.sl;obtain⟨os7,Ja,-⟩:=zH.kids;obtain⟨g1,h1,rfl⟩:=Ja.rd.sl;have Jb:=ah zH;have oJ:=ah gV;clear s0 s1 q0 q1 q2 hls hlc zH gV Ja)
  obtain⟨fk,hfk⟩:∃fk,fk=bF (bQ n (0:Int)) ks:=⟨_,rfl⟩
  have Ti:=ah (show Good (fk,c) by rw[hfk];exact Ar (bQ n (0:Int)) HG.out)
  have IW:=ah (show bF (bQ n (0:Int)) fk=fk by rw[hfk];exact Hw _ _)
  rw[←hfk]at Jb⊢
  clear hfk
  have tK:=heap_alloc_new W7 (.cells #[.slice g0 0 h0, .slice g1 fk.len h1, .slice b2 cl d2] 32)
  have hfB:=aj.alloc aF W7 (.cells #[.slice g0 0 h0, .slice g1 fk.len h1, .slice b2 cl d2] 32)
  have iU:=ah (oJ.out.aH hfB)
  have b_:=ah hfB
  obtain⟨pa,hpa⟩:∃pa,pa=W7.heap.size:=⟨_,rfl⟩
  rw[←hpa]at tK⊢
  clear hpa hfB
  generalize World.alloc W7 _=W8 at*
  have hb8:=iU.out.blk tJ.out id
  have x0:=aG hb8 0 rfl
  have x1:=aG hb8 1 rfl
  have q0:=aG tK 0 rfl
  have q1:=aG tK 1 rfl
  have q2:=aG tK 2 rfl
  have EZ:=lt_of_block hb8
  have hla:=lt_of_block tK
  have ah6:p8<wr.heap.size:=lt_of_block tJ.out
  have hsg:=SK (HR.out W8 (HF6.out.aH iU.out)) (fun y hy=>HQ.out y (by have:=iU.out.size;omega)) fk c (.slice g0 0 h0) (.slice g1 fk.len h1) (.slice b2 cl d2)
   ⟨(Jb.out.aS b_.out).turn fun y hy hq=>⟨rfl,HQ.out y (by omega)⟩,uH.out.ctx.turn fun y hy hq=>⟨(HF6.out.aH iU.out).block y hy id,hq⟩⟩ Ti.out x 0 hn1 IW.out
  unfold MH at hsg
  rw[HS4.out]at hsg
  rw[show(((0:Nat):Int))=0 from rfl]at hsg
  have IZ:=ah hsg
  clear hb8 tK hsg
  go_upto_region 12 with(go_at_call 57;refine IZ.out.mono ?_;rintro e W9 ⟨ZJ,Bc,rfl,yE,Df,iJ⟩;obtain⟨_,_,a9,c9,Tj,rfl⟩:=yE.shape;have qw:=ah iJ;have fB:=(iU.out.aH iJ).blk tJ.out id;have f_:=ah fB;clear x0 x1 q0 q1 q2 EZ hla yE Df iJ Tj;have x0:=aG fB 0 rfl;have x1:=aG fB 1 rfl;have f0:=aW fB 0;have f1:=aW fB 1;have zC:=lt_of_block fB;clear fB)
  have hse:=yC f_.out (.slice a0 n c0) (.slice a9 Bc.length c9)
  have Tv:=ah hse.2
  generalize World.setCell (World.setCell W9 _ _) _ _=W10 at*
  clear x0 x1 f0 f1 zC
  have hs10:=Tv.out.blk ((iU.out.aH qw.out).blk rW.out id) (by omega)
  have Di:=Tv.out.blk ((iU.out.aH qw.out).blk I_.out id) (by omega)
  have y0:=aG hs10 0 rfl
  have y1:=aG hs10 1 rfl
  have x0:=aG Di 0 rfl
  have x1:=aG Di 1 rfl
  have f0:=aW Di 0
  have f1:=aW Di 1
  have hlx:=lt_of_block Di
  have hls:=lt_of_block hs10
  have bH:=ah (yC Di (.slice a0 n c0) (.slice a1 m c1))
  clear hs10 Di hse
  go_wp2
  have z0:=aG bH.out.1 0 rfl
  have z1:=aG bH.out.1 1 rfl
  refine bodyPost_ret (v:= .tuple #[.agg #[.slice a0 n c0, .slice a1 m c1], .int .i64 4]) (by simp[results,Tryz.results60,go_sem,z0,z1]) rfl ⟨rfl,(((HF6.out.aH iU.out).aH qw.out).trans Tv.out fun y hy e=>by omega).trans bH.out.2 fun y hy e=>by omega⟩
end
end Go.Proofs.YtlhmbkjdfjoilaaGreat
