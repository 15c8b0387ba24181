/- Words for the law ShardPlays: Sh18, R8Same, R9Same, Sh19, R8d. -/
import Derived.Test.YtlhmbkjdfjoilaaGreatShardPlaysG0
import Derived.Test.YtlhmbkjdfjoilaaGreatShardPlaysG6
import Derived.Test.YtlhmbkjdfjoilaaGreatShardPlaysG11
import Derived.Test.YtlhmbkjdfjoilaaGreatShardPlaysG13
import Derived.Test.YtlhmbkjdfjoilaaGreatShardPlaysG20
import Derived.Test.YtlhmbkjdfjoilaaGreatShardPlaysG22
set_option linter.unusedSimpArgs false
set_option linter.unusedVariables false
set_option maxHeartbeats 32000000
set_option maxRecDepth 1000000
namespace Go.Proofs.YtlhmbkjdfjoilaaGreat
open Go.RowKit
def afK:ByteArray:= {data:= #[102]}
def Yb:aQ:=⟨1,1, {data:= #[]},0⟩
def CS:aT:= .cons afK [Yb] .nil .nil
def yt:bD:=[(1,1,1)]
def oneG:bY:=(CS,yt)
theorem afL (w:World) (o0 o1 o2 o3 o4:Obj):
 (((((w.alloc o0).alloc o1).alloc o2).alloc o3).alloc o4).heap[w.heap.size]?=some o0∧(((((w.alloc o0).alloc o1).alloc o2).alloc o3).alloc o4).heap[w.heap.size+1+1]?=some o2∧
 (((((w.alloc o0).alloc o1).alloc o2).alloc o3).alloc o4).heap[w.heap.size+1+1+1]?=some o3∧(((((w.alloc o0).alloc o1).alloc o2).alloc o3).alloc o4).heap[w.heap.size+1+1+1+1]?=some o4∧aj aF w (((((w.alloc o0).alloc o1).alloc o2).alloc o3).alloc o4):=by
 have s1:(w.alloc o0).heap.size=w.heap.size+1:=by simp
 have s2:((w.alloc o0).alloc o1).heap.size=w.heap.size+1+1:=by simp
 have s3:(((w.alloc o0).alloc o1).alloc o2).heap.size=w.heap.size+1+1+1:=by simp
 have s4:((((w.alloc o0).alloc o1).alloc o2).alloc o3).heap.size=w.heap.size+1+1+1+1:=by simp
 have a0:=heap_alloc_new w o0
 have a2:=heap_alloc_new ((w.alloc o0).alloc o1) o2
 have a3:=heap_alloc_new (((w.alloc o0).alloc o1).alloc o2) o3
 have a4:=heap_alloc_new ((((w.alloc o0).alloc o1).alloc o2).alloc o3) o4
 rw[s2]at a2
 rw[s3]at a3
 rw[s4]at a4
 have f4:=aj.alloc aF ((((w.alloc o0).alloc o1).alloc o2).alloc o3) o4
 have f3:=(aj.alloc aF (((w.alloc o0).alloc o1).alloc o2) o3).aH f4
 have f2:=(aj.alloc aF ((w.alloc o0).alloc o1) o2).aH f3
 have f1:=(aj.alloc aF (w.alloc o0) o1).aH f2
 exact⟨f1.blk a0 id,f3.blk a2 id,f4.blk a3 id,a4,(aj.alloc aF w o0).aH f1⟩
theorem one_any (w:World):Calls Tryz.prog 27 #[] w fun e w'=>∃kv cv,e= .returned (.agg #[.slice none 0 0,kv,cv])∧eF (fun b=>w.heap.size≤b) w' ⟨[],CS,yt, .slice none 0 0,kv,cv⟩∧aj aF w w':=by
 go_enter Tryz.func27,Tryz.ntmps27
 go_wp2
 obtain⟨b0,b2,b3,b4,hf⟩:=afL w (.cells #[.slice none 0 0, .slice (some ⟨w.heap.size+1+1+1,0,none⟩) 1 1, .slice (some ⟨w.heap.size+1+1+1+1,0,none⟩) 1 1] 32) (.cells #[.int .i64 1, .int .i64 1, .string {data:= #[]}, .int .i64 0] 100) (.cells #[.int .i64 1, .int .i64 1, .string {data:= #[]}, .int .i64 0] 100) (.cells #[.string {data:= #[102]}, .slice (some ⟨w.heap.size+1+1,0,none⟩) 1 1, .slice none 0 0] 52) (.cells #[.int .i64 1, .int .i64 1, .int .i64 1] 92)
 have z0:=aG b0 0 rfl
 have z1:=aG b0 1 rfl
 have z2:=aG b0 2 rfl
 refine bodyPost_ret (v:= .agg #[.slice none 0 0, .slice (some ⟨w.heap.size+1+1+1,0,none⟩) 1 1, .slice (some ⟨w.heap.size+1+1+1+1,0,none⟩) 1 1]) (by simp[results,Tryz.results27,go_sem,z0,z1,z2]) rfl ⟨_,_,rfl,⟨⟨⟨.inl ⟨none,rfl,rfl,rfl⟩,fun h=>absurd rfl h⟩,[(.slice (some ⟨w.heap.size+1+1,0,none⟩) 1 1, .slice none 0 0)],⟨?_,fun _ k hk=>?_⟩,_,_,[],[],rfl,⟨?_,fun _ k hk=>?_⟩,⟨.inl ⟨none,rfl,rfl,rfl⟩,fun h=>absurd rfl h⟩,rfl,rfl⟩,?_,fun _ k hk=>?_⟩,hf⟩
 ·exact Rd.Au (xs:=[.string {data:= #[102]}, .slice (some ⟨w.heap.size+1+1,0,none⟩) 1 1, .slice none 0 0]) b3 (by decide)
 ·simp[Value.ownBlock]at hk;omega
 ·exact Rd.Au (xs:=[.int .i64 1, .int .i64 1, .string {data:= #[]}, .int .i64 0]) b2 (by decide)
 ·simp[Value.ownBlock]at hk;omega
 ·exact Rd.Au (xs:=[.int .i64 1, .int .i64 1, .int .i64 1]) b4 (by decide)
 ·simp[Value.ownBlock]at hk;omega
theorem Lr:Good oneG:=by
 have ht:bM 5 [] CS=true:=by decide
 have hc:eP yt:=⟨⟨by decide,by decide,trivial⟩,fun d h0 h4=>by
  by_cases h:d=1
  ·subst h;exact⟨⟨by decide,by decide,trivial⟩,fun r hr=>by simp[dA,yt]at hr;subst hr;decide⟩
  ·have:dA yt d=[]:=by simp[dA,yt];omega
   rw[this];exact⟨trivial,fun r hr=>by cases hr⟩⟩
 refine⟨⟨KN ht (by decide),by decide,VX hc,by decide⟩,ht,hc,fun r hr=>?_⟩
 have hr:r=(1,1):=by simpa[iY,pR,kQ,oneG,CS,Yb]using hr
 subst hr
 exact⟨(1,1),by simp[dA,oneG,yt],by decide,by decide⟩
section
variable {L:Nat→Prop} {w:World} {b n vb:Nat} {sv:Value} {vs:List aU} {rs:List bC}
theorem Yc (hl:vs.length=n) {t:bY} (hv:vs.map aU.g=jd n t) {j:Nat} (hj:j<n):(vs.getD j default).g=(bF (bQ n j) t.1,t.2):=by
 rw[←vI (by omega),hv]
 exact KZ t hj
theorem afM (h:dW L w b n vb sv vs rs) (t:bY) (ht:jL t.1.keys) (hv:vs.map aU.g=jd n t):
 Calls Tryz.prog 20 #[.pointer (some ⟨b,0,none⟩)] w fun e w'=>∃kv cv,e= .returned (.agg #[.slice none 0 0,kv,cv])∧eF (fun b=>w.heap.size≤b) w' ⟨[],t.1,t.2, .slice none 0 0,kv,cv⟩∧aj aF w w':=by
 refine(Xu h).mono fun e w' hp=>?_
 obtain⟨kv,cv,ks',rfl,hta,ho,hpm,hso⟩:=hp
 rw[hv]at hpm
 obtain rfl:ks'=t.1:=Xe ht (hpm.trans (Xc t h.n1 h.n4)) hso
 have hc:(vs.getD 0 default).c=t.2:=congrArg Prod.snd (Yc h.vis.len hv h.n1)
 rw[hc]at ho
 exact⟨kv,cv,rfl,⟨hta,ho.rd,fun _ k hk=>ho.new k hk⟩,ho.aI⟩
theorem afN (h:dW L w b n vb sv vs rs) (x:Int) (a:bY) (hga:Good a) (hv:vs.map aU.g=jd n a) (ks:aT) (c:bD) (ev kv cv:Value) (ha:eF (fun k=>¬L k) w ⟨[],ks,c,ev,kv,cv⟩) (hg:Good (ks,c)) (hp:dG x (rs.map bC.id)=-1) (hl:rs.length<4)
 (hs:dQ a+dM ks≤2000) (hc:a.2.length+c.length≤2000):
 Calls Tryz.prog 15 #[.pointer (some ⟨b,0,none⟩), .int .i64 x, .agg #[ev,kv,cv]] w fun e w'=>e= .returned (.int .i64 0)∧∃L' qR sv' ns rs',Turned L w L' w'∧dW L' w' b n qR sv' ns rs'∧rs'.map bC.con=rs.map bC.con∧ns.map aU.g=jd n (fK a (ks,c)):=by
 refine(Ya h x ks c ev kv cv ha hg hp hl fun j hj=>?_).mono fun e w' ⟨he,L',qR,sv',ns,rs',h1,h2,h3,h4⟩=>⟨he,L',qR,sv',ns,rs',h1,h2,h3,by rw[h4,hv];exact aeD hga hg⟩
 rw[Yc h.vis.len hv hj]
 have:=Aq (bQ n j) a.1
 exact⟨Nat.le_trans (Nat.add_le_add_right this _) hs,hc⟩
end
def newL (w:World) (k:Nat):Prop:=k=w.heap.size+1
theorem Yd (n:Nat) (h1:1≤n) (h4:n≤4) (w:World):Calls Tryz.prog 14 #[.int .i64 n] w fun e w'=>e= .returned (.tuple #[.pointer (some ⟨w.heap.size+1,0,none⟩), .int .i64 0])∧
 dW (newL w) w' (w.heap.size+1) n w.heap.size (.slice none 0 0) (jm n) []∧(jm n).map aU.g=jd n dD∧aj aF w w':=by
 refine(aes n h1 h4 w).mono fun e w' ⟨he,hw⟩=>?_
 have b1:w'.heap[w.heap.size+1]?=some (.cells #[.slice (some ⟨w.heap.size,0,none⟩) n n, .slice none 0 0] 81 (0,0)):=by rw[hw];exact(lY w _ _ _).1
 have b0:w'.heap[w.heap.size]?=some (.cells ((jm n).flatMap aU.cells).toArray 32 (0,0)):=by rw[hw];exact(aj.alloc aF _ _).blk (heap_alloc_new w _) id
 have hf:aj aF w w':=by rw[hw];exact(lY w _ _ _).2.1
 refine⟨he,⟨h1,h4,fun k hk=>?_,b1,rfl,La b0,fun e=>by have e:w.heap.size=w.heap.size+1:=e;omega,World.ownsRow_nil w' 0 _ _,fun k hk=>(by simp[Value.ownBlock]at hk),fun r hr=>(by cases hr),List.nodup_nil,List.nodup_nil,List.nodup_nil,Nat.zero_le _⟩,?_,hf⟩
 ·have hk:k=w.heap.size+1:=hk
  subst hk
  exact lt_of_block b1
 ·rw[Xa]
  unfold jm
  rw[List.map_replicate]
  rfl
open Go.RowKit
theorem afO (Q Q':Nat→Prop):∀(N:Nat) (es:List aQ) (ks:aT) (es':List aQ) (ks':aT) (w:World) (ev kv ev' kv':Value),dM ks<N→bZ Q w ev kv es ks→bZ Q' w ev' kv' es' ks'→sizeT es ks≤100000→sizeT es' ks'≤100000→
 Calls Tryz.prog 25 #[.agg #[ev,kv], .agg #[ev',kv']] w fun e w'=>e= .returned (.bool (tf (es=es'∧ks=ks')))∧aj aF w w':=by
 intro N
 induction N with
 |zero=>intros;exfalso;omega
 |succ N jH=>
  intro es ks es' ks' w ev kv ev' kv' hN ht ht' hsz hsz'
  obtain⟨ae,ce,rfl⟩:=ht.ents.rd.sl
  obtain⟨os,hkr,gY⟩:=ht.kids
  obtain⟨ak,ck,rfl⟩:=hkr.rd.sl
  obtain⟨gZ,g_,rfl⟩:=ht'.ents.rd.sl
  obtain⟨os',ji,nC⟩:=ht'.kids
  obtain⟨h_,ig,rfl⟩:=ji.rd.sl
  have h1:es.length≤100000:=by unfold sizeT at hsz;omega
  have h2:es'.length≤100000:=by unfold sizeT at hsz';omega
  have h3:ks.len≤100000:=by have:=oQ ks;unfold sizeT at hsz;omega
  have h4:ks'.len≤100000:=by have:=oQ ks';unfold sizeT at hsz';omega
  by_cases hle:es.length=es'.length
  rotate_left 1
  ·rw[eH fun h=>hle (by rw[h.1])]
   clear ht ht' hkr ji gY nC jH hN hsz hsz'
   generalize es.length=n at*
   generalize ks.len=m at*
   generalize es'.length=n' at*
   generalize ks'.len=m' at*
   have hz:((n:Int)==(n':Int))=false:=by simp;omega
   have b_:=ah ((aj.alloc aF w (.cells #[.slice ae n ce, .slice ak m ck] 28)).alloc1 (o:= .cells #[.slice gZ n' g_, .slice h_ m' ig] 28))
   go_enter Tryz.func25,Tryz.ntmps25
   go_wp2
   go_ret
   exact⟨rfl,b_.out⟩
  by_cases hlk:ks.len=ks'.len
  rotate_left 1
  ·rw[eH fun h=>hlk (by rw[h.2])]
   rw[←hle]
   clear ht ht' hkr ji gY nC jH hN hsz hsz' h2 hle
   generalize es.length=n at*
   generalize ks.len=m at*
   generalize ks'.len=m' at*
   have hz:((m:Int)==(m':Int))=false:=by simp;omega
   have b_:=ah ((aj.alloc aF w (.cells #[.slice ae n ce, .slice ak m ck] 28)).alloc1 (o:= .cells #[.slice gZ n g_, .slice h_ m' ig] 28))
   go_enter Tryz.func25,Tryz.ntmps25
   go_wp2
   go_ret
   exact⟨rfl,b_.out⟩
  have HE:=ah ht.ents.rd
  have hE':=ht'.ents.rd
  have hK':=ji.rd
  rw[←hle]at hE'⊢
  rw[←hlk]at hK'⊢
  have Ye:=ah hE';clear hE'
  have iT:=ah hkr.rd
  have Cc:=ah hK';clear hK'
  have nR:=ah gY;clear gY
  have KD:=ah nC;clear nC
  have EK:=ah hle.symm;clear hle
  have nT:=ah hlk.symm;clear hlk
  have IH:=ah jH;clear jH
  have iC:=ah hsz;clear hsz
  have afP:=ah hsz';clear hsz'
  have uh:=ah hN;clear hN
  clear ht ht' hkr ji h2 h4
  generalize hes:es.length=n at*
  have HN:=ah hes;clear hes
  generalize hkl:ks.len=m at*
  have HM:=ah hkl;clear hkl
  have b_:=ah ((aj.alloc aF w (.cells #[.slice ae n ce, .slice ak m ck] 28)).alloc1 (o:= .cells #[.slice gZ n g_, .slice h_ m ig] 28))
  have bW:=ah (Px w (.slice ae n ce) (.slice ak m ck) (.slice gZ n g_) (.slice h_ m ig) 28)
  go_enter Tryz.func25,Tryz.ntmps25
  go_wp2
  go_loopw [26] (fun i ww=>∃k:Nat,k≤n∧i= .int .i64 k∧wz es es' k∧aj aF ((w.alloc (.cells #[.slice ae n ce, .slice ak m ck] 28)).alloc (.cells #[.slice gZ n g_, .slice h_ m ig] 28)) ww) (fun i _=>n-(intOf i).toNat)
  case atStart=>exact⟨0,Nat.zero_le _,rfl,(fun j hj=>absurd hj (Nat.not_lt_zero _)),aj.refl _ _⟩
  case round=>
   obtain⟨k,hk,rfl,hlk,hw⟩:=hrel
   have Ip:=ah hlk;clear hlk
   have HW:=ah hw;clear hw
   obtain⟨b0,b1,b2,b3⟩:=bW.out wr HW.out
   by_cases hlt:k<n
   ·rcases Rd.shape HE.out with⟨ad,he,h0⟩|⟨e1,off1,GZ,he,hmax⟩
    ·exfalso;omega
    rcases Rd.shape Ye.out with⟨ad,he2,h0⟩|⟨e2,off2,lg,he2,zY⟩
    ·exfalso;omega
    injection he with g1 g2 g3
    injection he2 with g4 g5 g6
    subst g1 g3 g4 g6
    clear g2 g5
    obtain⟨p0,p1,p2,p3⟩:=ug HE.out k (by rw[HN.out];exact hlt)
    obtain⟨q0,q1,q2,q3⟩:=ug Ye.out k (by rw[EK.out];exact hlt)
    have hfw:=b_.out.aH HW.out
    have p0:=hfw.cell' p0 id
    have p1:=hfw.cell' p1 id
    have p2:=hfw.cell' p2 id
    have p3:=hfw.cell' p3 id
    have q0:=hfw.cell' q0 id
    have q1:=hfw.cell' q1 id
    have q2:=hfw.cell' q2 id
    have q3:=hfw.cell' q3 id
    clear hfw
    have HST:=ah (show es.getD k aQ.zero=es'.getD k aQ.zero→wz es es' (k+1)from Ip.out.step)
    have lQ:=ah (show es.getD k aQ.zero≠es'.getD k aQ.zero→¬(es=es'∧ks=ks')from fun h e=>h (by rw[e.1]))
    generalize es.getD k aQ.zero=s at*
    generalize es'.getD k aQ.zero=t at*
    by_cases hst:s=t
    ·subst hst
     go_wp2_with fail
     go_quiet (fail)
     go_wp2
     go_roundw
     case rel=>exact⟨k+1,by omega,by go_num,HST.out (by trivial),HW.out.iy⟩
     case measure=>simp[intOf];omega
    ·have iE:=ah (show false=tf (es=es'∧ks=ks')from(eH (lQ.out hst)).symm)
     obtain⟨s0,s1,s2,s3⟩:=s
     obtain⟨t0,t1,t2,t3⟩:=t
     clear HST lQ
     dsimp only at p0 p1 p2 p3 q0 q1 q2 q3
     by_cases g0:s0=t0
     ·subst g0
      by_cases g1:s1=t1
      ·subst g1
       by_cases g2:s2=t2
       ·subst g2
        have g3:s3≠t3:=fun h=>hst (by rw[h])
        clear hst
        have gb:((s3:Int)==t3)=false:=by simpa using g3
        go_wp2_with fail
        go_quiet (fail)
        go_wp2
        go_ret
        exact⟨dF iE.out,b_.out.aH HW.out.iy⟩
       ·clear hst
        have gb:=Cb g2
        go_wp2_with fail
        go_quiet (fail)
        go_wp2
        go_ret
        exact⟨dF iE.out,b_.out.aH HW.out.iy⟩
      ·clear hst
       have gb:((s1:Int)==t1)=false:=by simpa using g1
       go_wp2_with fail
       go_quiet (fail)
       go_wp2
       go_ret
       exact⟨dF iE.out,b_.out.aH HW.out.iy⟩
     ·clear hst
      have gb:((s0:Int)==t0)=false:=by simpa using g0
      go_wp2_with fail
      go_quiet (fail)
      go_wp2
      go_ret
      exact⟨dF iE.out,b_.out.aH HW.out.iy⟩
   ·obtain rfl:n=k:=by omega
    have hee:es=es':=wz.all (HN.out.trans EK.out.symm) (by rw[HN.out];exact Ip.out)
    have yR:=ah hee;clear hee
    go_wp2
    clear b0 b1 b2 b3
    go_loopw [44] (fun i ww=>∃k:Nat,k≤m∧i= .int .i64 k∧(ks=ks'↔ks.drop k=ks'.drop k)∧aj aF ((w.alloc (.cells #[.slice ae n ce, .slice ak m ck] 28)).alloc (.cells #[.slice gZ n g_, .slice h_ m ig] 28)) ww) (fun i _=>m-(intOf i).toNat)
    case atStart=>exact⟨0,Nat.zero_le _,rfl,Iff.rfl,HW.out⟩
    case round=>
     obtain⟨k,hk,rfl,hiff,hwk⟩:=hrel
     have Lu:=ah hiff;clear hiff
     have fO:=ah hwk;clear hwk
     by_cases hlt:k<m
     ·obtain⟨key,es0,sub,rest,hdr⟩:=aT.uf (n:=k) (ks:=ks) (by rw[HM.out];exact hlt)
      obtain⟨key',zl,sub',rest',hdr'⟩:=aT.uf (n:=k) (ks:=ks') (by rw[nT.out];exact hlt)
      rcases Rd.shape iT.out with⟨ad,he,h0⟩|⟨e1,off1,GZ,he,hmax⟩
      ·exfalso;omega
      rcases Rd.shape Cc.out with⟨ad,he2,h0⟩|⟨e2,off2,lg,he2,zY⟩
      ·exfalso;omega
      injection he with g1 g2 g3
      injection he2 with g4 g5 g6
      subst g1 g3 g4 g6
      clear g2 g5
      have hfw:=b_.out.aH fO.out
      obtain⟨ev0,kv0,p0,p1,p2,hta⟩:=rD (iT.out.aS hfw) (nR.out.aS hfw) hdr
      obtain⟨ev1,wP,q0,q1,q2,htb⟩:=rD (Cc.out.aS hfw) (KD.out.aS hfw) hdr'
      clear hfw
      have hss:=xJ k hdr
      have hst1:=yQ k hdr
      have hst2:=yQ k hdr'
      have HC:=ah (fun W (f:aj aF wr W)=>IH.out es0 sub zl sub' W ev0 kv0 ev1 wP (by have:=uh.out;omega) (hta.aS f) (htb.aS f) (by have:=iC.out;unfold sizeT at*;omega) (by have:=afP.out;unfold sizeT at*;omega))
      have HST:=ah (VK hdr hdr')
      obtain⟨a0,c0,rfl⟩:=hta.ents.rd.sl
      obtain⟨o3,hk3,-⟩:=hta.kids
      obtain⟨a1,c1,rfl⟩:=hk3.rd.sl
      obtain⟨a0',c0',rfl⟩:=htb.ents.rd.sl
      obtain⟨o4,hk4,-⟩:=htb.kids
      obtain⟨a1',c1',rfl⟩:=hk4.rd.sl
      clear hk3 hk4 hta htb hdr hdr' hss hst1 hst2
      generalize es0.length=n0 at*
      generalize sub.len=m0 at*
      generalize zl.length=n1 at*
      generalize sub'.len=m1 at*
      obtain⟨α,hne,K,hK1,hK0,hK2⟩:=worlds wr
      have kb:=fun s=>bW.out (K s) (fO.out.aH (hK1 s))
      have k0:=fun s=>(kb s).1
      have k1:=fun s=>(kb s).2.1
      have k2:=fun s=>(kb s).2.2.1
      have k3:=fun s=>(kb s).2.2.2
      have r0:=fun s=>(hK1 s).cell' p0 id
      have r1:=fun s=>(hK1 s).cell' p1 id
      have r2:=fun s=>(hK1 s).cell' p2 id
      have t0:=fun s=>(hK1 s).cell' q0 id
      have t1:=fun s=>(hK1 s).cell' q1 id
      have t2:=fun s=>(hK1 s).cell' q2 id
      clear kb p0 p1 p2 q0 q1 q2
      have dS:=ah (fun s=>fO.out.aH (hK1 s))
      have uw:=ah hK1
      by_cases hkey:key=key'
      ·by_cases hsub:es0=zl∧sub=sub'
       ·rw[gu hsub]at HC
        have HY:=ah (show key=key'∧es0=zl∧sub=sub' from⟨hkey,hsub⟩)
        subst hkey
        clear hsub
        go_wp2_with fail
        refine dX K (by kernel_rfl) (by kernel_rfl) hK0 ?_
        repeat(go_big_quiet_step ((go_at_call 25;exact Calls.bT hK2 (HC.out _ (uw.out _)))))
        refine wpQuiet_nil ?_
        intro w' hw'
        obtain⟨s,rfl⟩:=hw'
        go_wp2
        go_roundw
        case rel=>exact⟨k+1,by omega,by go_num,Lu.out.trans (HST.out.trans ⟨fun h=>h.2,fun h=>⟨⟨by trivial,HY.out.2⟩,h⟩⟩),dS.out s⟩
        case measure=>simp[intOf];omega
       ·rw[eH hsub]at HC
        have HY:=ah (show ¬(es=es'∧ks=ks')from fun h=>hsub (HST.out.1 (Lu.out.1 h.2)).1.2)
        subst hkey
        clear hsub
        go_wp2_with fail
        refine dX K (by kernel_rfl) (by kernel_rfl) hK0 ?_
        repeat(go_big_quiet_step ((go_at_call 25;exact Calls.bT hK2 (HC.out _ (uw.out _)))))
        refine wpQuiet_nil ?_
        intro w' hw'
        obtain⟨s,rfl⟩:=hw'
        go_wp2
        go_ret
        exact⟨dF (eH HY.out).symm,b_.out.aH (dS.out s)⟩
      ·have HY:=ah (show ¬(es=es'∧ks=ks')from fun h=>hkey (HST.out.1 (Lu.out.1 h.2)).1.1)
       have gb:=Cb hkey
       have gc:(key.toList==key'.toList)=false:=by simpa using gb
       go_wp2_with fail
       refine dX K (by kernel_rfl) (by kernel_rfl) hK0 ?_
       repeat(go_big_quiet_step ((go_at_call 25;exact Calls.bT hK2 (HC.out _ (uw.out _)))))
       refine wpQuiet_nil ?_
       intro w' hw'
       obtain⟨s,rfl⟩:=hw'
       go_wp2
       go_ret
       exact⟨dF (eH HY.out).symm,b_.out.aH (dS.out s)⟩
     ·obtain rfl:m=k:=by omega
      have hkk:ks=ks':=Lu.out.2 (by rw[aT.uP (by rw[HM.out];exact Nat.le_refl _),aT.uP (by rw[nT.out];exact Nat.le_refl _)])
      have HKK:=ah hkk;clear hkk
      go_wp2
      go_ret
      exact⟨dF (gu ⟨yR.out,HKK.out⟩).symm,b_.out.aH fO.out⟩
open Go.RowKit
theorem Iq (Q Q':Nat→Prop) (es:List aQ) (ks:aT) (c:bD) (es':List aQ) (ks':aT) (c':bD) (w:World) (ev kv cv ev' kv' jI:Value) (h:dU Q w ev kv cv es ks c) (hok:iD es ks c) (h':dU Q' w ev' kv' jI es' ks' c') (hok':iD es' ks' c'):
 Calls Tryz.prog 19 #[.agg #[ev,kv,cv], .agg #[ev',kv',jI]] w fun e w'=>e= .returned (.bool (tf ((es=es'∧ks=ks')∧c=c')))∧aj aF w w':=by
 obtain⟨a0,c0,a1,c1,a2,c2,rfl,rfl,rfl⟩:=h.shape
 obtain⟨b0,d0,b1,d1,b2,d2,rfl,rfl,rfl⟩:=h'.shape
 have HT:=ah (fun W (f:aj aF w W)=>afO Q Q' _ es ks es' ks' W _ _ _ _ (Nat.lt_succ_self _) (h.tree.aS f) (h'.tree.aS f) (Nat.le_trans hok.small (by decide)) (Nat.le_trans hok'.small (by decide)))
 have hde:decide (c=c')=tf (c=c'):=Dw (by rw[decide_eq_true_iff])
 have HC:=ah (fun W (f:aj aF w W)=>hde▸acZ W _ _ c c' (Rd.aS h.ctx f) (Rd.aS h'.ctx f) (Nat.le_trans hok.len (by decide)) (Nat.le_trans hok'.len (by decide)))
 clear h hok h' hok' hde
 by_cases r3:es=es'∧ks=ks'
 rotate_left 1
 ·rw[eH r3]at HT
  rw[eH fun h=>r3 h.1]
  clear r3 HC
  generalize es.length=n at*
  generalize ks.len=m at*
  generalize c.length=k at*
  generalize es'.length=n' at*
  generalize ks'.len=m' at*
  generalize c'.length=k' at*
  have b_:=ah ((aj.alloc aF w (.cells #[.slice a0 n c0, .slice a1 m c1, .slice a2 k c2] 32)).alloc1 (o:= .cells #[.slice b0 n' d0, .slice b1 m' d1, .slice b2 k' d2] 32))
  have bW:=ah (Eo w (.slice a0 n c0) (.slice a1 m c1) (.slice a2 k c2) (.slice b0 n' d0) (.slice b1 m' d1) (.slice b2 k' d2) 32)
  go_enter Tryz.func19,Tryz.ntmps19
  go_wp2_with(first
   |(go_at_call 25;refine(HT.out _ b_.out).mono ?_;rintro e w1 ⟨rfl,hw1⟩;obtain⟨y0,y1,y2,y3,y4,y5⟩:=bW.out w1 hw1;have HW1:=ah hw1;clear hw1))
  go_ret
  exact⟨rfl,b_.out.aH HW1.out⟩
 rw[gu r3]at HT
 have hall:tf ((es=es'∧ks=ks')∧c=c')=tf (c=c'):=Dv ⟨fun h=>h.2,fun h=>⟨r3,h⟩⟩
 rw[hall]
 clear hall r3
 generalize tf (c=c')=y at*
 generalize es.length=n at*
 generalize ks.len=m at*
 generalize c.length=k at*
 generalize es'.length=n' at*
 generalize ks'.len=m' at*
 generalize c'.length=k' at*
 have b_:=ah ((aj.alloc aF w (.cells #[.slice a0 n c0, .slice a1 m c1, .slice a2 k c2] 32)).alloc1 (o:= .cells #[.slice b0 n' d0, .slice b1 m' d1, .slice b2 k' d2] 32))
 have bW:=ah (Eo w (.slice a0 n c0) (.slice a1 m c1) (.slice a2 k c2) (.slice b0 n' d0) (.slice b1 m' d1) (.slice b2 k' d2) 32)
 go_enter Tryz.func19,Tryz.ntmps19
 go_wp2_with(first
  |(go_at_call 25;refine(HT.out _ b_.out).mono ?_;rintro e w1 ⟨rfl,hw1⟩;obtain⟨y0,y1,y2,y3,y4,y5⟩:=bW.out w1 hw1;have HW1:=ah hw1;clear hw1)
  |(go_at_call 45;refine(HC.out _ (b_.out.aH HW1.out)).mono ?_;rintro e w2 ⟨rfl,hw2⟩;have HW2:=ah (HW1.out.aH hw2);clear hw2))
 go_ret
 exact⟨rfl,b_.out.aH HW2.out⟩
open Go.RowKit
theorem afR:fK dD (CS,yt)=oneG:=aeC Lr
theorem afS {x:Int}:dG x (([]:List bC).map bC.id)=-1:=EN (by simp)
theorem Yf:dQ dD+dM CS≤2000∧dD.2.length+yt.length≤2000:=by decide
theorem QU {Q:Nat→Prop} {w:World} {es:List aQ} {ks:aT} {c:bD} {ev kv cv:Value} (h:eF Q w ⟨es,ks,c,ev,kv,cv⟩):∃a1 c1 a2 c2,kv= .slice a1 ks.len c1∧cv= .slice a2 c.length c2:=by
 obtain⟨_,_,a1,c1,a2,c2,_,h1,h2⟩:=h.at_.shape
 exact⟨a1,c1,a2,c2,h1,h2⟩
theorem afT (Q Q':Nat→Prop) (ks:aT) (c:bD) (w:World) (kv cv kv' jI:Value) (hg:Good (ks,c)) (h:eF Q w ⟨[],ks,c, .slice none 0 0,kv,cv⟩) (ev':Value) (h':eF Q' w ⟨[],ks,c,ev',kv',jI⟩):
 Calls Tryz.prog 19 #[.agg #[.slice none 0 0,kv,cv], .agg #[ev',kv',jI]] w fun e w'=>e= .returned (.bool true)∧aj aF w w':=by
 have:=Iq Q Q' [] ks c [] ks c w (.slice none 0 0) kv cv ev' kv' jI h.at_ hg.ok h'.at_ hg.ok
 rwa [gu ⟨⟨rfl,rfl⟩,rfl⟩]at this
theorem QV (w:World):Calls Tryz.prog 9 #[] w fun e w'=>e= .returned (.bool true)∧aj aF w w':=by
 have HN:=ah (show Calls Tryz.prog 14 #[.int .i64 2] w fun e w'=>e= .returned (.tuple #[.pointer (some ⟨w.heap.size+1,0,none⟩), .int .i64 0])∧
  dW (newL w) w' (w.heap.size+1) 2 w.heap.size (.slice none 0 0) (jm 2) []∧(jm 2).map aU.g=jd 2 dD∧aj aF w w' from Yd 2 (by decide) (by decide) w)
 go_enter Tryz.func9,Tryz.ntmps9
 go_wp2_with(first
  |(go_at_call 14;refine HN.out.mono ?_;rintro e w1 ⟨rfl,hst,hv,hf⟩;have HST:=ah hst;have HV:=ah hv;have dN:=ah hf;clear hst hv hf)
  |(go_at_call 15;refine HI.out.mono ?_;rintro e w3 ⟨rfl,L',qR,sv',ns,rs',ht,hst3,hcon,hv3⟩;rw[afR]at hv3;have HT3:=ah ht;have HF3:=ah (HF2.out.trans ht.aI fun i hi e=>by have e:i=w.heap.size+1:=e;omega);have z_:=ah (afM hst3 oneG (ED Lr) hv3);clear ht hst3 hcon hv3)
  |(go_at_call 20;refine z_.out.mono ?_;rintro e w4 ⟨kv4,cv4,rfl,hc4,hf4⟩;have HC4:=ah hc4;have dR:=ah (HF3.out.aH hf4);obtain⟨a7,c7,a8,c8,rfl,rfl⟩:=QU hc4;clear hc4 hf4)
  |(go_at_call 19;refine lS.out.mono ?_;rintro e w6 ⟨rfl,jO⟩;have HF6:=ah (iV.out.aH jO);clear jO)
  |(go_at_call 27;have q9:=dR.out;clear q9;refine(one_any _).mono ?_;rintro e w5 ⟨kv5,cv5,rfl,hc5,hf5⟩;have iV:=ah (dR.out.aH hf5);have lS:=ah (afT _ _ _ _ _ _ _ _ _ Lr (HC4.out.aS hf5) _ hc5);obtain⟨a5,c5,a6,c6,rfl,rfl⟩:=QU hc5;clear hc5 hf5)
  |(go_at_call 27;refine(one_any _).mono ?_;rintro e w2 ⟨AP,Gp,rfl,hc2,hf2⟩;have HF2:=ah (dN.out.aH hf2);have HI:=ah (afN (HST.out.aS hf2) 1 dD Ap HV.out CS yt (.slice none 0 0) AP Gp (hc2.turn fun k hk hQ=>⟨rfl,fun e=>by have e:k=w.heap.size+1:=e;have:=lt_of_block HST.out.box;omega⟩) Lr afS (by decide) Yf.1 Yf.2);obtain⟨a2,c2,a3,c3,rfl,rfl⟩:=QU hc2;clear hc2 hf2))
 go_ret
 exact⟨rfl,HF6.out⟩
open Go.RowKit
def Yg (w:World) (es:List aQ) (ks:aT) (e:Ending) (w':World):Prop:=
 ∃(v':Value) (l:qJ),e= .returned v'∧OwnAt w w' 103 5 v' l.length (pV l)∧rE l=iY es ks∧xK l
theorem afV (Q:Nat→Prop):∀(N:Nat) (es:List aQ) (ks:aT) (w:World) (ev kv pv:Value) (pl:List ByteArray),dM ks<N→bZ Q w ev kv es ks→sizeT es ks≤100000→Rd w pv pl.length (fA pl)→pl.length+N≤200000→
 Calls Tryz.prog 50 #[.agg #[ev,kv],pv] w (Yg w es ks):=by
 intro N
 induction N with
 |zero=>intros;exfalso;omega
 |succ N jH=>
  intro es ks w ev kv pv pl hN ht hsz hp hpl
  obtain⟨i0,hi,hz0,hz1,hz2⟩:=info_parts DW
  obtain⟨j0,hji,hy0,hy1,hy2⟩:=info_parts UR
  obtain⟨ae,ce,rfl⟩:=ht.ents.rd.sl
  obtain⟨os,hkr,gY⟩:=ht.kids
  obtain⟨ak,ck,rfl⟩:=hkr.rd.sl
  obtain⟨ap,cp,rfl⟩:=hp.sl
  have HP:=ah hp;clear hp
  have HE:=ah ht.ents.rd
  have iT:=ah hkr.rd;clear hkr ht
  have nR:=ah gY;clear gY
  have IH:=ah jH;clear jH
  have eu:=ah (aj.alloc aF w (.cells #[.slice ae es.length ce, .slice ak ks.len ck] 28))
  have box0:(w.alloc (.cells #[.slice ae es.length ce, .slice ak ks.len ck] 28)).cell? ⟨w.heap.size,0,none⟩=some (.slice ae es.length ce):=aG (heap_alloc_new w _) 0 rfl
  have box1:(w.alloc (.cells #[.slice ae es.length ce, .slice ak ks.len ck] 28)).cell? ⟨w.heap.size,1,none⟩=some (.slice ak ks.len ck):=aG (heap_alloc_new w _) 1 rfl
  have B0:=ah box0;clear box0
  have B1:=ah box1;clear box1
  have oU:=ah (Nat.le_trans (JH es ks) hsz)
  have vV:es.length≤100000:=by unfold sizeT at hsz;omega
  have Gl:ks.len≤100000:=by have:=oQ ks;unfold sizeT at hsz;omega
  have iC:=ah hsz;clear hsz
  have uh:=ah hN;clear hN
  have hq5:pl.length≤200000:=by omega
  have dV:=ah hpl;clear hpl
  generalize hes:es.length=n at*
  have HN:=ah hes;clear hes
  generalize hkl:ks.len=m at*
  have HM:=ah hkl;clear hkl
  generalize sU:pl.length=q at*
  have HQ:=ah sU;clear sU
  go_enter Tryz.func50,Tryz.ntmps50
  go_wp2_with fail
  have b0:=B0.out
  go_wp2
  clear b0
  go_loopw [5,12] (fun v i ww=>∃k:Nat,k≤n∧i= .int .i64 k∧OwnAt (w.alloc (.cells #[.slice ae n ce, .slice ak m ck] 28)) ww 103 5 v k (pV (sD (.slice ap q cp) (es.take k)))) (fun _ i _=>n-(intOf i).toNat)
  case atStart=>exact⟨0,Nat.zero_le _,rfl,OwnAt.nil (aj.refl _ _) _ _⟩
  case round=>
   obtain⟨k,hk,rfl,ho⟩:=hrel
   obtain⟨av,cv,rfl⟩:=ho.shape
   have HO:=ah ho;clear ho
   by_cases hlt:k<n
   ·rcases Rd.shape HE.out with⟨ad,he,h0⟩|⟨b,off,cc,he,hmax⟩
    ·exfalso;have:=HN.out;omega
    ·injection he with e1 e2 e3
     subst e1 e3
     clear e2
     have hlk:k<es.length:=by rw[HN.out];exact hlt
     obtain⟨p0,p1,p2,p3⟩:=ug HE.out k hlk
     have f2:=eu.out.aH HO.out.aI
     have q0:=f2.cell' p0 id
     have q1:=f2.cell' p1 id
     have q2:=f2.cell' p2 id
     have q3:=f2.cell' p3 id
     have b0:=HO.out.aI.cell' B0.out id
     clear p0 p1 p2 p3 f2
     have hE:=abr (p:= .slice ap q cp) hlk
     generalize es.getD k aQ.zero=e at*
     have yR:=ah hE;clear hE
     go_wp2_with(at_builtin;refine kT _ _ [.slice ap q cp, .int .i64 e.dc, .int .i64 e.n, .string e.s, .int .i64 e.k] rfl (.tmp 15) (.tmp 23) 50 rfl 103 i0 _ 5 64 Tryz.underlying50 hi hz0 hz1 hz2 (by decide) (by decide) _ _ _ HO.out 1 1 rfl (by simp[Act.eval]) rfl (by simp[Value.oneCell']) (by simp only[maxLen];omega) (by omega) ?_;intro BI lg w2 bP;have OW:=ah bP;clear bP)
     go_roundw
     case rel=>exact⟨k+1,by omega,by go_num,by rw[yR.out];exact OW.out⟩
     case measure=>simp[intOf];omega
   ·obtain rfl:n=k:=by omega
    rw[List.take_of_length_le (by rw[HN.out];exact Nat.le_refl _)]at HO
    have b1:=HO.out.aI.cell' B1.out id
    go_wp2
    clear b1
    go_loopw [5,29] (fun v i ww=>∃(k:Nat) (l:qJ),k≤m∧i= .int .i64 k∧OwnAt (w.alloc (.cells #[.slice ae n ce, .slice ak m ck] 28)) ww 103 5 v l.length (pV l)∧iY es ks=rE l++kQ (ks.drop k)∧xK l) (fun _ i _=>m-(intOf i).toNat)
    case atStart=>exact⟨0,sD (.slice ap q cp) es,Nat.zero_le _,rfl,by rw[abq,HN.out];exact HO.out,by rw[abp];rfl,xK.sD rfl es⟩
    case round=>
     obtain⟨k,l,hk,rfl,ho,hd,hone⟩:=hrel
     obtain⟨av,cv,rfl⟩:=ho.shape
     have fH:=ah ho;clear ho
     have HD:=ah hd;clear hd
     have xO:=ah hone;clear hone
     by_cases hlt:k<m
     ·obtain⟨key,es',sub,rest,hdr⟩:=aT.uf (n:=k) (ks:=ks) (by rw[HM.out];exact hlt)
      rcases Rd.shape iT.out with⟨ad,he,h0⟩|⟨b,off,cc,he,hmax⟩
      ·exfalso;have:=HM.out;omega
      ·injection he with e1 e2 e3
       subst e1 e3
       clear e2
       have f2:=eu.out.aH fH.out.aI
       obtain⟨ev',kv',c0,c1,c2,hta⟩:=rD (iT.out.aS f2) (nR.out.aS f2) hdr
       obtain⟨gZ,g_,rfl⟩:=hta.ents.rd.sl
       obtain⟨os',ji,nC⟩:=hta.kids
       obtain⟨h_,ig,rfl⟩:=ji.rd.sl
       clear ji nC
       have hpr:=HP.out.aS f2
       have lJ:=ah hpr;clear hpr f2
       have b1:=fH.out.aI.cell' B1.out id
       have uT:=ah (UM hdr)
       have i_:=ah (xJ k hdr)
       have HST:=ah (yQ k hdr)
       have kF:=ah hta;clear hta
       have HIH:=ah (fun w' (h:aj aF wr w') pv (hpv:Rd w' pv (pl++ [key]).length (fA (pl++ [key])))=>IH.out es' sub w' _ _ pv (pl++ [key]) (by have:=i_.out;have:=uh.out;omega) (kF.out.aS h) (by have:=HST.out;have:=iC.out;unfold sizeT at*;omega) hpv (by have:=dV.out;have:=HQ.out;simp;omega))
       have hlen:l.length+(iY es' sub).length≤100000:=by
        have h1:=oU.out
        rw[HD.out,uT.out,List.length_append,List.length_append,yS]at h1
        omega
       have HLEN:=ah hlen;clear hlen
       clear hdr
       generalize es'.length=n' at*
       generalize sub.len=m' at*
       go_wp2_with fail
       refine iq (S:=fun w'=>w'.cell? ⟨w.heap.size,1,none⟩=some (.slice (some ⟨b,off,none⟩) m ck)∧w'.cell? ⟨b,off+k*3,none⟩=some (.string key)) 11 (by kernel_rfl) ⟨b1,c0⟩ ?_
       intro hS
       have aV:aj aF wr wr.drew:=aj.drew _ _
       have afj:=ah aV
       generalize wr.drew=Y at*
       refine aX 1 33 rfl rfl ?_
       refine aX 3 35 rfl rfl ?_
       try simp only[Act.put,aO,aN,aJ]
       refine aX 4 36 rfl rfl ?_
       refine aX 5 37 rfl rfl ?_
       try simp only[Act.put,aO,aN,aJ]
       refine aX 6 38 rfl rfl ?_
       refine aX 7 39 rfl rfl ?_
       try simp only[Act.put,aO,aN,aJ]
       refine aX 8 40 rfl rfl ?_
       try simp only[Act.put,aO,aN,aJ]
       refine nU (i:=0) (j:=9) (by kernel_rfl) rfl rfl (fun K hK=>?_) (fun K hK=>?_)
       ·go_simp
        have hfA:aj aF Y (Y.alloc (.cells #[] 9)):=aj.alloc _ _ _
        have hE:OwnAt wr (Y.alloc (.cells #[] 9)) 9 1 (.slice (some ⟨Y.heap.size,0,none⟩) 0 0) 0 []:=OwnAt.empty aV _ _
        have hS:(Y.alloc (.cells #[] 9)).cell? ⟨w.heap.size,1,none⟩=some (.slice (some ⟨b,off,none⟩) m ck)∧(Y.alloc (.cells #[] 9)).cell? ⟨b,off+k*3,none⟩=some (.string key):=⟨hfA.cell' hS.1 id,hfA.cell' hS.2 id⟩
        have aV:=aV.aH hfA
        (try have hne:kb≠Y.heap.size:=by have:=hkb;omega)
        (try have iI:=iI.aS hfA)
        refine hK.out _ _ hS ?_
        clear hK K hfA
        obtain⟨eb,heb⟩:∃eb,Y.heap.size=eb:=⟨_,rfl⟩
        rw[heb]at hE⊢
        have rQ:eb<(Y.alloc (.cells #[] 9)).heap.size:=by rw[←heb];simp
        (try rw[heb]at hne)
        clear heb
        generalize Y.alloc (.cells #[] 9)=Y at*
        try simp only[Act.put,aO,aN,aJ]
        refine nU (i:=2) (j:=9) (by kernel_rfl) rfl rfl (fun K hK=>?_) (fun K hK=>?_)
        ·refine jl wr Y (fA pl) rfl (.tmp 32) (.tmp 33) 101 101 rfl 9 9 j0 _ 1 16 Tryz.underlying101 Tryz.underlying101 hji hy0 hy1 hy2 (by decide) (by decide) _ 0 [] hE _ q (by simp[Act.eval]) (by simp[Act.eval]) (lJ.out.aS aV) (by rw[DU,HQ.out];omega) (DV _) (by simp only[maxLen];omega) (by omega) ?_
         intro iw gI Y2 hP ql wJ
         rw[Nat.zero_add]at hP
         rw[List.nil_append]at hP
         have hS:Y2.cell? ⟨w.heap.size,1,none⟩=some (.slice (some ⟨b,off,none⟩) m ck)∧Y2.cell? ⟨b,off+k*3,none⟩=some (.string key):=⟨hP.aI.cell' b1 id,hP.aI.cell' c0 id⟩
         have aV:=hP.aI
         (try have iI:=iI.keep ql (fun x hx hr=>by simp[eG,Value.ownBlock]at hx hr;omega))
         rw[Nat.zero_add]
         refine hK.out _ _ hS ?_
         clear hK K ql wJ hE rQ
         generalize Y2=Y at*
         try simp only[Act.put,aO,aN,aJ]
         refine bg (i:=9) (by kernel_rfl) rfl (fun K hK=>?_)
         go_simp
         have hfA:aj aF Y (Y.alloc (.cells #[.string key] 9)):=aj.alloc _ _ _
         have hS:(Y.alloc (.cells #[.string key] 9)).cell? ⟨w.heap.size,1,none⟩=some (.slice (some ⟨b,off,none⟩) m ck)∧(Y.alloc (.cells #[.string key] 9)).cell? ⟨b,off+k*3,none⟩=some (.string key):=⟨hfA.cell' hS.1 id,hfA.cell' hS.2 id⟩
         have aV:=aV.aH hfA
         (try have hne:Y.heap.size≠eb:=by have:=rQ;omega)
         (try have hE:=hE.keep hfA)
         (try have hP:=hP.keep hfA)
         have iI:Rd (Y.alloc (.cells #[.string key] 9)) (.slice (some ⟨Y.heap.size,0,none⟩) 1 1) 1 [.string key]:= .inr ⟨Y.heap.size,0,1,rfl,Nat.le_refl _,by decide,fun j u hu=>by rw[Nat.zero_add];exact aG (heap_alloc_new Y _) j (by simpa using hu)⟩
         refine hK.out _ _ hS ?_
         clear hK K hfA
         obtain⟨kb,kK⟩:∃kb,Y.heap.size=kb:=⟨_,rfl⟩
         rw[kK]at iI⊢
         have hkb:kb<(Y.alloc (.cells #[.string key] 9)).heap.size:=by rw[←kK];simp
         (try rw[kK]at hne)
         clear kK
         generalize Y.alloc (.cells #[.string key] 9)=Y at*
         try simp only[Act.put,aO,aN,aJ]
         refine bg (i:=10) (by kernel_rfl) rfl (fun K hK=>?_)
         refine jl wr Y [.string key] rfl (.tmp 34) (.tmp 41) 101 101 rfl 9 9 j0 _ 1 16 Tryz.underlying101 Tryz.underlying101 hji hy0 hy1 hy2 (by decide) (by decide) _ q (fA pl) hP _ 1 (by simp[Act.eval]) (by simp[Act.eval]) iI rfl (by simp[Value.oneCell']) (by simp only[maxLen];omega) (by omega) ?_
         intro gB gG Y3 kL wK wL
         have hS:Y3.cell? ⟨w.heap.size,1,none⟩=some (.slice (some ⟨b,off,none⟩) m ck)∧Y3.cell? ⟨b,off+k*3,none⟩=some (.string key):=⟨kL.aI.cell' b1 id,kL.aI.cell' c0 id⟩
         refine hK.out _ _ hS ?_
         clear hK K wK wL hP
         have gU:=ah kL;clear kL
         try simp only[Act.put,aO,aN,aJ]
         refine gJ (by kernel_rfl) (by kernel_rfl) rfl (fun K hK=>?_)
         go_simp
         refine hK.out _ _ ?_
         clear hK K iI hS
         have c1:=gU.out.aI.cell' c1 id
         have c2:=gU.out.aI.cell' c2 id
         have b1:=gU.out.aI.cell' b1 id
         go_wp2_with(first
          |(go_at_call 50;refine(HIH.out _ gU.out.aI _ (by have:=gU.out.rd;rw[DT,List.length_append,HQ.out];exact this)).mono ?_;rintro e w3 ⟨v3,l3,rfl,ho3,hd3,wQ⟩;obtain⟨a3,c3,rfl⟩:=ho3.shape;have dw:=ah ho3;clear ho3;have HD3:=ah hd3;clear hd3;have AQ:=ah wQ;clear wQ;have HKK:=ah (fH.out.keep (gU.out.aI.aH dw.out.aI)))
          |(at_builtin;refine rC _ _ _ rfl (.tmp 43) (.tmp 51) 50 50 rfl 103 103 i0 _ 5 64 Tryz.underlying50 Tryz.underlying50 hi hz0 hz1 hz2 (by decide) (by decide) _ _ _ HKK.out _ l3.length rfl rfl dw.out.rd (by rw[JJ]) (Og AQ.out) (by have:=HLEN.out;rw[←HD3.out,yS]at this;simp only[maxLen];omega) (by have:=HLEN.out;rw[←HD3.out,yS]at this;omega) ?_;intro EL CP w5 dP;have OW:=ah dP;clear dP))
         go_roundw
         case rel=>exact⟨k+1,l++l3,by omega,by go_num,by rw[List.length_append,JI];exact OW.out,by rw[HD.out,uT.out,Oh,HD3.out,List.append_assoc],xO.out.append AQ.out⟩
         case measure=>simp[intOf];omega
        ·go_simp
         have hfA:aj aF Y (Y.alloc (.cells #[.string key] 9)):=aj.alloc _ _ _
         have hS:(Y.alloc (.cells #[.string key] 9)).cell? ⟨w.heap.size,1,none⟩=some (.slice (some ⟨b,off,none⟩) m ck)∧(Y.alloc (.cells #[.string key] 9)).cell? ⟨b,off+k*3,none⟩=some (.string key):=⟨hfA.cell' hS.1 id,hfA.cell' hS.2 id⟩
         have aV:=aV.aH hfA
         (try have hne:Y.heap.size≠eb:=by have:=rQ;omega)
         (try have hE:=hE.keep hfA)
         (try have hP:=hP.keep hfA)
         have iI:Rd (Y.alloc (.cells #[.string key] 9)) (.slice (some ⟨Y.heap.size,0,none⟩) 1 1) 1 [.string key]:= .inr ⟨Y.heap.size,0,1,rfl,Nat.le_refl _,by decide,fun j u hu=>by rw[Nat.zero_add];exact aG (heap_alloc_new Y _) j (by simpa using hu)⟩
         refine hK.out _ _ hS ?_
         clear hK K hfA
         obtain⟨kb,kK⟩:∃kb,Y.heap.size=kb:=⟨_,rfl⟩
         rw[kK]at iI⊢
         have hkb:kb<(Y.alloc (.cells #[.string key] 9)).heap.size:=by rw[←kK];simp
         (try rw[kK]at hne)
         clear kK
         generalize Y.alloc (.cells #[.string key] 9)=Y at*
         try simp only[Act.put,aO,aN,aJ]
         refine bg (i:=2) (by kernel_rfl) rfl (fun K hK=>?_)
         refine jl wr Y (fA pl) rfl (.tmp 32) (.tmp 33) 101 101 rfl 9 9 j0 _ 1 16 Tryz.underlying101 Tryz.underlying101 hji hy0 hy1 hy2 (by decide) (by decide) _ 0 [] hE _ q (by simp[Act.eval]) (by simp[Act.eval]) (lJ.out.aS aV) (by rw[DU,HQ.out];omega) (DV _) (by simp only[maxLen];omega) (by omega) ?_
         intro iw gI Y2 hP ql wJ
         rw[Nat.zero_add]at hP
         rw[List.nil_append]at hP
         have hS:Y2.cell? ⟨w.heap.size,1,none⟩=some (.slice (some ⟨b,off,none⟩) m ck)∧Y2.cell? ⟨b,off+k*3,none⟩=some (.string key):=⟨hP.aI.cell' b1 id,hP.aI.cell' c0 id⟩
         have aV:=hP.aI
         (try have iI:=iI.keep ql (fun x hx hr=>by simp[eG,Value.ownBlock]at hx hr;omega))
         rw[Nat.zero_add]
         refine hK.out _ _ hS ?_
         clear hK K ql wJ hE rQ
         generalize Y2=Y at*
         try simp only[Act.put,aO,aN,aJ]
         refine bg (i:=10) (by kernel_rfl) rfl (fun K hK=>?_)
         refine jl wr Y [.string key] rfl (.tmp 34) (.tmp 41) 101 101 rfl 9 9 j0 _ 1 16 Tryz.underlying101 Tryz.underlying101 hji hy0 hy1 hy2 (by decide) (by decide) _ q (fA pl) hP _ 1 (by simp[Act.eval]) (by simp[Act.eval]) iI rfl (by simp[Value.oneCell']) (by simp only[maxLen];omega) (by omega) ?_
         intro gB gG Y3 kL wK wL
         have hS:Y3.cell? ⟨w.heap.size,1,none⟩=some (.slice (some ⟨b,off,none⟩) m ck)∧Y3.cell? ⟨b,off+k*3,none⟩=some (.string key):=⟨kL.aI.cell' b1 id,kL.aI.cell' c0 id⟩
         refine hK.out _ _ hS ?_
         clear hK K wK wL hP
         have gU:=ah kL;clear kL
         try simp only[Act.put,aO,aN,aJ]
         refine gJ (by kernel_rfl) (by kernel_rfl) rfl (fun K hK=>?_)
         go_simp
         refine hK.out _ _ ?_
         clear hK K iI hS
         have c1:=gU.out.aI.cell' c1 id
         have c2:=gU.out.aI.cell' c2 id
         have b1:=gU.out.aI.cell' b1 id
         go_wp2_with(first
          |(go_at_call 50;refine(HIH.out _ gU.out.aI _ (by have:=gU.out.rd;rw[DT,List.length_append,HQ.out];exact this)).mono ?_;rintro e w3 ⟨v3,l3,rfl,ho3,hd3,wQ⟩;obtain⟨a3,c3,rfl⟩:=ho3.shape;have dw:=ah ho3;clear ho3;have HD3:=ah hd3;clear hd3;have AQ:=ah wQ;clear wQ;have HKK:=ah (fH.out.keep (gU.out.aI.aH dw.out.aI)))
          |(at_builtin;refine rC _ _ _ rfl (.tmp 43) (.tmp 51) 50 50 rfl 103 103 i0 _ 5 64 Tryz.underlying50 Tryz.underlying50 hi hz0 hz1 hz2 (by decide) (by decide) _ _ _ HKK.out _ l3.length rfl rfl dw.out.rd (by rw[JJ]) (Og AQ.out) (by have:=HLEN.out;rw[←HD3.out,yS]at this;simp only[maxLen];omega) (by have:=HLEN.out;rw[←HD3.out,yS]at this;omega) ?_;intro EL CP w5 dP;have OW:=ah dP;clear dP))
         go_roundw
         case rel=>exact⟨k+1,l++l3,by omega,by go_num,by rw[List.length_append,JI];exact OW.out,by rw[HD.out,uT.out,Oh,HD3.out,List.append_assoc],xO.out.append AQ.out⟩
         case measure=>simp[intOf];omega
       ·go_simp
        have hfA:aj aF Y (Y.alloc (.cells #[.string key] 9)):=aj.alloc _ _ _
        have hS:(Y.alloc (.cells #[.string key] 9)).cell? ⟨w.heap.size,1,none⟩=some (.slice (some ⟨b,off,none⟩) m ck)∧(Y.alloc (.cells #[.string key] 9)).cell? ⟨b,off+k*3,none⟩=some (.string key):=⟨hfA.cell' hS.1 id,hfA.cell' hS.2 id⟩
        have aV:=aV.aH hfA
        (try have hne:Y.heap.size≠eb:=by have:=rQ;omega)
        (try have hE:=hE.keep hfA)
        (try have hP:=hP.keep hfA)
        have iI:Rd (Y.alloc (.cells #[.string key] 9)) (.slice (some ⟨Y.heap.size,0,none⟩) 1 1) 1 [.string key]:= .inr ⟨Y.heap.size,0,1,rfl,Nat.le_refl _,by decide,fun j u hu=>by rw[Nat.zero_add];exact aG (heap_alloc_new Y _) j (by simpa using hu)⟩
        refine hK.out _ _ hS ?_
        clear hK K hfA
        obtain⟨kb,kK⟩:∃kb,Y.heap.size=kb:=⟨_,rfl⟩
        rw[kK]at iI⊢
        have hkb:kb<(Y.alloc (.cells #[.string key] 9)).heap.size:=by rw[←kK];simp
        (try rw[kK]at hne)
        clear kK
        generalize Y.alloc (.cells #[.string key] 9)=Y at*
        try simp only[Act.put,aO,aN,aJ]
        refine bg (i:=0) (by kernel_rfl) rfl (fun K hK=>?_)
        go_simp
        have hfA:aj aF Y (Y.alloc (.cells #[] 9)):=aj.alloc _ _ _
        have hE:OwnAt wr (Y.alloc (.cells #[] 9)) 9 1 (.slice (some ⟨Y.heap.size,0,none⟩) 0 0) 0 []:=OwnAt.empty aV _ _
        have hS:(Y.alloc (.cells #[] 9)).cell? ⟨w.heap.size,1,none⟩=some (.slice (some ⟨b,off,none⟩) m ck)∧(Y.alloc (.cells #[] 9)).cell? ⟨b,off+k*3,none⟩=some (.string key):=⟨hfA.cell' hS.1 id,hfA.cell' hS.2 id⟩
        have aV:=aV.aH hfA
        (try have hne:kb≠Y.heap.size:=by have:=hkb;omega)
        (try have iI:=iI.aS hfA)
        refine hK.out _ _ hS ?_
        clear hK K hfA
        obtain⟨eb,heb⟩:∃eb,Y.heap.size=eb:=⟨_,rfl⟩
        rw[heb]at hE⊢
        have rQ:eb<(Y.alloc (.cells #[] 9)).heap.size:=by rw[←heb];simp
        (try rw[heb]at hne)
        clear heb
        generalize Y.alloc (.cells #[] 9)=Y at*
        try simp only[Act.put,aO,aN,aJ]
        refine bg (i:=2) (by kernel_rfl) rfl (fun K hK=>?_)
        refine jl wr Y (fA pl) rfl (.tmp 32) (.tmp 33) 101 101 rfl 9 9 j0 _ 1 16 Tryz.underlying101 Tryz.underlying101 hji hy0 hy1 hy2 (by decide) (by decide) _ 0 [] hE _ q (by simp[Act.eval]) (by simp[Act.eval]) (lJ.out.aS aV) (by rw[DU,HQ.out];omega) (DV _) (by simp only[maxLen];omega) (by omega) ?_
        intro iw gI Y2 hP ql wJ
        rw[Nat.zero_add]at hP
        rw[List.nil_append]at hP
        have hS:Y2.cell? ⟨w.heap.size,1,none⟩=some (.slice (some ⟨b,off,none⟩) m ck)∧Y2.cell? ⟨b,off+k*3,none⟩=some (.string key):=⟨hP.aI.cell' b1 id,hP.aI.cell' c0 id⟩
        have aV:=hP.aI
        (try have iI:=iI.keep ql (fun x hx hr=>by simp[eG,Value.ownBlock]at hx hr;omega))
        rw[Nat.zero_add]
        refine hK.out _ _ hS ?_
        clear hK K ql wJ hE rQ
        generalize Y2=Y at*
        try simp only[Act.put,aO,aN,aJ]
        refine bg (i:=10) (by kernel_rfl) rfl (fun K hK=>?_)
        refine jl wr Y [.string key] rfl (.tmp 34) (.tmp 41) 101 101 rfl 9 9 j0 _ 1 16 Tryz.underlying101 Tryz.underlying101 hji hy0 hy1 hy2 (by decide) (by decide) _ q (fA pl) hP _ 1 (by simp[Act.eval]) (by simp[Act.eval]) iI rfl (by simp[Value.oneCell']) (by simp only[maxLen];omega) (by omega) ?_
        intro gB gG Y3 kL wK wL
        have hS:Y3.cell? ⟨w.heap.size,1,none⟩=some (.slice (some ⟨b,off,none⟩) m ck)∧Y3.cell? ⟨b,off+k*3,none⟩=some (.string key):=⟨kL.aI.cell' b1 id,kL.aI.cell' c0 id⟩
        refine hK.out _ _ hS ?_
        clear hK K wK wL hP
        have gU:=ah kL;clear kL
        try simp only[Act.put,aO,aN,aJ]
        refine gJ (by kernel_rfl) (by kernel_rfl) rfl (fun K hK=>?_)
        go_simp
        refine hK.out _ _ ?_
        clear hK K iI hS
        have c1:=gU.out.aI.cell' c1 id
        have c2:=gU.out.aI.cell' c2 id
        have b1:=gU.out.aI.cell' b1 id
        go_wp2_with(first
         |(go_at_call 50;refine(HIH.out _ gU.out.aI _ (by have:=gU.out.rd;rw[DT,List.length_append,HQ.out];exact this)).mono ?_;rintro e w3 ⟨v3,l3,rfl,ho3,hd3,wQ⟩;obtain⟨a3,c3,rfl⟩:=ho3.shape;have dw:=ah ho3;clear ho3;have HD3:=ah hd3;clear hd3;have AQ:=ah wQ;clear wQ;have HKK:=ah (fH.out.keep (gU.out.aI.aH dw.out.aI)))
         |(at_builtin;refine rC _ _ _ rfl (.tmp 43) (.tmp 51) 50 50 rfl 103 103 i0 _ 5 64 Tryz.underlying50 Tryz.underlying50 hi hz0 hz1 hz2 (by decide) (by decide) _ _ _ HKK.out _ l3.length rfl rfl dw.out.rd (by rw[JJ]) (Og AQ.out) (by have:=HLEN.out;rw[←HD3.out,yS]at this;simp only[maxLen];omega) (by have:=HLEN.out;rw[←HD3.out,yS]at this;omega) ?_;intro EL CP w5 dP;have OW:=ah dP;clear dP))
        go_roundw
        case rel=>exact⟨k+1,l++l3,by omega,by go_num,by rw[List.length_append,JI];exact OW.out,by rw[HD.out,uT.out,Oh,HD3.out,List.append_assoc],xO.out.append AQ.out⟩
        case measure=>simp[intOf];omega
     ·obtain rfl:m=k:=by omega
      have hd:=HD.out
      rw[aT.uP (by rw[HM.out];exact Nat.le_refl _)]at hd
      have hd2:rE l=iY es ks:=by rw[hd];simp[kQ]
      have HD2:=ah hd2;clear hd2 hd
      go_wp2
      go_ret
      exact⟨_,l,rfl,fH.out.base eu.out,HD2.out,xO.out⟩
end Go.Proofs.YtlhmbkjdfjoilaaGreat
