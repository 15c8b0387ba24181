/- Words for the law ShardPlays: Ps18, Ps19, Ps20, Ps21, Ps22, Ps25. -/
import Derived.Test.YtlhmbkjdfjoilaaGreatShardPlaysG0
import Derived.Test.YtlhmbkjdfjoilaaGreatShardPlaysG33
import Derived.Test.YtlhmbkjdfjoilaaGreatShardPlaysG34
set_option linter.unusedSimpArgs false
set_option linter.unusedVariables false
set_option maxHeartbeats 32000000
set_option maxRecDepth 1000000
namespace Go.Proofs.YtlhmbkjdfjoilaaGreat
open Go.RowKit
theorem aiX {L:Nat→Prop} {w:World} {b n:Nat} {vv sv:Value} {vis:List bY} {st:List bI} (h:lM L w b n vv sv vis st) (bf sh:Int) (q:aU) (hq:eF (fun k=>¬L k) w q):
 Calls Tryz.prog 31 #[.pointer (some ⟨b,0,none⟩), .agg #[vv,sv], .agg #[.int .u8 3, .int .i64 bf, .int .i64 sh,q.ev,q.kv,q.cv]] w (Bg L w b n vis (lT bf st)):=by
 have pG:=ah h.2
 have rX:=ah (show pJ L w b n vis st from h.1)
 have kD:=ah h.Ls
 obtain⟨x0,y0,x1,y1,rfl,rfl⟩:=h.2.shape
 obtain⟨b0,d0,b1,d1,b2,d2,k1,k2,k3⟩:=hq.at_.shape
 rw[k1,k2,k3]
 clear k1 k2 k3 hq h
 generalize q.es.length=m0 at*
 generalize q.ks.len=m1 at*
 generalize q.c.length=m2 at*
 clear q
 obtain⟨f3,g3,g0,g1,g2⟩:=oD w #[.slice x0 n y0, .slice x1 st.length y1] #[.int .u8 3, .int .i64 bf, .int .i64 sh, .slice b0 m0 d0, .slice b1 m1 d1, .slice b2 m2 d2] #[.slice none 0 0, .slice none 0 0] 62 68 62
 obtain⟨W3,hW3⟩:∃W3,W3=(((w.alloc (.cells #[.slice x0 n y0, .slice x1 st.length y1] 62)).alloc (.cells #[.int .u8 3, .int .i64 bf, .int .i64 sh, .slice b0 m0 d0, .slice b1 m1 d1, .slice b2 m2 d2] 68)).alloc (.cells #[.slice none 0 0, .slice none 0 0] 62)):=⟨_,rfl⟩
 rw[←hW3]at g0 g1 g2 g3 f3
 have HF3:=ah f3
 have HB1:=ah g1
 have HB2:=ah g2
 have iC:=ah g3
 have HW3:=ah hW3
 have s0:=aG g0 0 rfl
 have s1:=aG g0 1 rfl
 have q0:=aG g1 0 rfl
 have q1:=aG g1 1 rfl
 have hl0:=lt_of_block g0
 have hl1:=lt_of_block g1
 clear g0 g1 g2 g3 f3 hW3
 have sO:=ah ((pG.out.aS HF3.out).drop (fun k hk hl=>by have:=kD.out k hl;have:=iC.out;omega) bf)
 have Bh:=ah (fun Y (f:aj aF w Y)=>(rX.out.aS f).drop bf)
 clear pG rX
 obtain⟨bd,hbd⟩:∃bd,bd=decide (dG bf (st.map bI.id)≠-1):=⟨_,rfl⟩
 rw[←hbd]at sO Bh
 clear hbd
 generalize st.length=m at*
 generalize lT bf st=st2 at*
 go_enter Tryz.func31,Tryz.ntmps31
 go_upto_region 1 with fail
 rw[←HW3.out]
 go_upto_region 16 with fail
 go_upto_region 17 with(go_at_call 59;refine sO.out.mono ?_;rintro e w4 ⟨iQ,rfl,hr,hf4⟩;obtain⟨-,-,u1,v1,-,rfl⟩:=hr.shape;have HR:=ah hr;have dR:=ah hf4;clear hr hf4 s0 s1 q0 sO)
 have iM:=ah (⟨fun hl=>(by have:=kD.out _ hl;have:=dR.out.size;have:=HF3.out.size;omega),fun hl=>(by have:=kD.out _ hl;omega),fun hl=>(by have:=kD.out _ hl;omega),by have:=dR.out.size;have:=iC.out;omega,by have:=dR.out.size;have:=iC.out;omega⟩:¬L w4.heap.size∧¬L (w.heap.size+1)∧¬L (w.heap.size+1+1)∧w4.heap.size≠w.heap.size+1+1∧w.heap.size+1+1<w4.heap.size)
 have dJ:=ah (fun N Y Y' (f:aj N Y Y') (hn:¬N w4.heap.size∧¬N (w.heap.size+1)) (hS:Y.cell? ⟨w4.heap.size,0,none⟩=some (.slice x0 n y0)∧Y.cell? ⟨w4.heap.size,1,none⟩=some (.slice u1 st2.length v1)∧Y.cell? ⟨w.heap.size+1,1,none⟩=some (.int .i64 bf))=>
  (⟨f.cell' hS.1 hn.1,f.cell' hS.2.1 hn.1,f.cell' hS.2.2 hn.2⟩:Y'.cell? ⟨w4.heap.size,0,none⟩=some (.slice x0 n y0)∧Y'.cell? ⟨w4.heap.size,1,none⟩=some (.slice u1 st2.length v1)∧Y'.cell? ⟨w.heap.size+1,1,none⟩=some (.int .i64 bf)))
 have fa:=(aj.alloc aF w4 (.cells #[.slice x0 n y0, .slice u1 st2.length v1] 62)).aH (aj.drew aF _)
 have ba:=(aj.drew aF _).blk (heap_alloc_new w4 (.cells #[.slice x0 n y0, .slice u1 st2.length v1] 62)) id
 have dH:=(⟨aG ba 0 rfl,aG ba 1 rfl,aG (fa.blk (dR.out.blk HB1.out id) id) 1 rfl⟩:_∧_∧_)
 have bJ:=ah fa
 have gX:=ah (fa.blk (dR.out.blk HB2.out id) id)
 have zL:=ah fa.size
 clear fa ba
 refine iq (S:=fun Y=>Y.cell? ⟨w4.heap.size,0,none⟩=some (.slice x0 n y0)∧Y.cell? ⟨w4.heap.size,1,none⟩=some (.slice u1 st2.length v1)∧Y.cell? ⟨w.heap.size+1,1,none⟩=some (.int .i64 bf)) 11 (by kernel_rfl) dH ?_
 clear dH
 intro hS
 generalize World.drew _=Y0 at*
 refine aY 0 121 rfl rfl ?_
 refine aY 1 122 rfl rfl ?_
 try simp only[Act.put,aO,aN,aJ]
 refine aY 2 123 rfl rfl ?_
 refine aY 3 124 rfl rfl ?_
 try simp only[Act.put,aO,aN,aJ]
 refine aY 5 126 rfl rfl ?_
 try simp only[Act.put,aO,aN,aJ]
 refine bg (i:=4) (by kernel_rfl) rfl (fun K hK=>?_)
 go_simp
 refine(Bh.out _ (HF3.out.aH (dR.out.aH bJ.out))).mono ?_
 rintro e Y1 ⟨rfl,hp⟩
 have HP:=ah hp
 have HB:=ah (hp.aI.blk gX.out iM.out.2.2.1)
 have hS1:=dJ.out L _ _ hp.aI ⟨iM.out.1,iM.out.2.1⟩ hS
 refine hK.out _ _ hS1 ?_
 clear hK K hS hp
 have hS:=hS1
 clear hS1
 try simp only[Act.put,aO,aN,aJ]
 refine aY 6 127 rfl rfl ?_
 try simp only[Act.put,aO,aN,aJ]
 refine bg (i:=7) (by kernel_rfl) rfl (fun K hK=>?_)
 have z0:=aG HB.out 0 rfl
 have z1:=aG HB.out 1 rfl
 have e0:=aW HB.out 0
 have e1:=aW HB.out 1
 have hbl:=lt_of_block HB.out
 obtain⟨se,sf⟩:=zI HB.out (.slice x0 n y0) (.slice u1 st2.length v1)
 have bH:=ah se
 have bU:=ah sf
 clear se sf
 go_simp
 have hS1:=dJ.out _ _ _ bU.out ⟨iM.out.2.2.2.1,by omega⟩ hS
 refine hK.out _ _ hS1 ?_
 clear hK K hS z0 z1 e0 e1 hbl
 have hS:=hS1
 clear hS1
 try simp only[Act.put,aO,aN,aJ]
 refine bg (i:=8) (by kernel_rfl) rfl (fun K hK=>?_)
 go_simp
 refine hK.out _ _ hS ?_
 clear hK K
 refine mF (by kernel_rfl) ?_
 have z0:=aG bH.out 0 rfl
 have z1:=aG bH.out 1 rfl
 have hbl:=lt_of_block bH.out
 go_wp2
 refine bodyPost_ret (v:= .tuple #[.agg #[.slice x0 n y0, .slice u1 st2.length v1], .bool true]) (by simp[results,Tryz.results31,go_sem,z0,z1]) rfl ?_
 exact Jf (HF3.out.aH dR.out) HR.out bJ.out kD.out HP.out HB.out (by omega) (by have:=zL.out;have:=iM.out.2.2.2.2;omega) bU.out
open Go.RowKit
theorem aiY {L:Nat→Prop} {w:World} {b n:Nat} {vv sv:Value} {vis:List bY} {st:List bI} (h:lM L w b n vv sv vis st) (bf sh:Int) (q:aU) (hq:eF (fun k=>¬L k) w q) (hsz:Bf vis (st.getD (dG bf (st.map bI.id)).toNat default).part n):
 Calls Tryz.prog 31 #[.pointer (some ⟨b,0,none⟩), .agg #[vv,sv], .agg #[.int .u8 2, .int .i64 bf, .int .i64 sh,q.ev,q.kv,q.cv]] w (Bg L w b n (lV n bf vis st).2.1 (lV n bf vis st).2.2):=by
 have pG:=ah h.2
 have rX:=ah (show pJ L w b n vis st from h.1)
 have kD:=ah h.Ls
 obtain⟨x0,y0,x1,y1,rfl,rfl⟩:=h.2.shape
 obtain⟨b0,d0,b1,d1,b2,d2,k1,k2,k3⟩:=hq.at_.shape
 obtain⟨f3,g3,g0,g1,g2⟩:=oD w #[.slice x0 n y0, .slice x1 st.length y1] #[.int .u8 2, .int .i64 bf, .int .i64 sh, .slice b0 q.es.length d0, .slice b1 q.ks.len d1, .slice b2 q.c.length d2] #[.slice none 0 0, .slice none 0 0] 62 68 62
 obtain⟨W3,hW3⟩:∃W3,W3=(((w.alloc (.cells #[.slice x0 n y0, .slice x1 st.length y1] 62)).alloc (.cells #[.int .u8 2, .int .i64 bf, .int .i64 sh, .slice b0 q.es.length d0, .slice b1 q.ks.len d1, .slice b2 q.c.length d2] 68)).alloc (.cells #[.slice none 0 0, .slice none 0 0] 62)):=⟨_,rfl⟩
 rw[←hW3]at g0 g1 g2 g3 f3
 have HF3:=ah f3
 have sO:=ah (show Calls Tryz.prog 58 #[.agg #[.slice x0 n y0, .slice x1 st.length y1], .int .i64 bf] W3 _ from by
  have:=(pG.out.aS HF3.out).pub (fun k hk hl=>by have:=kD.out k hl;omega) bf hsz
  (try rw[k1,k2,k3]at this)
  exact this)
 have Bh:=ah (fun Y (f:aj aF w Y)=>(show Calls Tryz.prog 17 #[.pointer (some ⟨b,0,none⟩), .int .i64 bf] Y _ from by
  have:=(rX.out.aS f).pub bf hsz
  (try rw[k1,k2,k3]at this)
  exact this))
 rw[k1,k2,k3]
 clear k1 k2 k3 hq h pG rX hsz
 generalize st.length=m at*
 generalize (lV n bf vis st).1=fe at*
 generalize (lV n bf vis st).2.1=yF at*
 generalize (lV n bf vis st).2.2=st2 at*
 generalize q.es.length=m0 at*
 generalize q.ks.len=m1 at*
 generalize q.c.length=m2 at*
 clear q
 have HB0:=ah g0
 have HB1:=ah g1
 have HB2:=ah g2
 have iC:=ah g3
 have HW3:=ah hW3
 have s0:=aG g0 0 rfl
 have s1:=aG g0 1 rfl
 have q0:=aG g1 0 rfl
 have q1:=aG g1 1 rfl
 have q2:=aG g1 2 rfl
 have q3:=aG g1 3 rfl
 have q4:=aG g1 4 rfl
 have q5:=aG g1 5 rfl
 have hl0:=lt_of_block g0
 have hl1:=lt_of_block g1
 clear g0 g1 g2 g3 f3 hW3
 go_enter Tryz.func31,Tryz.ntmps31
 go_upto_region 1 with fail
 rw[←HW3.out]
 go_upto_region 13 with fail
 go_upto_region 14 with(go_at_call 58;refine sO.out.mono ?_;rintro e w4 ⟨mO,iQ,rfl,hr,hf4⟩;obtain⟨u0,v0,u1,v1,rfl,rfl⟩:=hr.shape;have HR:=ah hr;have dR:=ah hf4;clear hr hf4 s0 s1 q0 q1 q2 q3 q4 q5 sO)
 have eX:=ah (HF3.out.aH dR.out)
 have iM:=ah (⟨fun hl=>(by have:=kD.out _ hl;have:=dR.out.size;have:=HF3.out.size;omega),fun hl=>(by have:=kD.out _ hl;omega),fun hl=>(by have:=kD.out _ hl;omega),by have:=dR.out.size;have:=iC.out;omega,by have:=dR.out.size;have:=iC.out;omega⟩:¬L w4.heap.size∧¬L (w.heap.size+1)∧¬L (w.heap.size+1+1)∧w4.heap.size≠w.heap.size+1+1∧w.heap.size+1+1<w4.heap.size)
 have fa:=(aj.alloc aF w4 (.cells #[.slice u0 n v0, .slice u1 st2.length v1] 62)).aH (aj.drew aF _)
 have ba:=(aj.drew aF _).blk (heap_alloc_new w4 (.cells #[.slice u0 n v0, .slice u1 st2.length v1] 62)) id
 have hb1:=fa.blk (dR.out.blk HB1.out id) id
 have hb2:=fa.blk (dR.out.blk HB2.out id) id
 have dJ:=ah (fun N Y Y' (f:aj N Y Y') (hn:¬N w4.heap.size∧¬N (w.heap.size+1)) (hS:Y.cell? ⟨w4.heap.size,0,none⟩=some (.slice u0 n v0)∧Y.cell? ⟨w4.heap.size,1,none⟩=some (.slice u1 st2.length v1)∧Y.cell? ⟨w.heap.size+1,1,none⟩=some (.int .i64 bf))=>
  (⟨f.cell' hS.1 hn.1,f.cell' hS.2.1 hn.1,f.cell' hS.2.2 hn.2⟩:Y'.cell? ⟨w4.heap.size,0,none⟩=some (.slice u0 n v0)∧Y'.cell? ⟨w4.heap.size,1,none⟩=some (.slice u1 st2.length v1)∧Y'.cell? ⟨w.heap.size+1,1,none⟩=some (.int .i64 bf)))
 have dH:=(⟨aG ba 0 rfl,aG ba 1 rfl,aG hb1 1 rfl⟩:_∧_∧_)
 have bJ:=ah fa
 have gX:=ah hb2
 have zL:=ah fa.size
 clear fa ba hb1 hb2
 refine iq (S:=fun Y=>Y.cell? ⟨w4.heap.size,0,none⟩=some (.slice u0 n v0)∧Y.cell? ⟨w4.heap.size,1,none⟩=some (.slice u1 st2.length v1)∧Y.cell? ⟨w.heap.size+1,1,none⟩=some (.int .i64 bf)) 11 (by kernel_rfl) dH ?_
 clear dH
 intro hS
 generalize World.drew _=Y0 at*
 refine aY 0 105 rfl rfl ?_
 refine aY 1 106 rfl rfl ?_
 try simp only[Act.put,aO,aN,aJ]
 refine aY 2 107 rfl rfl ?_
 refine aY 3 108 rfl rfl ?_
 try simp only[Act.put,aO,aN,aJ]
 refine aY 5 110 rfl rfl ?_
 try simp only[Act.put,aO,aN,aJ]
 refine bg (i:=4) (by kernel_rfl) rfl (fun K hK=>?_)
 go_simp
 refine(Bh.out _ (eX.out.aH bJ.out)).mono ?_
 rintro e Y1 ⟨rfl,hp⟩
 have HP:=ah hp
 have HB:=ah (hp.aI.blk gX.out iM.out.2.2.1)
 have hS1:=dJ.out L _ _ hp.aI ⟨iM.out.1,iM.out.2.1⟩ hS
 refine hK.out _ _ hS1 ?_
 clear hK K hS hp
 have hS:=hS1
 clear hS1
 try simp only[Act.put,aO,aN,aJ]
 refine aY 6 111 rfl rfl ?_
 try simp only[Act.put,aO,aN,aJ]
 refine bg (i:=7) (by kernel_rfl) rfl (fun K hK=>?_)
 have z0:=aG HB.out 0 rfl
 have z1:=aG HB.out 1 rfl
 have e0:=aW HB.out 0
 have e1:=aW HB.out 1
 have hbl:=lt_of_block HB.out
 obtain⟨se,sf⟩:=zI HB.out (.slice u0 n v0) (.slice u1 st2.length v1)
 have bH:=ah se
 have bU:=ah sf
 clear se sf
 go_simp
 have hS1:=dJ.out _ _ _ bU.out ⟨iM.out.2.2.2.1,by omega⟩ hS
 refine hK.out _ _ hS1 ?_
 clear hK K hS z0 z1 e0 e1 hbl
 have hS:=hS1
 clear hS1
 try simp only[Act.put,aO,aN,aJ]
 refine bg (i:=8) (by kernel_rfl) rfl (fun K hK=>?_)
 go_simp
 refine hK.out _ _ hS ?_
 clear hK K
 refine mF (by kernel_rfl) ?_
 have z0:=aG bH.out 0 rfl
 have z1:=aG bH.out 1 rfl
 have hbl:=lt_of_block bH.out
 go_wp2
 refine bodyPost_ret (v:= .tuple #[.agg #[.slice u0 n v0, .slice u1 st2.length v1], .bool true]) (by simp[results,Tryz.results31,go_sem,z0,z1]) rfl ?_
 exact Jf eX.out HR.out bJ.out kD.out HP.out HB.out (by omega) (by have:=zL.out;have:=iM.out.2.2.2.2;omega) bU.out
open Go.RowKit
theorem aiZ {L:Nat→Prop} {w:World} {b n:Nat} {vv sv:Value} {vis:List bY} {st:List bI} (h:lM L w b n vv sv vis st) (bf sh:Int) (q:aU) (hq:eF (fun k=>¬L k) w q) (hok:iD q.es q.ks q.c):
 Calls Tryz.prog 31 #[.pointer (some ⟨b,0,none⟩), .agg #[vv,sv], .agg #[.int .u8 1, .int .i64 bf, .int .i64 sh,q.ev,q.kv,q.cv]] w (Bg L w b n vis (og n bf sh q st).2):=by
 have pG:=ah h.2
 have rX:=ah (show pJ L w b n vis st from h.1)
 have kD:=ah h.Ls
 obtain⟨x0,y0,x1,y1,rfl,rfl⟩:=h.2.shape
 obtain⟨b0,d0,b1,d1,b2,d2,k1,k2,k3⟩:=hq.at_.shape
 obtain⟨f3,g3,g0,g1,g2⟩:=oD w #[.slice x0 n y0, .slice x1 st.length y1] #[.int .u8 1, .int .i64 bf, .int .i64 sh, .slice b0 q.es.length d0, .slice b1 q.ks.len d1, .slice b2 q.c.length d2] #[.slice none 0 0, .slice none 0 0] 62 68 62
 obtain⟨W3,hW3⟩:∃W3,W3=(((w.alloc (.cells #[.slice x0 n y0, .slice x1 st.length y1] 62)).alloc (.cells #[.int .u8 1, .int .i64 bf, .int .i64 sh, .slice b0 q.es.length d0, .slice b1 q.ks.len d1, .slice b2 q.c.length d2] 68)).alloc (.cells #[.slice none 0 0, .slice none 0 0] 62)):=⟨_,rfl⟩
 rw[←hW3]at g0 g1 g2 g3 f3
 have HF3:=ah f3
 have sO:=ah (show Calls Tryz.prog 57 #[.agg #[.slice x0 n y0, .slice x1 st.length y1], .int .i64 bf, .int .i64 sh, .agg #[.slice b0 q.es.length d0, .slice b1 q.ks.len d1, .slice b2 q.c.length d2]] W3 _ from by
  have:=(pG.out.aS HF3.out).stage (fun k hk hl=>by have:=kD.out k hl;omega) q (hq.aS HF3.out) hok bf sh
  (try rw[k1,k2,k3]at this)
  exact this)
 have Bh:=ah (fun Y (f:aj aF w Y)=>(show Calls Tryz.prog 18 #[.pointer (some ⟨b,0,none⟩), .int .i64 bf, .int .i64 sh, .agg #[.slice b0 q.es.length d0, .slice b1 q.ks.len d1, .slice b2 q.c.length d2]] Y _ from by
  have:=(rX.out.aS f).stage q (hq.aS f) hok bf sh
  (try rw[k1,k2,k3]at this)
  exact this))
 rw[k1,k2,k3]
 clear k1 k2 k3 hq h pG rX hok
 generalize st.length=m at*
 generalize (og n bf sh q st).1=fe at*
 generalize (og n bf sh q st).2=st2 at*
 generalize q.es.length=m0 at*
 generalize q.ks.len=m1 at*
 generalize q.c.length=m2 at*
 clear q
 have HB0:=ah g0
 have HB1:=ah g1
 have HB2:=ah g2
 have iC:=ah g3
 have HW3:=ah hW3
 have s0:=aG g0 0 rfl
 have s1:=aG g0 1 rfl
 have q0:=aG g1 0 rfl
 have q1:=aG g1 1 rfl
 have q2:=aG g1 2 rfl
 have q3:=aG g1 3 rfl
 have q4:=aG g1 4 rfl
 have q5:=aG g1 5 rfl
 have hl0:=lt_of_block g0
 have hl1:=lt_of_block g1
 clear g0 g1 g2 g3 f3 hW3
 go_enter Tryz.func31,Tryz.ntmps31
 go_upto_region 1 with fail
 rw[←HW3.out]
 go_upto_region 10 with fail
 go_upto_region 11 with(go_at_call 57;refine sO.out.mono ?_;rintro e w4 ⟨iQ,rfl,hr,hf4⟩;obtain⟨-,-,u1,v1,-,rfl⟩:=hr.shape;have HR:=ah hr;have dR:=ah hf4;clear hr hf4 s0 s1 q0 q1 q2 q3 q4 q5 sO)
 have eX:=ah (HF3.out.aH dR.out)
 have iM:=ah (⟨fun hl=>(by have:=kD.out _ hl;have:=dR.out.size;have:=HF3.out.size;omega),fun hl=>(by have:=kD.out _ hl;omega),fun hl=>(by have:=kD.out _ hl;omega),by have:=dR.out.size;have:=iC.out;omega,by have:=dR.out.size;have:=iC.out;omega⟩:¬L w4.heap.size∧¬L (w.heap.size+1)∧¬L (w.heap.size+1+1)∧w4.heap.size≠w.heap.size+1+1∧w.heap.size+1+1<w4.heap.size)
 have fa:=(aj.alloc aF w4 (.cells #[.slice x0 n y0, .slice u1 st2.length v1] 62)).aH (aj.drew aF _)
 have ba:=(aj.drew aF _).blk (heap_alloc_new w4 (.cells #[.slice x0 n y0, .slice u1 st2.length v1] 62)) id
 have hb1:=fa.blk (dR.out.blk HB1.out id) id
 have hb2:=fa.blk (dR.out.blk HB2.out id) id
 have dJ:=ah (fun N Y Y' (f:aj N Y Y') (hn:¬N w4.heap.size∧¬N (w.heap.size+1)) (hS:Y.cell? ⟨w4.heap.size,0,none⟩=some (.slice x0 n y0)∧Y.cell? ⟨w4.heap.size,1,none⟩=some (.slice u1 st2.length v1)∧Y.cell? ⟨w.heap.size+1,1,none⟩=some (.int .i64 bf)∧Y.cell? ⟨w.heap.size+1,2,none⟩=some (.int .i64 sh)∧Y.cell? ⟨w.heap.size+1,3,none⟩=some (.slice b0 m0 d0)∧Y.cell? ⟨w.heap.size+1,4,none⟩=some (.slice b1 m1 d1)∧Y.cell? ⟨w.heap.size+1,5,none⟩=some (.slice b2 m2 d2))=>
  (⟨f.cell' hS.1 hn.1,f.cell' hS.2.1 hn.1,f.cell' hS.2.2.1 hn.2,f.cell' hS.2.2.2.1 hn.2,f.cell' hS.2.2.2.2.1 hn.2,f.cell' hS.2.2.2.2.2.1 hn.2,f.cell' hS.2.2.2.2.2.2 hn.2⟩:Y'.cell? ⟨w4.heap.size,0,none⟩=some (.slice x0 n y0)∧Y'.cell? ⟨w4.heap.size,1,none⟩=some (.slice u1 st2.length v1)∧Y'.cell? ⟨w.heap.size+1,1,none⟩=some (.int .i64 bf)∧Y'.cell? ⟨w.heap.size+1,2,none⟩=some (.int .i64 sh)∧Y'.cell? ⟨w.heap.size+1,3,none⟩=some (.slice b0 m0 d0)∧Y'.cell? ⟨w.heap.size+1,4,none⟩=some (.slice b1 m1 d1)∧Y'.cell? ⟨w.heap.size+1,5,none⟩=some (.slice b2 m2 d2)))
 have dH:=(⟨aG ba 0 rfl,aG ba 1 rfl,aG hb1 1 rfl,aG hb1 2 rfl,aG hb1 3 rfl,aG hb1 4 rfl,aG hb1 5 rfl⟩:_∧_∧_∧_∧_∧_∧_)
 have bJ:=ah fa
 have gX:=ah hb2
 have zL:=ah fa.size
 clear fa ba hb1 hb2
 refine iq (S:=fun Y=>Y.cell? ⟨w4.heap.size,0,none⟩=some (.slice x0 n y0)∧Y.cell? ⟨w4.heap.size,1,none⟩=some (.slice u1 st2.length v1)∧Y.cell? ⟨w.heap.size+1,1,none⟩=some (.int .i64 bf)∧Y.cell? ⟨w.heap.size+1,2,none⟩=some (.int .i64 sh)∧Y.cell? ⟨w.heap.size+1,3,none⟩=some (.slice b0 m0 d0)∧Y.cell? ⟨w.heap.size+1,4,none⟩=some (.slice b1 m1 d1)∧Y.cell? ⟨w.heap.size+1,5,none⟩=some (.slice b2 m2 d2)) 15 (by kernel_rfl) dH ?_
 clear dH
 intro hS
 generalize World.drew _=Y0 at*
 refine aY 0 85 rfl rfl ?_
 refine aY 1 86 rfl rfl ?_
 try simp only[Act.put,aO,aN,aJ]
 refine aY 2 87 rfl rfl ?_
 refine aY 3 88 rfl rfl ?_
 try simp only[Act.put,aO,aN,aJ]
 refine aY 4 89 rfl rfl ?_
 refine aY 5 90 rfl rfl ?_
 try simp only[Act.put,aO,aN,aJ]
 refine aY 6 91 rfl rfl ?_
 refine aY 7 92 rfl rfl ?_
 try simp only[Act.put,aO,aN,aJ]
 refine aY 9 94 rfl rfl ?_
 try simp only[Act.put,aO,aN,aJ]
 refine bg (i:=8) (by kernel_rfl) rfl (fun K hK=>?_)
 go_simp
 refine(Bh.out _ (eX.out.aH bJ.out)).mono ?_
 rintro e Y1 ⟨rfl,hp⟩
 have HP:=ah hp
 have HB:=ah (hp.aI.blk gX.out iM.out.2.2.1)
 have hS1:=dJ.out L _ _ hp.aI ⟨iM.out.1,iM.out.2.1⟩ hS
 refine hK.out _ _ hS1 ?_
 clear hK K hS hp
 have hS:=hS1
 clear hS1
 try simp only[Act.put,aO,aN,aJ]
 refine aY 10 95 rfl rfl ?_
 try simp only[Act.put,aO,aN,aJ]
 refine bg (i:=11) (by kernel_rfl) rfl (fun K hK=>?_)
 have z0:=aG HB.out 0 rfl
 have z1:=aG HB.out 1 rfl
 have e0:=aW HB.out 0
 have e1:=aW HB.out 1
 have hbl:=lt_of_block HB.out
 obtain⟨se,sf⟩:=zI HB.out (.slice x0 n y0) (.slice u1 st2.length v1)
 have bH:=ah se
 have bU:=ah sf
 clear se sf
 go_simp
 have hS1:=dJ.out _ _ _ bU.out ⟨iM.out.2.2.2.1,by omega⟩ hS
 refine hK.out _ _ hS1 ?_
 clear hK K hS z0 z1 e0 e1 hbl
 have hS:=hS1
 clear hS1
 try simp only[Act.put,aO,aN,aJ]
 refine bg (i:=12) (by kernel_rfl) rfl (fun K hK=>?_)
 go_simp
 refine hK.out _ _ hS ?_
 clear hK K
 refine mF (by kernel_rfl) ?_
 have z0:=aG bH.out 0 rfl
 have z1:=aG bH.out 1 rfl
 have hbl:=lt_of_block bH.out
 go_wp2
 refine bodyPost_ret (v:= .tuple #[.agg #[.slice x0 n y0, .slice u1 st2.length v1], .bool true]) (by simp[results,Tryz.results31,go_sem,z0,z1]) rfl ?_
 exact Jf eX.out HR.out bJ.out kD.out HP.out HB.out (by omega) (by have:=zL.out;have:=iM.out.2.2.2.2;omega) bU.out
open Go.RowKit
theorem ai0 {L:Nat→Prop} {w:World} {b n:Nat} {vv sv:Value} {vis:List bY} {st:List bI} (h:lM L w b n vv sv vis st) (k:Int) (hk0:k≠0) (hk1:k≠1) (hk2:k≠2) (hk3:k≠3) (bf sh:Int) (q:aU) (hq:eF (fun k=>¬L k) w q) (hok:iD q.es q.ks q.c) (hsz:∀j,j<n→dQ (vis.getD j dD)+dQ q.g≤2000∧(vis.getD j dD).2.length+q.c.length≤2000):
 Calls Tryz.prog 31 #[.pointer (some ⟨b,0,none⟩), .agg #[vv,sv], .agg #[.int .u8 k, .int .i64 bf, .int .i64 sh,q.ev,q.kv,q.cv]] w (Bg L w b n (qB n bf q vis st).2 st):=by
 have pG:=ah h.2
 have rX:=ah (show pJ L w b n vis st from h.1)
 have kD:=ah h.Ls
 obtain⟨x0,y0,x1,y1,rfl,rfl⟩:=h.2.shape
 obtain⟨b0,d0,b1,d1,b2,d2,k1,k2,k3⟩:=hq.at_.shape
 obtain⟨f3,g3,g0,g1,g2⟩:=oD w #[.slice x0 n y0, .slice x1 st.length y1] #[.int .u8 k, .int .i64 bf, .int .i64 sh, .slice b0 q.es.length d0, .slice b1 q.ks.len d1, .slice b2 q.c.length d2] #[.slice none 0 0, .slice none 0 0] 62 68 62
 obtain⟨W3,hW3⟩:∃W3,W3=(((w.alloc (.cells #[.slice x0 n y0, .slice x1 st.length y1] 62)).alloc (.cells #[.int .u8 k, .int .i64 bf, .int .i64 sh, .slice b0 q.es.length d0, .slice b1 q.ks.len d1, .slice b2 q.c.length d2] 68)).alloc (.cells #[.slice none 0 0, .slice none 0 0] 62)):=⟨_,rfl⟩
 rw[←hW3]at g0 g1 g2 g3 f3
 have HF3:=ah f3
 have sO:=ah (show Calls Tryz.prog 60 #[.agg #[.slice x0 n y0, .slice x1 st.length y1], .int .i64 bf, .agg #[.slice b0 q.es.length d0, .slice b1 q.ks.len d1, .slice b2 q.c.length d2]] W3 _ from by
  have:=(pG.out.aS HF3.out).inst (fun k hk hl=>by have:=kD.out k hl;omega) q (hq.aS HF3.out) hok bf hsz
  (try rw[k1,k2,k3]at this)
  exact this)
 have Bh:=ah (fun Y (f:aj aF w Y)=>(show Calls Tryz.prog 15 #[.pointer (some ⟨b,0,none⟩), .int .i64 bf, .agg #[.slice b0 q.es.length d0, .slice b1 q.ks.len d1, .slice b2 q.c.length d2]] Y _ from by
  have:=(rX.out.aS f).inst q (hq.aS f) hok bf hsz
  (try rw[k1,k2,k3]at this)
  exact this))
 rw[k1,k2,k3]
 clear k1 k2 k3 hq h pG rX hok hsz
 generalize st.length=m at*
 generalize (qB n bf q vis st).1=fe at*
 generalize (qB n bf q vis st).2=yF at*
 generalize q.es.length=m0 at*
 generalize q.ks.len=m1 at*
 generalize q.c.length=m2 at*
 clear q
 have HB0:=ah g0
 have HB1:=ah g1
 have HB2:=ah g2
 have iC:=ah g3
 have HW3:=ah hW3
 have s0:=aG g0 0 rfl
 have s1:=aG g0 1 rfl
 have q0:=aG g1 0 rfl
 have q1:=aG g1 1 rfl
 have q2:=aG g1 2 rfl
 have q3:=aG g1 3 rfl
 have q4:=aG g1 4 rfl
 have q5:=aG g1 5 rfl
 have hl0:=lt_of_block g0
 have hl1:=lt_of_block g1
 clear g0 g1 g2 g3 f3 hW3
 go_enter Tryz.func31,Tryz.ntmps31
 go_upto_region 1 with fail
 rw[←HW3.out]
 go_upto_region 18 with fail
 go_upto_region 19 with(go_at_call 60;refine sO.out.mono ?_;rintro e w4 ⟨mO,iQ,rfl,hr,hf4⟩;obtain⟨u0,v0,u1,v1,rfl,rfl⟩:=hr.shape;have HR:=ah hr;have dR:=ah hf4;clear s0 s1 q0 q1 q2 q3 q4 q5 hl0 hl1;have hb0:=hf4.blk HB0.out id;have s0:=aG hb0 0 rfl;have s1:=aG hb0 1 rfl;have e0:=aW hb0 0;have e1:=aW hb0 1;have hbl:=lt_of_block hb0;have hbx:=zI hb0 (.slice u0 n v0) (.slice u1 st.length v1);have bW:=ah hbx;have TP:=ah hb0;clear hr hf4 sO hb0 hbx)
 obtain⟨W5,FK⟩:∃W5,W5=(w4.setCell ⟨w.heap.size,0,none⟩ (.slice u0 n v0)).setCell ⟨w.heap.size,1,none⟩ (.slice u1 st.length v1):=⟨_,rfl⟩
 rw[←FK]at bW⊢
 clear FK
 have ai1:=dR.out.size
 have hsz3:=iC.out
 have eX:=ah ((HF3.out.aH dR.out).trans bW.out.2 fun k hk e=>by subst e;omega)
 have hr5:=HR.out.off (ru.of TP.out) bW.out.2
 clear HR
 have HR:=ah hr5
 have iM:=ah (⟨fun hl=>(by have:=kD.out _ hl;omega),fun hl=>(by have:=kD.out _ hl;omega),fun hl=>(by have:=kD.out _ hl;omega),by omega,by have:=bW.out.2.size;omega⟩:¬L w.heap.size∧¬L (w.heap.size+1)∧¬L (w.heap.size+1+1)∧w.heap.size≠w.heap.size+1+1∧w.heap.size+1+1<W5.heap.size)
 have fa:=aj.drew aF W5
 have ba:=fa.blk bW.out.1 id
 have hb1:=fa.blk (bW.out.2.blk (dR.out.blk HB1.out id) (by omega)) id
 have hb2:=fa.blk (bW.out.2.blk (dR.out.blk HB2.out id) (by omega)) id
 clear s0 s1 e0 e1 hbl hr5 ai1 hsz3
 have dJ:=ah (fun N Y Y' (f:aj N Y Y') (hn:¬N w.heap.size∧¬N (w.heap.size+1)) (hS:Y.cell? ⟨w.heap.size,0,none⟩=some (.slice u0 n v0)∧Y.cell? ⟨w.heap.size,1,none⟩=some (.slice u1 st.length v1)∧Y.cell? ⟨w.heap.size+1,1,none⟩=some (.int .i64 bf)∧Y.cell? ⟨w.heap.size+1,3,none⟩=some (.slice b0 m0 d0)∧Y.cell? ⟨w.heap.size+1,4,none⟩=some (.slice b1 m1 d1)∧Y.cell? ⟨w.heap.size+1,5,none⟩=some (.slice b2 m2 d2))=>
  (⟨f.cell' hS.1 hn.1,f.cell' hS.2.1 hn.1,f.cell' hS.2.2.1 hn.2,f.cell' hS.2.2.2.1 hn.2,f.cell' hS.2.2.2.2.1 hn.2,f.cell' hS.2.2.2.2.2 hn.2⟩:Y'.cell? ⟨w.heap.size,0,none⟩=some (.slice u0 n v0)∧Y'.cell? ⟨w.heap.size,1,none⟩=some (.slice u1 st.length v1)∧Y'.cell? ⟨w.heap.size+1,1,none⟩=some (.int .i64 bf)∧Y'.cell? ⟨w.heap.size+1,3,none⟩=some (.slice b0 m0 d0)∧Y'.cell? ⟨w.heap.size+1,4,none⟩=some (.slice b1 m1 d1)∧Y'.cell? ⟨w.heap.size+1,5,none⟩=some (.slice b2 m2 d2)))
 have dH:=(⟨aG ba 0 rfl,aG ba 1 rfl,aG hb1 1 rfl,aG hb1 3 rfl,aG hb1 4 rfl,aG hb1 5 rfl⟩:_∧_∧_∧_∧_∧_)
 have bJ:=ah fa
 have gX:=ah hb2
 have zL:=ah fa.size
 clear fa ba hb1 hb2
 refine iq (S:=fun Y=>Y.cell? ⟨w.heap.size,0,none⟩=some (.slice u0 n v0)∧Y.cell? ⟨w.heap.size,1,none⟩=some (.slice u1 st.length v1)∧Y.cell? ⟨w.heap.size+1,1,none⟩=some (.int .i64 bf)∧Y.cell? ⟨w.heap.size+1,3,none⟩=some (.slice b0 m0 d0)∧Y.cell? ⟨w.heap.size+1,4,none⟩=some (.slice b1 m1 d1)∧Y.cell? ⟨w.heap.size+1,5,none⟩=some (.slice b2 m2 d2)) 13 (by kernel_rfl) dH ?_
 clear dH
 intro hS
 generalize World.drew _=Y0 at*
 refine aY 0 137 rfl rfl ?_
 refine aY 1 138 rfl rfl ?_
 try simp only[Act.put,aO,aN,aJ]
 refine aY 2 139 rfl rfl ?_
 refine aY 3 140 rfl rfl ?_
 try simp only[Act.put,aO,aN,aJ]
 refine aY 4 141 rfl rfl ?_
 refine aY 5 142 rfl rfl ?_
 try simp only[Act.put,aO,aN,aJ]
 refine aY 7 144 rfl rfl ?_
 try simp only[Act.put,aO,aN,aJ]
 refine bg (i:=6) (by kernel_rfl) rfl (fun K hK=>?_)
 go_simp
 refine(Bh.out _ (eX.out.aH bJ.out)).mono ?_
 rintro e Y1 ⟨rfl,hp⟩
 have HP:=ah hp
 have HB:=ah (hp.aI.blk gX.out iM.out.2.2.1)
 have hS1:=dJ.out L _ _ hp.aI ⟨iM.out.1,iM.out.2.1⟩ hS
 refine hK.out _ _ hS1 ?_
 clear hK K hS hp
 have hS:=hS1
 clear hS1
 try simp only[Act.put,aO,aN,aJ]
 refine aY 8 145 rfl rfl ?_
 try simp only[Act.put,aO,aN,aJ]
 refine bg (i:=9) (by kernel_rfl) rfl (fun K hK=>?_)
 have z0:=aG HB.out 0 rfl
 have z1:=aG HB.out 1 rfl
 have e0:=aW HB.out 0
 have e1:=aW HB.out 1
 have hbl:=lt_of_block HB.out
 obtain⟨se,sf⟩:=zI HB.out (.slice u0 n v0) (.slice u1 st.length v1)
 have bH:=ah se
 have bU:=ah sf
 clear se sf
 go_simp
 have hS1:=dJ.out _ _ _ bU.out ⟨iM.out.2.2.2.1,by omega⟩ hS
 refine hK.out _ _ hS1 ?_
 clear hK K hS z0 z1 e0 e1 hbl
 have hS:=hS1
 clear hS1
 try simp only[Act.put,aO,aN,aJ]
 refine bg (i:=10) (by kernel_rfl) rfl (fun K hK=>?_)
 go_simp
 refine hK.out _ _ hS ?_
 clear hK K
 refine mF (by kernel_rfl) ?_
 have z0:=aG bH.out 0 rfl
 have z1:=aG bH.out 1 rfl
 have hbl:=lt_of_block bH.out
 go_wp2
 refine bodyPost_ret (v:= .tuple #[.agg #[.slice u0 n v0, .slice u1 st.length v1], .bool true]) (by simp[results,Tryz.results31,go_sem,z0,z1]) rfl ?_
 exact Jf eX.out HR.out bJ.out kD.out HP.out HB.out (by omega) (by have:=zL.out;have:=iM.out.2.2.2.2;omega) bU.out
open Go.RowKit
noncomputable def rY (n:Nat) (q:aU) (k:Int):Int×bY:=if jP n q.es q.ks q.c k=true then(0,(bF (bQ n k) q.ks,q.c))else(1,dD)
def Bj (t:bY):aU:=⟨[],t.1,t.2, .slice none 0 0, .slice none 0 0, .slice none 0 0⟩
theorem aal {n:Nat} {q:aU} {k:Int} (hok:iD q.es q.ks q.c):Good (rY n q k).2:=by
 unfold rY
 split
 ·rename_i hm
  obtain⟨_,hr,he⟩:=vO.1 hm
  exact Ar _ (t:=(q.ks,q.c)) ⟨he▸hok,he▸hr⟩
 ·exact Ap
theorem aam {n:Nat} {q:aU} {k:Int}:dQ (rY n q k).2≤dQ q.g∧(rY n q k).2.2.length≤q.c.length:=by
 unfold rY
 split
 ·exact⟨Aq _ _,Nat.le_refl _⟩
 ·exact⟨Nat.zero_le _,Nat.zero_le _⟩
theorem aan {n:Nat} {x k:Int} {q:aU} {t:bY} {st:List bI} (he:q.es=[]) (hg:q.g=t):og n x k q st=og n x k (Bj t) st:=by
 obtain⟨es,ks,c,ev,kv,cv⟩:=q
 obtain rfl:es=[]:=he
 subst hg
 rfl
section
variable {L Q:Nat→Prop} {w:World} {b n:Nat} {vv sv:Value} {vis:List bY} {st:List bI}
theorem aao (Q:Nat→Prop) (w:World):eF Q w (Bj dD):=Ir Q w
theorem pJ.part (h:pJ L w b n vis st) (q:aU) (hq:eF (fun k=>¬L k) w q) (hok:iD q.es q.ks q.c) (k:Int):
 Calls Tryz.prog 16 #[.pointer (some ⟨b,0,none⟩), .agg #[q.ev,q.kv,q.cv], .int .i64 k] w fun e w'=>∃q':aU,e= .returned (.tuple #[.agg #[q'.ev,q'.kv,q'.cv], .int .i64 (rY n q k).1])∧q'.es=[]∧q'.g=(rY n q k).2∧eF (fun j=>¬L j) w' q'∧aj aF w w':=by
 obtain⟨vb,jo,vs,rs,h,rfl,rfl⟩:=h
 unfold rY
 by_cases hm:jP n q.es q.ks q.c k=true
 ·rw[if_pos hm]
  obtain⟨⟨h0,h1⟩,hr,he⟩:=vO.1 hm
  obtain⟨j,rfl⟩:∃j:Nat,k=j:=⟨k.toNat,by omega⟩
  obtain⟨es,ks,c,ev,kv,cv⟩:=q
  obtain rfl:es=[]:=he
  refine(Qi _ ks c w ev kv cv hq.at_ hok hr b n n _ j (by omega) h.mX).mono fun e w' ⟨kv',jI,he,ht,ho⟩=>?_
  refine⟨⟨[],_,c,_,kv',jI⟩,he,rfl,rfl,⟨ht.turn fun i _ hi=>⟨rfl,fun hl=>?_⟩,ho.rd,fun _ i hi hl=>?_⟩,ho.aI⟩
  ·have:=h.Ls i hl;omega
  ·have:=h.Ls i hl;have:=ho.new i hi;omega
 ·rw[if_neg hm]
  refine(YN h _ q.es q.ks q.c q.ev q.kv q.cv hq.at_ hok k (by simpa using hm)).mono fun e w' ⟨he,hf⟩=>⟨Bj dD,he,rfl,rfl,aao _ _,hf⟩
theorem kR.part (h:kR Q w n vv sv vis st) (hQ:∀k,w.heap.size≤k→Q k) (q:aU) (hq:eF Q w q) (hok:iD q.es q.ks q.c) (k:Int):
 Calls Tryz.prog 56 #[.agg #[vv,sv], .agg #[q.ev,q.kv,q.cv], .int .i64 k] w fun e w'=>∃q':aU,e= .returned (.tuple #[.agg #[q'.ev,q'.kv,q'.cv], .int .i64 (rY n q k).1])∧q'.es=[]∧q'.g=(rY n q k).2∧eF Q w' q'∧aj aF w w':=by
 obtain⟨vs,rs,h,rfl,rfl⟩:=h
 obtain⟨a,c0,a',c0',rfl,rfl⟩:=h.shape
 unfold rY
 by_cases hm:jP n q.es q.ks q.c k=true
 ·rw[if_pos hm]
  obtain⟨_,hr,he⟩:=vO.1 hm
  obtain⟨es,ks,c,ev,kv,cv⟩:=q
  obtain rfl:es=[]:=he
  refine(RJ Q n h.n4 _ _ _ _ _ w ks c ev kv cv hq.at_ ⟨hok,hr⟩ k hm).mono fun e w' ⟨ev',kv',he,ht,hf⟩=>?_
  exact⟨⟨[],_,c,ev',kv',cv⟩,he,rfl,rfl,⟨ht.turn fun i _ hi=>⟨rfl,hQ i hi⟩,(hq.aS hf).ctx⟩,hf⟩
 ·rw[if_neg hm]
  refine(YM Q n h.n4 _ _ _ _ _ w q.es q.ks q.c q.ev q.kv q.cv hq.at_ hok k (by simpa using hm)).mono fun e w' ⟨he,hf⟩=>⟨Bj dD,he,rfl,rfl,aao _ _,hf⟩
end
theorem ai2 {L:Nat→Prop} {w:World} {b n:Nat} {vv sv:Value} {vis:List bY} {st:List bI} (h:lM L w b n vv sv vis st) (bf sh:Int) (q:aU) (hq:eF (fun k=>¬L k) w q) (hok:iD q.es q.ks q.c):
 Calls Tryz.prog 31 #[.pointer (some ⟨b,0,none⟩), .agg #[vv,sv], .agg #[.int .u8 0, .int .i64 bf, .int .i64 sh,q.ev,q.kv,q.cv]] w (Bg L w b n vis (og n bf sh (Bj (rY n q sh).2) st).2):=by
 have pG:=ah h.2
 have rX:=ah (show pJ L w b n vis st from h.1)
 have kD:=ah h.Ls
 obtain⟨x0,y0,x1,y1,rfl,rfl⟩:=h.2.shape
 obtain⟨b0,d0,b1,d1,b2,d2,k1,k2,k3⟩:=hq.at_.shape
 obtain⟨f3,g3,g0,g1,g2⟩:=oD w #[.slice x0 n y0, .slice x1 st.length y1] #[.int .u8 0, .int .i64 bf, .int .i64 sh, .slice b0 q.es.length d0, .slice b1 q.ks.len d1, .slice b2 q.c.length d2] #[.slice none 0 0, .slice none 0 0] 62 68 62
 obtain⟨W3,hW3⟩:∃W3,W3=(((w.alloc (.cells #[.slice x0 n y0, .slice x1 st.length y1] 62)).alloc (.cells #[.int .u8 0, .int .i64 bf, .int .i64 sh, .slice b0 q.es.length d0, .slice b1 q.ks.len d1, .slice b2 q.c.length d2] 68)).alloc (.cells #[.slice none 0 0, .slice none 0 0] 62)):=⟨_,rfl⟩
 rw[←hW3]at g0 g1 g2 g3 f3
 have HF3:=ah f3
 have TQ:=ah (fun Y (f:aj aF w Y) k (hk:Y.heap.size≤k)=>(show ¬L k from fun hl=>by have:=kD.out k hl;have:=f.size;omega))
 have xU:=ah (fun Y (f:aj aF w Y)=>(show Calls Tryz.prog 16 #[.pointer (some ⟨b,0,none⟩), .agg #[.slice b0 q.es.length d0, .slice b1 q.ks.len d1, .slice b2 q.c.length d2], .int .i64 sh] Y _ from by
  have:=(rX.out.aS f).part q (hq.aS f) hok sh
  (try rw[k1,k2,k3]at this)
  exact this))
 have HRP:=ah (fun Y (f:aj aF w Y)=>(show Calls Tryz.prog 56 #[.agg #[.slice x0 n y0, .slice x1 st.length y1], .agg #[.slice b0 q.es.length d0, .slice b1 q.ks.len d1, .slice b2 q.c.length d2], .int .i64 sh] Y _ from by
  have:=(pG.out.aS f).part (TQ.out Y f) q (hq.aS f) hok sh
  (try rw[k1,k2,k3]at this)
  exact this))
 have TR:=ah (aal (n:=n) (q:=q) (k:=sh) hok)
 rw[k1,k2,k3]
 clear k1 k2 k3 hq h
 generalize (rY n q sh).1=fp at*
 generalize (rY n q sh).2=tp at*
 have lq:=ah (fun Y (f:aj aF w Y) q' (he:q'.es=[]) (hg:q'.g=tp) (TS:eF (fun k=>¬L k) Y q')=>(show Calls Tryz.prog 57 #[.agg #[.slice x0 n y0, .slice x1 st.length y1], .int .i64 bf, .int .i64 sh, .agg #[q'.ev,q'.kv,q'.cv]] Y _ from by
  have:=(pG.out.aS f).stage (TQ.out Y f) q' TS (by have:=TR.out.ok;rw[←hg]at this;rw[he];exact this) bf sh
  rw[aan he hg]at this
  exact this))
 have HPS:=ah (fun Y (f:aj aF w Y) q' (he:q'.es=[]) (hg:q'.g=tp) (TS:eF (fun k=>¬L k) Y q')=>(show Calls Tryz.prog 18 #[.pointer (some ⟨b,0,none⟩), .int .i64 bf, .int .i64 sh, .agg #[q'.ev,q'.kv,q'.cv]] Y _ from by
  have:=(rX.out.aS f).stage q' TS (by have:=TR.out.ok;rw[←hg]at this;rw[he];exact this) bf sh
  rw[aan he hg]at this
  exact this))
 clear pG rX hok TQ
 generalize st.length=m at*
 generalize (og n bf sh (Bj tp) st).1=fe at*
 generalize (og n bf sh (Bj tp) st).2=st2 at*
 generalize q.es.length=m0 at*
 generalize q.ks.len=m1 at*
 generalize q.c.length=m2 at*
 clear q
 have HB0:=ah g0
 have HB1:=ah g1
 have HB2:=ah g2
 have iC:=ah g3
 have HW3:=ah hW3
 have q0:=aG g1 0 rfl
 have q2:=aG g1 2 rfl
 have q3:=aG g1 3 rfl
 have q4:=aG g1 4 rfl
 have q5:=aG g1 5 rfl
 have hl1:=lt_of_block g1
 clear g0 g1 g2 g3 f3 hW3
 go_enter Tryz.func31,Tryz.ntmps31
 go_upto_region 1 with fail
 rw[←HW3.out]
 go_upto_region 4 with(go_at_call 16;refine(xU.out _ HF3.out).mono ?_;rintro e w4 ⟨qx,rfl,he1,hg1,TT,hf4⟩;obtain⟨es1,Bl,c1,ev1,wP,Fv⟩:=qx;obtain rfl:es1=[]:=he1;obtain⟨i0,j0,i1,j1,i2,j2,rfl,rfl,rfl⟩:=(show dU (fun k=>¬L k) w4 ev1 wP Fv [] Bl c1 from TT.at_).shape;have Lc:=ah hg1;have aar:=ah TT;have dR:=ah hf4;clear hg1 TT hf4 q0 q2 q3 q4 q5 hl1 xU)
 obtain⟨W4,FI⟩:∃W4,W4=w4.alloc (.cells #[.slice i0 0 j0, .slice i1 Bl.len j1, .slice i2 c1.length j2] 32):=⟨_,rfl⟩
 have hfa:=aj.alloc aF w4 (.cells #[.slice i0 0 j0, .slice i1 Bl.len j1, .slice i2 c1.length j2] 32)
 have hba:=heap_alloc_new w4 (.cells #[.slice i0 0 j0, .slice i1 Bl.len j1, .slice i2 c1.length j2] 32)
 rw[←FI]at hfa hba
 have aas:=ah (HF3.out.aH (dR.out.aH hfa))
 have TU:=ah hba
 have hb1:=hfa.blk (dR.out.blk HB1.out id) id
 have hb0:=hfa.blk (dR.out.blk HB0.out id) id
 have TP:=ah hb0
 have aat:=ah hb1
 have ai3:=ah (hfa.blk (dR.out.blk HB2.out id) id)
 have aau:=ah (aar.out.aS hfa)
 have s0:=aG hb0 0 rfl
 have s1:=aG hb0 1 rfl
 have q2:=aG hb1 2 rfl
 have q3:=aG hb1 3 rfl
 have q4:=aG hb1 4 rfl
 have q5:=aG hb1 5 rfl
 have hl0:=lt_of_block hb0
 have hl1:=lt_of_block hb1
 have QI:=ah FI
 have ai4:=ah (show w.heap.size+1+1<w4.heap.size from by have:=dR.out.size;have:=iC.out;omega)
 clear hfa hba hb0 hb1 FI aar
 rw[←QI.out]
 go_upto_region 5 with(go_at_call 56;refine(HRP.out _ aas.out).mono ?_;rintro e w5 ⟨qx,rfl,he2,hg2,TV,hf5⟩;obtain⟨es2,Ji,c2,Fa,AP,Gp⟩:=qx;obtain rfl:es2=[]:=he2;obtain⟨e0,f0,e1,f1,e2,f2,rfl,rfl,rfl⟩:=(show dU (fun k=>¬L k) w5 Fa AP Gp [] Ji c2 from TV.at_).shape;have HG2:=ah hg2;have aav:=ah TV;have iV:=ah hf5;clear hg2 TV hf5 s0 s1 q2 q3 q4 q5 hl0 hl1 HRP)
 obtain⟨W5,FK⟩:∃W5,W5=w5.alloc (.cells #[.slice e0 0 f0, .slice e1 Ji.len f1, .slice e2 c2.length f2] 32):=⟨_,rfl⟩
 have hfa:=aj.alloc aF w5 (.cells #[.slice e0 0 f0, .slice e1 Ji.len f1, .slice e2 c2.length f2] 32)
 have hba:=heap_alloc_new w5 (.cells #[.slice e0 0 f0, .slice e1 Ji.len f1, .slice e2 c2.length f2] 32)
 rw[←FK]at hfa hba
 have zG:=ah (iV.out.aH hfa)
 have ai5:=ah hba
 have hcb:=zG.out.blk TU.out id
 have z0:=aG hcb 0 rfl
 have z1:=aG hcb 1 rfl
 have z2:=aG hcb 2 rfl
 have z3:=aG hba 0 rfl
 have z4:=aG hba 1 rfl
 have z5:=aG hba 2 rfl
 have hl0:=lt_of_block hcb
 have hl1:=lt_of_block hba
 have aaw:=ah (aav.out.aS hfa)
 have lS:=ah (show Calls Tryz.prog 19 #[.agg #[.slice i0 0 j0, .slice i1 Bl.len j1, .slice i2 c1.length j2], .agg #[.slice e0 0 f0, .slice e1 Ji.len f1, .slice e2 c2.length f2]] W5 fun e w'=>e= .returned (.bool true)∧aj aF W5 w' from
  LZ _ _ tp W5 _ _ _ _ _ _ TR.out (by have:=(aau.out.aS zG.out).at_;rw[←Lc.out];exact this) (by have:=aaw.out.at_;rw[←HG2.out];exact this))
 have HW5:=ah FK
 clear hfa hba hcb FK aav
 rw[←HW5.out]
 go_upto_region 7 with(go_at_call 19;refine lS.out.mono ?_;rintro e w6 ⟨rfl,jO⟩;have HF6:=ah jO;clear jO z0 z1 z2 z3 z4 z5 hl0 hl1 lS)
 have hb0:=HF6.out.blk (zG.out.blk TP.out id) id
 have hb1:=HF6.out.blk (zG.out.blk aat.out id) id
 have hxb:=HF6.out.blk ai5.out id
 have s0:=aG hb0 0 rfl
 have s1:=aG hb0 1 rfl
 have q1:=aG hb1 1 rfl
 have q2:=aG hb1 2 rfl
 have z3:=aG hxb 0 rfl
 have z4:=aG hxb 1 rfl
 have z5:=aG hxb 2 rfl
 have hl0:=lt_of_block hb0
 have hl1:=lt_of_block hb1
 have hl2:=lt_of_block hxb
 have aax:=ah (aas.out.aH (zG.out.aH HF6.out))
 have qM:=ah (lq.out w6 aax.out _ rfl HG2.out (aaw.out.aS HF6.out))
 clear hb0 hb1 hxb lq
 go_upto_region 8 with(go_at_call 57;refine qM.out.mono ?_;rintro e w7 ⟨iQ,rfl,hr,gV⟩;obtain⟨-,-,u1,v1,-,rfl⟩:=hr.shape;have HR:=ah hr;have oJ:=ah gV;clear hr gV s0 s1 q1 q2 z3 z4 z5 hl0 hl1 hl2 qM)
 have eX:=ah (aax.out.aH oJ.out)
 have FM:=zG.out.aH (HF6.out.aH oJ.out)
 have hcbl:=lt_of_block TU.out
 have hsw:=ai4.out
 have uI:=FM.size
 have iM:=ah (⟨fun hl=>(by have:=kD.out _ hl;omega),fun hl=>(by have:=kD.out _ hl;omega),fun hl=>(by have:=kD.out _ hl;omega),fun hl=>(by have:=kD.out _ hl;omega),by omega,by omega,by omega⟩:¬L w7.heap.size∧¬L (w.heap.size+1)∧¬L (w.heap.size+1+1)∧¬L w4.heap.size∧w7.heap.size≠w.heap.size+1+1∧w4.heap.size≠w.heap.size+1+1∧w.heap.size+1+1<w7.heap.size)
 have fa:=(aj.alloc aF w7 (.cells #[.slice x0 n y0, .slice u1 st2.length v1] 62)).aH (aj.drew aF _)
 have ba:=(aj.drew aF _).blk (heap_alloc_new w7 (.cells #[.slice x0 n y0, .slice u1 st2.length v1] 62)) id
 have hb1:=fa.blk (FM.blk aat.out id) id
 have hb2:=fa.blk (FM.blk ai3.out id) id
 have hcb:=fa.blk (FM.blk TU.out id) id
 have dJ:=ah (fun N Y Y' (f:aj N Y Y') (hn:¬N w7.heap.size∧¬N (w.heap.size+1)∧¬N w4.heap.size) (hS:Y.cell? ⟨w7.heap.size,0,none⟩=some (.slice x0 n y0)∧Y.cell? ⟨w7.heap.size,1,none⟩=some (.slice u1 st2.length v1)∧Y.cell? ⟨w.heap.size+1,1,none⟩=some (.int .i64 bf)∧Y.cell? ⟨w.heap.size+1,2,none⟩=some (.int .i64 sh)∧Y.cell? ⟨w4.heap.size,0,none⟩=some (.slice i0 0 j0)∧Y.cell? ⟨w4.heap.size,1,none⟩=some (.slice i1 Bl.len j1)∧Y.cell? ⟨w4.heap.size,2,none⟩=some (.slice i2 c1.length j2))=>
  (⟨f.cell' hS.1 hn.1,f.cell' hS.2.1 hn.1,f.cell' hS.2.2.1 hn.2.1,f.cell' hS.2.2.2.1 hn.2.1,f.cell' hS.2.2.2.2.1 hn.2.2,f.cell' hS.2.2.2.2.2.1 hn.2.2,f.cell' hS.2.2.2.2.2.2 hn.2.2⟩:Y'.cell? ⟨w7.heap.size,0,none⟩=some (.slice x0 n y0)∧Y'.cell? ⟨w7.heap.size,1,none⟩=some (.slice u1 st2.length v1)∧Y'.cell? ⟨w.heap.size+1,1,none⟩=some (.int .i64 bf)∧Y'.cell? ⟨w.heap.size+1,2,none⟩=some (.int .i64 sh)∧Y'.cell? ⟨w4.heap.size,0,none⟩=some (.slice i0 0 j0)∧Y'.cell? ⟨w4.heap.size,1,none⟩=some (.slice i1 Bl.len j1)∧Y'.cell? ⟨w4.heap.size,2,none⟩=some (.slice i2 c1.length j2)))
 have dH:=(⟨aG ba 0 rfl,aG ba 1 rfl,aG hb1 1 rfl,aG hb1 2 rfl,aG hcb 0 rfl,aG hcb 1 rfl,aG hcb 2 rfl⟩:_∧_∧_∧_∧_∧_∧_)
 have bJ:=ah fa
 have gX:=ah hb2
 have zL:=ah fa.size
 have BM:=ah (HPS.out _ (eX.out.aH fa) _ rfl Lc.out (aau.out.aS (FM.aH fa)))
 clear fa ba hb1 hb2 hcb FM hcbl hsw uI HPS
 refine iq (S:=fun Y=>Y.cell? ⟨w7.heap.size,0,none⟩=some (.slice x0 n y0)∧Y.cell? ⟨w7.heap.size,1,none⟩=some (.slice u1 st2.length v1)∧Y.cell? ⟨w.heap.size+1,1,none⟩=some (.int .i64 bf)∧Y.cell? ⟨w.heap.size+1,2,none⟩=some (.int .i64 sh)∧Y.cell? ⟨w4.heap.size,0,none⟩=some (.slice i0 0 j0)∧Y.cell? ⟨w4.heap.size,1,none⟩=some (.slice i1 Bl.len j1)∧Y.cell? ⟨w4.heap.size,2,none⟩=some (.slice i2 c1.length j2)) 14 (by kernel_rfl) dH ?_
 clear dH
 intro hS
 generalize World.drew _=Y0 at*
 refine aY 0 62 rfl rfl ?_
 refine aY 1 63 rfl rfl ?_
 try simp only[Act.put,aO,aN,aJ]
 refine aY 2 64 rfl rfl ?_
 refine aY 3 65 rfl rfl ?_
 try simp only[Act.put,aO,aN,aJ]
 refine aY 4 66 rfl rfl ?_
 refine aY 5 67 rfl rfl ?_
 try simp only[Act.put,aO,aN,aJ]
 refine aY 6 68 rfl rfl ?_
 refine aY 8 70 rfl rfl ?_
 try simp only[Act.put,aO,aN,aJ]
 refine bg (i:=7) (by kernel_rfl) rfl (fun K hK=>?_)
 go_simp
 refine BM.out.mono ?_
 rintro e Y1 ⟨rfl,hp⟩
 have HP:=ah hp
 have HB:=ah (hp.aI.blk gX.out iM.out.2.2.1)
 have hS1:=dJ.out L _ _ hp.aI ⟨iM.out.1,iM.out.2.1,iM.out.2.2.2.1⟩ hS
 refine hK.out _ _ hS1 ?_
 clear hK K hS hp
 have hS:=hS1
 clear hS1
 try simp only[Act.put,aO,aN,aJ]
 refine aY 9 71 rfl rfl ?_
 try simp only[Act.put,aO,aN,aJ]
 refine bg (i:=10) (by kernel_rfl) rfl (fun K hK=>?_)
 have z0:=aG HB.out 0 rfl
 have z1:=aG HB.out 1 rfl
 have e0:=aW HB.out 0
 have e1:=aW HB.out 1
 have hbl:=lt_of_block HB.out
 obtain⟨se,sf⟩:=zI HB.out (.slice x0 n y0) (.slice u1 st2.length v1)
 have bH:=ah se
 have bU:=ah sf
 clear se sf
 go_simp
 have hS1:=dJ.out _ _ _ bU.out ⟨iM.out.2.2.2.2.1,by omega,iM.out.2.2.2.2.2.1⟩ hS
 refine hK.out _ _ hS1 ?_
 clear hK K hS z0 z1 e0 e1 hbl
 have hS:=hS1
 clear hS1
 try simp only[Act.put,aO,aN,aJ]
 refine bg (i:=11) (by kernel_rfl) rfl (fun K hK=>?_)
 go_simp
 refine hK.out _ _ hS ?_
 clear hK K
 refine mF (by kernel_rfl) ?_
 have z0:=aG bH.out 0 rfl
 have z1:=aG bH.out 1 rfl
 have hbl:=lt_of_block bH.out
 go_wp2
 refine bodyPost_ret (v:= .tuple #[.agg #[.slice x0 n y0, .slice u1 st2.length v1], .bool true]) (by simp[results,Tryz.results31,go_sem,z0,z1]) rfl ?_
 exact Jf eX.out HR.out bJ.out kD.out HP.out HB.out (by omega) (by have:=zL.out;have:=iM.out.2.2.2.2.2.2;omega) bU.out
open Go.RowKit
theorem ai7:Z':=by
 intro L w b n a vv sv vis st A h hg ha hk hq hok hs hc
 obtain⟨k,bf,sh,q⟩:=A
 have hn1:1≤n:=by obtain⟨⟨vb,jo,vs,rs,h,_⟩,_⟩:=h;exact h.n1
 have hn4:n≤4:=by obtain⟨⟨vb,jo,vs,rs,h,_⟩,_⟩:=h;exact h.n4
 by_cases h0:k=0
 ·subst h0
  refine⟨_,_,hg.ZW bf sh (Bj (rY n q sh).2) (aal hok).ok ?_ ?_,ai2 h bf sh q hq hok⟩
  ·exact Nat.le_trans aam.1 hs
  ·exact Nat.le_trans aam.2 hc
 by_cases h1:k=1
 ·subst h1
  exact⟨_,_,hg.ZW bf sh q hok hs hc,aiZ h bf sh q hq hok⟩
 by_cases h2:k=2
 ·subst h2
  exact⟨_,_,hg.pub hn1 ha bf,aiY h bf sh q hq (hg.ZV ha _)⟩
 by_cases h3:k=3
 ·subst h3
  exact⟨_,_,hg.drop bf,aiX h bf sh q hq⟩
 exact⟨_,_,hg.inst hn1 hn4 ha bf q hok hs hc,ai0 h k h0 h1 h2 h3 bf sh q hq hok (hg.ait ha hs hc)⟩
end Go.Proofs.YtlhmbkjdfjoilaaGreat
