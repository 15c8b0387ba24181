/- Words for the law MsgSame: MsgSameL. -/
import Derived.Test.YtabkpccdnkjoiaaGreatMsgSameG0
import Derived.Test.YtabkpccdnkjoiaaGreatMsgSameG23
import Derived.Test.YtabkpccdnkjoiaaGreatMsgSameG34
import Derived.Test.YtabkpccdnkjoiaaGreatMsgSameG35
import Derived.Test.YtabkpccdnkjoiaaGreatMsgSameG37
import Derived.Test.YtabkpccdnkjoiaaGreatMsgSameG38
set_option linter.unusedSimpArgs false
set_option linter.unusedVariables false
set_option maxHeartbeats 32000000
set_option maxRecDepth 1000000
namespace Go.Proofs.YtabkpccdnkjoiaaGreat
open Go.RowKit
def aci (w:World) (e:Ending) (w':World):Prop:=∃a n c k,e= .returned (.tuple #[.slice a n c, .int .i64 k])∧aj ay w w'
theorem TL (Q:Nat→Prop) (m:bF) (ps:List aY) (w:World) (lv ev kv cv:Value) (h:iP Q w m ps lv ev kv cv) (hok:lq m) (hl:m.right→m.enc.length≤60000):Calls Tryz.prog 17 #[m.ag lv ev kv cv] w (aci w):=by
 by_cases hr:m.right
 ·exact(Gv Q m ps w lv ev kv cv h hok hr (hl hr)).mono fun e w' ⟨a,c,t,_,he,hc⟩=>⟨a,_,c,_,he,hc.aP⟩
 ·exact(Ls Q m ps w lv ev kv cv h hok hr).mono fun e w' ⟨he,hf⟩=>⟨_,_,_,_,he,hf⟩
theorem acj {a b:bF} (ha:a.right) (hb:b.right) (la:a.enc.length≤60000) (lb:b.enc.length≤60000) (h:bC.jM a.enc=bC.jM b.enc):a=b:=
 QE ha hb (by rw[←(bC.Kw la).2,←(bC.Kw lb).2,h])
theorem acn {x y:List UInt8} (h:x≠y):¬(⟨x.toArray⟩:ByteArray).toList=(⟨y.toArray⟩:ByteArray).toList:=by
 rw[ByteArray.toList_eq,ByteArray.toList_eq]
 intro e
 exact h (by simpa using e)
theorem aco (w:World) (va vb:Value) (ha:zo w va) (hb:zo w vb) (hs:∀m ps lv ev kv cv m' qs jc ev' kv' cv',va=bF.ag m lv ev kv cv→iP (fun _=>True) w m ps lv ev kv cv→Dl m→vb=bF.ag m' jc ev' kv' cv'→iP (fun _=>True) w m' qs jc ev' kv' cv'→Dl m'→m.small=true→m'.small=true→Calls Tryz.prog 4 #[va,vb] w fun e w'=>e= .returned (.bool true)∧aj (fun _=>False) w w'):Calls Tryz.prog 4 #[va,vb] w fun e w'=>e= .returned (.bool true)∧aj (fun _=>False) w w':=by
 obtain⟨m,ps,lv,ev,kv,cv,rfl,hat,hfit⟩:=ha.out
 obtain⟨m',qs,jc,ev',kv',cv',rfl,qy,yt⟩:=hb.out
 have hs':=hs m ps lv ev kv cv m' qs jc ev' kv' cv' rfl hat hfit rfl qy yt
 clear hs
 have HA:=ah Tn
 have jO:=ah (fun W (f:aj ay w W)=>GH m ps W lv ev kv cv (hat.aO f) hfit)
 have wP:=ah (fun W (f:aj ay w W)=>GH m' qs W jc ev' kv' cv' (qy.aO f) yt)
 obtain⟨a0,c0,a1,c1,a2,c2,rfl,rfl,rfl⟩:=hat.dD.shape
 obtain⟨al,cl,rfl⟩:=hat.bs.rd.sl
 obtain⟨b0,d0,b1,d1,b2,d2,rfl,rfl,rfl⟩:=qy.dD.shape
 obtain⟨bl,dl,rfl⟩:=qy.bs.rd.sl
 have aU:=ah (show aj ay w ((w.alloc (.cells #[.int .i64 m.kind, .int .i64 m.fr, .int .i64 m.tt, .int .i64 m.v0, .int .i64 m.v1, .int .i64 m.v2, .int .i64 m.v3, .slice al ps.length cl, .slice a0 m.es.length c0, .slice a1 m.ks.len c1, .slice a2 m.c.length c2] 42)).alloc (.cells #[.int .i64 m'.kind, .int .i64 m'.fr, .int .i64 m'.tt, .int .i64 m'.v0, .int .i64 m'.v1, .int .i64 m'.v2, .int .i64 m'.v3, .slice bl qs.length dl, .slice b0 m'.es.length d0, .slice b1 m'.ks.len d1, .slice b2 m'.c.length d2] 42))from(aj.alloc _ _ _).au (aj.alloc _ _ _))
 have aQ:=ah (fun W f=>L_ w (.int .i64 m.kind) (.int .i64 m.fr) (.int .i64 m.tt) (.int .i64 m.v0) (.int .i64 m.v1) (.int .i64 m.v2) (.int .i64 m.v3) (.slice al ps.length cl) (.slice a0 m.es.length c0) (.slice a1 m.ks.len c1) (.slice a2 m.c.length c2) (.int .i64 m'.kind) (.int .i64 m'.fr) (.int .i64 m'.tt) (.int .i64 m'.v0) (.int .i64 m'.v1) (.int .i64 m'.v2) (.int .i64 m'.v3) (.slice bl qs.length dl) (.slice b0 m'.es.length d0) (.slice b1 m'.ks.len d1) (.slice b2 m'.c.length d2) 42 W f)
 dsimp only[bF.ag]at jO wP hs'⊢
 cases hsa:m.small with
 |false=>
  rw[hsa]at jO
  clear hsa hs' hat hfit qy yt wP
  go_enter Tryz.func4,Tryz.ntmps4
  go_wp2_with(first
   |(go_at_call 12;first|(have q9:=HW2;clear q9;refine(HA.out _).mono ?_;rintro e w20 ⟨rfl,DY⟩;have Md:=ah (aU.out.au (HW2.out.au DY));clear DY)|(refine(HA.out _).mono ?_;rintro e w1 ⟨rfl,hw1⟩;obtain⟨⟨y0,y1,y2,y3,y4,y5,y6,y7,y8,y9,aT⟩,z0,z1,z2,z3,z4,z5,z6,z7,z8,z9,z10⟩:=aQ.out w1 hw1;have hlb:=World.block_lt_of_cell? _ _ y0;have hlc:=World.block_lt_of_cell? _ _ z0;have HW1:=ah hw1;clear hw1))
   |(go_at_call 18;(refine(jO.out _ (aU.out.au HW1.out)).mono ?_;rintro e w2 ⟨rfl,hw2⟩;clear y0 y1 y2 y3 y4 y5 y6 y7 y8 y9 aT z0 z1 z2 z3 z4 z5 z6 z7 z8 z9 z10 hlb hlc;obtain⟨⟨y0,y1,y2,y3,y4,y5,y6,y7,y8,y9,aT⟩,z0,z1,z2,z3,z4,z5,z6,z7,z8,z9,z10⟩:=aQ.out w2 (HW1.out.au hw2);have hlb:=World.block_lt_of_cell? _ _ y0;have hlc:=World.block_lt_of_cell? _ _ z0;have HW2:=ah (HW1.out.au hw2);clear hw2)))
  go_ret
  exact⟨rfl,Md.out⟩
 |true=>
 cases hsb:m'.small with
 |false=>
  rw[hsa]at jO
  rw[hsb]at wP
  clear hsa hsb hs' hat hfit qy yt
  go_enter Tryz.func4,Tryz.ntmps4
  go_wp2_with(first
   |(go_at_call 12;first|(have q9:=HW3;clear q9;refine(HA.out _).mono ?_;rintro e w20 ⟨rfl,DY⟩;have Md:=ah (aU.out.au (HW3.out.au DY));clear DY)|(refine(HA.out _).mono ?_;rintro e w1 ⟨rfl,hw1⟩;obtain⟨⟨y0,y1,y2,y3,y4,y5,y6,y7,y8,y9,aT⟩,z0,z1,z2,z3,z4,z5,z6,z7,z8,z9,z10⟩:=aQ.out w1 hw1;have hlb:=World.block_lt_of_cell? _ _ y0;have hlc:=World.block_lt_of_cell? _ _ z0;have HW1:=ah hw1;clear hw1))
   |(go_at_call 18;first|(have q9:=HW2;clear q9;refine(wP.out _ (aU.out.au HW2.out)).mono ?_;rintro e w3 ⟨rfl,hw3⟩;clear y0 y1 y2 y3 y4 y5 y6 y7 y8 y9 aT z0 z1 z2 z3 z4 z5 z6 z7 z8 z9 z10 hlb hlc;obtain⟨⟨y0,y1,y2,y3,y4,y5,y6,y7,y8,y9,aT⟩,z0,z1,z2,z3,z4,z5,z6,z7,z8,z9,z10⟩:=aQ.out w3 (HW2.out.au hw3);have hlb:=World.block_lt_of_cell? _ _ y0;have hlc:=World.block_lt_of_cell? _ _ z0;have HW3:=ah (HW2.out.au hw3);clear hw3)|(refine(jO.out _ (aU.out.au HW1.out)).mono ?_;rintro e w2 ⟨rfl,hw2⟩;clear y0 y1 y2 y3 y4 y5 y6 y7 y8 y9 aT z0 z1 z2 z3 z4 z5 z6 z7 z8 z9 z10 hlb hlc;obtain⟨⟨y0,y1,y2,y3,y4,y5,y6,y7,y8,y9,aT⟩,z0,z1,z2,z3,z4,z5,z6,z7,z8,z9,z10⟩:=aQ.out w2 (HW1.out.au hw2);have hlb:=World.block_lt_of_cell? _ _ y0;have hlc:=World.block_lt_of_cell? _ _ z0;have HW2:=ah (HW1.out.au hw2);clear hw2)))
  go_ret
  exact⟨rfl,Md.out⟩
 |true=>exact hs' hsa hsb
theorem acr (w:World) (va vb:Value) (ha:zo w va) (hb:zo w vb):Calls Tryz.prog 4 #[va,vb] w fun e w'=>e= .returned (.bool true)∧aj (fun _=>False) w w':=by
 refine aco w va vb ha hb ?_
 clear ha hb
 intro m ps lv ev kv cv m' qs jc ev' kv' cv' hva hat hfit hvb qy yt hsa hsb
 subst hva hvb
 have HA:=ah Tn
 have jO:=ah (fun W (f:aj ay w W)=>hsa▸GH m ps W lv ev kv cv (hat.aO f) hfit)
 have wP:=ah (fun W (f:aj ay w W)=>hsb▸GH m' qs W jc ev' kv' cv' (qy.aO f) yt)
 have hok:=bF.small.ok hsa hfit
 have lJ:=bF.small.ok hsb yt
 have jw:=ah (fun W (f:aj ay w W)=>TK (fun _=>True) m ps W _ _ _ _ (hat.aO f) hok)
 have jD:=ah (fun W (f:aj ay w W)=>TK (fun _=>True) m' qs W _ _ _ _ (qy.aO f) lJ)
 have wM:=ah (fun W (f:aj ay w W)=>Ry (fun _=>True) m ps W _ _ _ _ (hat.aO f) hok.len)
 have yu:=ah (fun W (f:aj ay w W)=>Ry (fun _=>True) m' qs W _ _ _ _ (qy.aO f) lJ.len)
 have zA:=ah (fun W (f:aj ay w W)=>ab6 (fun _=>True) (fun _=>True) m m' ps qs W _ _ _ _ _ _ _ _ (hat.aO f) (qy.aO f) hok lJ)
 have yw:=ah (fun W lv jc (h:iP (fun _=>True) W m ps lv ev kv cv) (g:iP (fun _=>True) W m' qs jc ev' kv' cv')=>ab1 (fun _=>True) (fun _=>True) m m' ps qs W _ _ _ _ _ _ _ _ h g hok lJ)
 have nN:=ah (fun W lv (h:iP (fun _=>True) W m ps lv ev kv cv)=>TL (fun _=>True) m ps W _ _ _ _ h hok fun hr=>Az hr hsa)
 have sJ:=ah (fun W lv (h:iP (fun _=>True) W m' qs lv ev' kv' cv')=>TL (fun _=>True) m' qs W _ _ _ _ h lJ fun hr=>Az hr hsb)
 have rP:=ah (fun(hr:¬m.right) W lv (h:iP (fun _=>True) W m ps lv ev kv cv)=>Ls (fun _=>True) m ps W _ _ _ _ h hok hr)
 have A_:=ah (fun(hr:m.right) W lv (h:iP (fun _=>True) W m ps lv ev kv cv)=>Gv (fun _=>True) m ps W _ _ _ _ h hok hr (Az hr hsa))
 have DZ:=ah (fun(hr:¬m'.right) W lv (h:iP (fun _=>True) W m' qs lv ev' kv' cv')=>Ls (fun _=>True) m' qs W _ _ _ _ h lJ hr)
 have gy:=ah (fun(hr:m'.right) W lv (h:iP (fun _=>True) W m' qs lv ev' kv' cv')=>Gv (fun _=>True) m' qs W _ _ _ _ h lJ hr (Az hr hsb))
 have lg:=ah (fun(ha:m.right) (hb:m'.right)=>acj ha hb (Az ha hsa) (Az hb hsb))
 obtain⟨a0,c0,a1,c1,a2,c2,rfl,rfl,rfl⟩:=hat.dD.shape
 obtain⟨al,cl,rfl⟩:=hat.bs.rd.sl
 obtain⟨b0,d0,b1,d1,b2,d2,rfl,rfl,rfl⟩:=qy.dD.shape
 obtain⟨bl,dl,rfl⟩:=qy.bs.rd.sl
 have aU:=ah (show aj ay w ((w.alloc (.cells #[.int .i64 m.kind, .int .i64 m.fr, .int .i64 m.tt, .int .i64 m.v0, .int .i64 m.v1, .int .i64 m.v2, .int .i64 m.v3, .slice al ps.length cl, .slice a0 m.es.length c0, .slice a1 m.ks.len c1, .slice a2 m.c.length c2] 42)).alloc (.cells #[.int .i64 m'.kind, .int .i64 m'.fr, .int .i64 m'.tt, .int .i64 m'.v0, .int .i64 m'.v1, .int .i64 m'.v2, .int .i64 m'.v3, .slice bl qs.length dl, .slice b0 m'.es.length d0, .slice b1 m'.ks.len d1, .slice b2 m'.c.length d2] 42))from(aj.alloc _ _ _).au (aj.alloc _ _ _))
 have aQ:=ah (fun W f=>L_ w (.int .i64 m.kind) (.int .i64 m.fr) (.int .i64 m.tt) (.int .i64 m.v0) (.int .i64 m.v1) (.int .i64 m.v2) (.int .i64 m.v3) (.slice al ps.length cl) (.slice a0 m.es.length c0) (.slice a1 m.ks.len c1) (.slice a2 m.c.length c2) (.int .i64 m'.kind) (.int .i64 m'.fr) (.int .i64 m'.tt) (.int .i64 m'.v0) (.int .i64 m'.v1) (.int .i64 m'.v2) (.int .i64 m'.v3) (.slice bl qs.length dl) (.slice b0 m'.es.length d0) (.slice b1 m'.ks.len d1) (.slice b2 m'.c.length d2) 42 W f)
 clear hat hfit qy yt hsa hsb hok lJ
 dsimp only[bF.ag]at jO wP jw jD wM yu zA yw nN sJ rP A_ DZ gy⊢
 by_cases hp:m.right
 rotate_left 1
 ·rw[aZ hp]at jw
  rw[aZ (show ¬(m.right∧m'.right∧m=m')from fun h=>hp h.1)]at yw
  replace nN:=ah (rP.out hp)
  clear rP A_ DZ gy lg zA hp
  generalize tf m'.right=yq at*
  go_enter Tryz.func4,Tryz.ntmps4
  go_wp2_with(first
   |(go_at_call 12;(refine(HA.out _).mono ?_;rintro e w1 ⟨rfl,hw1⟩;obtain⟨⟨y0,y1,y2,y3,y4,y5,y6,y7,y8,y9,aT⟩,z0,z1,z2,z3,z4,z5,z6,z7,z8,z9,z10⟩:=aQ.out w1 hw1;have hlb:=World.block_lt_of_cell? _ _ y0;have hlc:=World.block_lt_of_cell? _ _ z0;have HW1:=ah hw1;clear hw1))
   |(go_at_call 18;first|(have q9:=HW2;clear q9;refine(wP.out _ (aU.out.au HW2.out)).mono ?_;rintro e w3 ⟨rfl,hw3⟩;clear y0 y1 y2 y3 y4 y5 y6 y7 y8 y9 aT z0 z1 z2 z3 z4 z5 z6 z7 z8 z9 z10 hlb hlc;obtain⟨⟨y0,y1,y2,y3,y4,y5,y6,y7,y8,y9,aT⟩,z0,z1,z2,z3,z4,z5,z6,z7,z8,z9,z10⟩:=aQ.out w3 (HW2.out.au hw3);have hlb:=World.block_lt_of_cell? _ _ y0;have hlc:=World.block_lt_of_cell? _ _ z0;have HW3:=ah (HW2.out.au hw3);clear hw3)|(refine(jO.out _ (aU.out.au HW1.out)).mono ?_;rintro e w2 ⟨rfl,hw2⟩;clear y0 y1 y2 y3 y4 y5 y6 y7 y8 y9 aT z0 z1 z2 z3 z4 z5 z6 z7 z8 z9 z10 hlb hlc;obtain⟨⟨y0,y1,y2,y3,y4,y5,y6,y7,y8,y9,aT⟩,z0,z1,z2,z3,z4,z5,z6,z7,z8,z9,z10⟩:=aQ.out w2 (HW1.out.au hw2);have hlb:=World.block_lt_of_cell? _ _ y0;have hlc:=World.block_lt_of_cell? _ _ z0;have HW2:=ah (HW1.out.au hw2);clear hw2)))
  go_cut [5,6] (fun v5 v6 w4=>v5= .bool false∧v6= .bool yq∧aj ay w3 w4)
  case first=>
   have fF:=ah (fun W (f:aj ay w3 W)=>(⟨f,aQ.out W (HW3.out.au f)⟩:(fun w'=>aj ay w3 w'∧((w'.cell? ⟨w.heap.size,0,none⟩=some (.int .i64 m.kind)∧w'.cell? ⟨w.heap.size,1,none⟩=some (.int .i64 m.fr)∧w'.cell? ⟨w.heap.size,2,none⟩=some (.int .i64 m.tt)∧w'.cell? ⟨w.heap.size,3,none⟩=some (.int .i64 m.v0)∧w'.cell? ⟨w.heap.size,4,none⟩=some (.int .i64 m.v1)∧w'.cell? ⟨w.heap.size,5,none⟩=some (.int .i64 m.v2)∧w'.cell? ⟨w.heap.size,6,none⟩=some (.int .i64 m.v3)∧w'.cell? ⟨w.heap.size,7,none⟩=some (.slice al ps.length cl)∧w'.cell? ⟨w.heap.size,8,none⟩=some (.slice a0 m.es.length c0)∧w'.cell? ⟨w.heap.size,9,none⟩=some (.slice a1 m.ks.len c1)∧w'.cell? ⟨w.heap.size,10,none⟩=some (.slice a2 m.c.length c2))∧w'.cell? ⟨w.heap.size+1,0,none⟩=some (.int .i64 m'.kind)∧w'.cell? ⟨w.heap.size+1,1,none⟩=some (.int .i64 m'.fr)∧w'.cell? ⟨w.heap.size+1,2,none⟩=some (.int .i64 m'.tt)∧w'.cell? ⟨w.heap.size+1,3,none⟩=some (.int .i64 m'.v0)∧w'.cell? ⟨w.heap.size+1,4,none⟩=some (.int .i64 m'.v1)∧w'.cell? ⟨w.heap.size+1,5,none⟩=some (.int .i64 m'.v2)∧w'.cell? ⟨w.heap.size+1,6,none⟩=some (.int .i64 m'.v3)∧w'.cell? ⟨w.heap.size+1,7,none⟩=some (.slice bl qs.length dl)∧w'.cell? ⟨w.heap.size+1,8,none⟩=some (.slice b0 m'.es.length d0)∧w'.cell? ⟨w.heap.size+1,9,none⟩=some (.slice b1 m'.ks.len d1)∧w'.cell? ⟨w.heap.size+1,10,none⟩=some (.slice b2 m'.c.length d2))) W))
   refine iI (S:=fun w'=>aj ay w3 w'∧((w'.cell? ⟨w.heap.size,0,none⟩=some (.int .i64 m.kind)∧w'.cell? ⟨w.heap.size,1,none⟩=some (.int .i64 m.fr)∧w'.cell? ⟨w.heap.size,2,none⟩=some (.int .i64 m.tt)∧w'.cell? ⟨w.heap.size,3,none⟩=some (.int .i64 m.v0)∧w'.cell? ⟨w.heap.size,4,none⟩=some (.int .i64 m.v1)∧w'.cell? ⟨w.heap.size,5,none⟩=some (.int .i64 m.v2)∧w'.cell? ⟨w.heap.size,6,none⟩=some (.int .i64 m.v3)∧w'.cell? ⟨w.heap.size,7,none⟩=some (.slice al ps.length cl)∧w'.cell? ⟨w.heap.size,8,none⟩=some (.slice a0 m.es.length c0)∧w'.cell? ⟨w.heap.size,9,none⟩=some (.slice a1 m.ks.len c1)∧w'.cell? ⟨w.heap.size,10,none⟩=some (.slice a2 m.c.length c2))∧w'.cell? ⟨w.heap.size+1,0,none⟩=some (.int .i64 m'.kind)∧w'.cell? ⟨w.heap.size+1,1,none⟩=some (.int .i64 m'.fr)∧w'.cell? ⟨w.heap.size+1,2,none⟩=some (.int .i64 m'.tt)∧w'.cell? ⟨w.heap.size+1,3,none⟩=some (.int .i64 m'.v0)∧w'.cell? ⟨w.heap.size+1,4,none⟩=some (.int .i64 m'.v1)∧w'.cell? ⟨w.heap.size+1,5,none⟩=some (.int .i64 m'.v2)∧w'.cell? ⟨w.heap.size+1,6,none⟩=some (.int .i64 m'.v3)∧w'.cell? ⟨w.heap.size+1,7,none⟩=some (.slice bl qs.length dl)∧w'.cell? ⟨w.heap.size+1,8,none⟩=some (.slice b0 m'.es.length d0)∧w'.cell? ⟨w.heap.size+1,9,none⟩=some (.slice b1 m'.ks.len d1)∧w'.cell? ⟨w.heap.size+1,10,none⟩=some (.slice b2 m'.c.length d2))) 5 (by kernel_rfl) (fF.out _ (aj.drew _ _)) ?_
   intro hS
   clear y0 y1 y2 y3 y4 y5 y6 y7 y8 y9 aT z0 z1 z2 z3 z4 z5 z6 z7 z8 z9 z10 hlb hlc
   generalize w3.drew=Y0 at*
   refine aS 0 24 rfl rfl (v:=?_) (.inl ⟨by rfl,?_⟩) ?_
   rotate_left 1
   ·(intro w hSw;(try dsimp only at hSw);go_simp;(try with_reducible rfl))
   refine aS 2 26 rfl rfl (v:=?_) (.inl ⟨by rfl,?_⟩) ?_
   rotate_left 1
   ·(intro w hSw;(try dsimp only at hSw);go_simp;(try with_reducible rfl))
   try simp only[Act.put,aI,aJ,aN]
   refine bM (i:=1) (by kernel_rfl) rfl (fun K hK=>?_)
   go_simp
   refine(jw.out _ (aU.out.au (HW3.out.au hS.1))).mono ?_
   rintro e1 Y1 ⟨rfl,hf1⟩
   have hS1:=fF.out Y1 (hS.1.au hf1)
   refine hK.out _ _ hS1 ?_
   clear hK K hS
   have hS:=hS1
   clear hS1
   clear hf1
   try simp only[Act.put,aI,aJ,aN]
   refine bM (i:=3) (by kernel_rfl) rfl (fun K hK=>?_)
   go_simp
   refine(jD.out _ (aU.out.au (HW3.out.au hS.1))).mono ?_
   rintro e2 Y2 ⟨rfl,hf2⟩
   have hS1:=fF.out Y2 (hS.1.au hf2)
   refine hK.out _ _ hS1 ?_
   clear hK K hS
   have hS:=hS1
   clear hS1
   clear hf2
   try simp only[Act.put,aI,aJ,aN]
   refine aS 4 5 rfl rfl (v:=?_) (.inl ⟨by rfl,?_⟩) ?_
   rotate_left 1
   ·(intro w hSw;(try dsimp only at hSw);go_simp;(try with_reducible rfl))
   try simp only[Act.put,aI,aJ,aN]
   refine iQ (by kernel_rfl) (by kernel_rfl) rfl (fun K hK=>?_)
   go_simp
   refine hK.out _ _ ?_
   clear hK K
   go_wp2_with fail
   go_meet
   case rel=>exact⟨rfl,rfl,hS.1⟩
  case rest=>
   obtain⟨rfl,rfl,hf4⟩:=hcut
   obtain⟨w4,rfl⟩:∃w4,w4=wc:=⟨_,rfl⟩
   have hw4:=HW3.out.au hf4
   clear y0 y1 y2 y3 y4 y5 y6 y7 y8 y9 aT z0 z1 z2 z3 z4 z5 z6 z7 z8 z9 z10 hlb hlc hf4
   obtain⟨⟨y0,y1,y2,y3,y4,y5,y6,y7,y8,y9,aT⟩,z0,z1,z2,z3,z4,z5,z6,z7,z8,z9,z10⟩:=aQ.out _ hw4;have hlb:=World.block_lt_of_cell? _ _ y0;have hlc:=World.block_lt_of_cell? _ _ z0
   have lU:=ah hw4
   clear hw4
   go_wp2_with fail
   go_cut [42] (fun v42 w5=>v42= .bool false∧aj ay w4 w5)
   case first=>
    have fF:=ah (fun W (f:aj ay w4 W)=>(⟨f,aQ.out W (lU.out.au f)⟩:(fun w'=>aj ay w4 w'∧((w'.cell? ⟨w.heap.size,0,none⟩=some (.int .i64 m.kind)∧w'.cell? ⟨w.heap.size,1,none⟩=some (.int .i64 m.fr)∧w'.cell? ⟨w.heap.size,2,none⟩=some (.int .i64 m.tt)∧w'.cell? ⟨w.heap.size,3,none⟩=some (.int .i64 m.v0)∧w'.cell? ⟨w.heap.size,4,none⟩=some (.int .i64 m.v1)∧w'.cell? ⟨w.heap.size,5,none⟩=some (.int .i64 m.v2)∧w'.cell? ⟨w.heap.size,6,none⟩=some (.int .i64 m.v3)∧w'.cell? ⟨w.heap.size,7,none⟩=some (.slice al ps.length cl)∧w'.cell? ⟨w.heap.size,8,none⟩=some (.slice a0 m.es.length c0)∧w'.cell? ⟨w.heap.size,9,none⟩=some (.slice a1 m.ks.len c1)∧w'.cell? ⟨w.heap.size,10,none⟩=some (.slice a2 m.c.length c2))∧w'.cell? ⟨w.heap.size+1,0,none⟩=some (.int .i64 m'.kind)∧w'.cell? ⟨w.heap.size+1,1,none⟩=some (.int .i64 m'.fr)∧w'.cell? ⟨w.heap.size+1,2,none⟩=some (.int .i64 m'.tt)∧w'.cell? ⟨w.heap.size+1,3,none⟩=some (.int .i64 m'.v0)∧w'.cell? ⟨w.heap.size+1,4,none⟩=some (.int .i64 m'.v1)∧w'.cell? ⟨w.heap.size+1,5,none⟩=some (.int .i64 m'.v2)∧w'.cell? ⟨w.heap.size+1,6,none⟩=some (.int .i64 m'.v3)∧w'.cell? ⟨w.heap.size+1,7,none⟩=some (.slice bl qs.length dl)∧w'.cell? ⟨w.heap.size+1,8,none⟩=some (.slice b0 m'.es.length d0)∧w'.cell? ⟨w.heap.size+1,9,none⟩=some (.slice b1 m'.ks.len d1)∧w'.cell? ⟨w.heap.size+1,10,none⟩=some (.slice b2 m'.c.length d2))) W))
    refine iI (S:=fun w'=>aj ay w4 w'∧((w'.cell? ⟨w.heap.size,0,none⟩=some (.int .i64 m.kind)∧w'.cell? ⟨w.heap.size,1,none⟩=some (.int .i64 m.fr)∧w'.cell? ⟨w.heap.size,2,none⟩=some (.int .i64 m.tt)∧w'.cell? ⟨w.heap.size,3,none⟩=some (.int .i64 m.v0)∧w'.cell? ⟨w.heap.size,4,none⟩=some (.int .i64 m.v1)∧w'.cell? ⟨w.heap.size,5,none⟩=some (.int .i64 m.v2)∧w'.cell? ⟨w.heap.size,6,none⟩=some (.int .i64 m.v3)∧w'.cell? ⟨w.heap.size,7,none⟩=some (.slice al ps.length cl)∧w'.cell? ⟨w.heap.size,8,none⟩=some (.slice a0 m.es.length c0)∧w'.cell? ⟨w.heap.size,9,none⟩=some (.slice a1 m.ks.len c1)∧w'.cell? ⟨w.heap.size,10,none⟩=some (.slice a2 m.c.length c2))∧w'.cell? ⟨w.heap.size+1,0,none⟩=some (.int .i64 m'.kind)∧w'.cell? ⟨w.heap.size+1,1,none⟩=some (.int .i64 m'.fr)∧w'.cell? ⟨w.heap.size+1,2,none⟩=some (.int .i64 m'.tt)∧w'.cell? ⟨w.heap.size+1,3,none⟩=some (.int .i64 m'.v0)∧w'.cell? ⟨w.heap.size+1,4,none⟩=some (.int .i64 m'.v1)∧w'.cell? ⟨w.heap.size+1,5,none⟩=some (.int .i64 m'.v2)∧w'.cell? ⟨w.heap.size+1,6,none⟩=some (.int .i64 m'.v3)∧w'.cell? ⟨w.heap.size+1,7,none⟩=some (.slice bl qs.length dl)∧w'.cell? ⟨w.heap.size+1,8,none⟩=some (.slice b0 m'.es.length d0)∧w'.cell? ⟨w.heap.size+1,9,none⟩=some (.slice b1 m'.ks.len d1)∧w'.cell? ⟨w.heap.size+1,10,none⟩=some (.slice b2 m'.c.length d2))) 20 (by kernel_rfl) (fF.out _ (aj.drew _ _)) ?_
    intro hS
    clear y0 y1 y2 y3 y4 y5 y6 y7 y8 y9 aT z0 z1 z2 z3 z4 z5 z6 z7 z8 z9 z10 hlb hlc
    generalize w4.drew=Y0 at*
    refine iV 0 28 (v:=?_) rfl rfl (by kernel_rfl) (by rfl) (by kernel_rfl) (by kernel_rfl) (fun _ _ _ h=>h) (Or.inl ⟨by rfl,?_⟩) (by assumption) ?_
    rotate_left 1
    ·(intro w hSw;(try dsimp only at hSw);go_simp;(try with_reducible rfl))
    try simp only[Act.put,aI,aJ,aN]
    refine iV 2 30 (v:=?_) rfl rfl (by kernel_rfl) (by rfl) (by kernel_rfl) (by kernel_rfl) (fun _ _ _ h=>h) (Or.inl ⟨by rfl,?_⟩) (by assumption) ?_
    rotate_left 1
    ·(intro w hSw;(try dsimp only at hSw);go_simp;(try with_reducible rfl))
    try simp only[Act.put,aI,aJ,aN]
    refine iV 5 33 (v:=?_) rfl rfl (by kernel_rfl) (by rfl) (by kernel_rfl) (by kernel_rfl) (fun _ _ _ h=>h) (Or.inl ⟨by rfl,?_⟩) (by assumption) ?_
    rotate_left 1
    ·(intro w hSw;(try dsimp only at hSw);go_simp;(try with_reducible rfl))
    try simp only[Act.put,aI,aJ,aN]
    refine bM (i:=1) (by kernel_rfl) rfl (fun K hK=>?_)
    go_simp
    refine(wM.out _ (aU.out.au (lU.out.au hS.1))).mono ?_
    rintro e1 Y1 ⟨TM,rfl,uD,hf1⟩
    obtain⟨k1,j1,rfl⟩:=uD.bs.rd.sl
    try(have h1:=gJ.out.aO hf1;clear gJ;have gJ:=ah h1;clear h1)
    have dM:=ah uD;clear uD
    have hS1:=fF.out Y1 (hS.1.au hf1)
    refine hK.out _ _ hS1 ?_
    clear hK K hS
    have hS:=hS1
    clear hS1
    clear hf1
    try simp only[Act.put,aI,aJ,aN]
    refine bM (i:=3) (by kernel_rfl) rfl (fun K hK=>?_)
    go_simp
    refine(yu.out _ (aU.out.au (lU.out.au hS.1))).mono ?_
    rintro e3 Y3 ⟨TN,rfl,uF,hf3⟩
    obtain⟨k3,j3,rfl⟩:=uF.bs.rd.sl
    try(have h1:=dM.out.aO hf3;clear dM;have dM:=ah h1;clear h1)
    have gJ:=ah uF;clear uF
    have hS1:=fF.out Y3 (hS.1.au hf3)
    refine hK.out _ _ hS1 ?_
    clear hK K hS
    have hS:=hS1
    clear hS1
    clear hf3
    try simp only[Act.put,aI,aJ,aN]
    refine bM (i:=4) (by kernel_rfl) rfl (fun K hK=>?_)
    go_simp
    refine(yw.out _ _ _ dM.out gJ.out).mono ?_
    rintro e4 Y4 ⟨rfl,hf4⟩
    have hS1:=fF.out Y4 (hS.1.au hf4)
    refine hK.out _ _ hS1 ?_
    clear hK K hS
    have hS:=hS1
    clear hS1
    clear hf4 dM gJ
    try simp only[Act.put,aI,aJ,aN]
    refine iV 6 34 (v:=?_) rfl rfl (by kernel_rfl) (by rfl) (by kernel_rfl) (by kernel_rfl) (fun _ _ _ h=>h) (Or.inl ⟨by rfl,?_⟩) (by assumption) ?_
    rotate_left 1
    ·(intro w hSw;(try dsimp only at hSw);go_simp;(try with_reducible rfl))
    try simp only[Act.put,aI,aJ,aN]
    refine iV 7 35 (v:=_) rfl rfl (by kernel_rfl) (by rfl) (by kernel_rfl) (by kernel_rfl) (fun _ _ _ h=>h) (Or.inr ⟨by rfl,rfl⟩) (by assumption) ?_
    try simp only[Act.put,aI,aJ,aN]
    refine iV 8 36 (v:=?_) rfl rfl (by kernel_rfl) (by rfl) (by kernel_rfl) (by kernel_rfl) (fun _ _ _ h=>h) (Or.inl ⟨by rfl,?_⟩) (by assumption) ?_
    rotate_left 1
    ·(intro w hSw;(try dsimp only at hSw);go_simp;(try with_reducible rfl))
    try simp only[Act.put,aI,aJ,aN]
    refine iV 9 37 (v:=?_) rfl rfl (by kernel_rfl) (by rfl) (by kernel_rfl) (by kernel_rfl) (fun _ _ _ h=>h) (Or.inl ⟨by rfl,?_⟩) (by assumption) ?_
    rotate_left 1
    ·(intro w hSw;(try dsimp only at hSw);go_simp;(try with_reducible rfl))
    try simp only[Act.put,aI,aJ,aN]
    refine iV 10 38 (v:=_) rfl rfl (by kernel_rfl) (by rfl) (by kernel_rfl) (by kernel_rfl) (fun _ _ _ h=>h) (Or.inr ⟨by rfl,rfl⟩) (by assumption) ?_
    try simp only[Act.put,aI,aJ,aN]
    refine iV 11 39 (v:=_) rfl rfl (by kernel_rfl) (by rfl) (by kernel_rfl) (by kernel_rfl) (fun _ _ _ h=>h) (Or.inr ⟨by rfl,rfl⟩) (by assumption) ?_
    try simp only[Act.put,aI,aJ,aN]
    refine iV 12 40 (v:=_) rfl rfl (by kernel_rfl) (by rfl) (by kernel_rfl) (by kernel_rfl) (fun _ _ _ h=>h) (Or.inr ⟨by rfl,rfl⟩) (by assumption) ?_
    try simp only[Act.put,aI,aJ,aN]
    refine iV 13 41 (v:=?_) rfl rfl (by kernel_rfl) (by rfl) (by kernel_rfl) (by kernel_rfl) (fun _ _ _ h=>h) (Or.inl ⟨by rfl,?_⟩) (by assumption) ?_
    rotate_left 1
    ·(intro w hSw;(try dsimp only at hSw);go_simp;(try with_reducible rfl))
    try simp only[Act.put,aI,aJ,aN]
    refine bM (i:=14) (by kernel_rfl) rfl (fun K hK=>?_)
    go_simp
    refine hK.out _ _ hS ?_
    clear hK K
    refine LZ (by kernel_rfl) ?_
    go_wp2_with fail
    go_meet
    case rel=>exact⟨rfl,hS.1⟩
   case rest=>
    obtain⟨rfl,hf5⟩:=hcut
    obtain⟨w5,rfl⟩:∃w5,w5=wc:=⟨_,rfl⟩
    have hw5:=lU.out.au hf5
    clear y0 y1 y2 y3 y4 y5 y6 y7 y8 y9 aT z0 z1 z2 z3 z4 z5 z6 z7 z8 z9 z10 hlb hlc hf5
    obtain⟨⟨y0,y1,y2,y3,y4,y5,y6,y7,y8,y9,aT⟩,z0,z1,z2,z3,z4,z5,z6,z7,z8,z9,z10⟩:=aQ.out _ hw5;have hlb:=World.block_lt_of_cell? _ _ y0;have hlc:=World.block_lt_of_cell? _ _ z0
    have qA:=ah hw5
    clear hw5
    go_wp2_with(first
     |(go_at_call 21;first|(have q9:=mD;clear q9;refine(yu.out _ (aU.out.au mD.out)).mono ?_;rintro e w8 ⟨Me,rfl,oQ,dS⟩;obtain⟨k8,j8,rfl⟩:=oQ.bs.rd.sl;clear y0 y1 y2 y3 y4 y5 y6 y7 y8 y9 aT z0 z1 z2 z3 z4 z5 z6 z7 z8 z9 z10 hlb hlc;obtain⟨⟨y0,y1,y2,y3,y4,y5,y6,y7,y8,y9,aT⟩,z0,z1,z2,z3,z4,z5,z6,z7,z8,z9,z10⟩:=aQ.out w8 (mD.out.au dS);have hlb:=World.block_lt_of_cell? _ _ y0;have hlc:=World.block_lt_of_cell? _ _ z0;have gJ:=ah oQ;have rD:=ah (mD.out.au dS);clear oQ dS)|(refine(wM.out _ (aU.out.au qA.out)).mono ?_;rintro e w6 ⟨MB,rfl,oU,eP⟩;obtain⟨k6,j6,rfl⟩:=oU.bs.rd.sl;clear y0 y1 y2 y3 y4 y5 y6 y7 y8 y9 aT z0 z1 z2 z3 z4 z5 z6 z7 z8 z9 z10 hlb hlc;obtain⟨⟨y0,y1,y2,y3,y4,y5,y6,y7,y8,y9,aT⟩,z0,z1,z2,z3,z4,z5,z6,z7,z8,z9,z10⟩:=aQ.out w6 (qA.out.au eP);have hlb:=World.block_lt_of_cell? _ _ y0;have hlc:=World.block_lt_of_cell? _ _ z0;have dM:=ah oU;have uG:=ah (qA.out.au eP);clear oU eP))
     |(go_at_call 17;first|(have q9:=rD;clear q9;refine(sJ.out _ _ gJ.out).mono ?_;rintro e w9 ⟨g9,n9,j9,k9,rfl,vg⟩;have uH:=ah (rD.out.au vg);clear vg)|(refine(nN.out _ _ dM.out).mono ?_;rintro e w7 ⟨rfl,kH⟩;clear y0 y1 y2 y3 y4 y5 y6 y7 y8 y9 aT z0 z1 z2 z3 z4 z5 z6 z7 z8 z9 z10 hlb hlc;obtain⟨⟨y0,y1,y2,y3,y4,y5,y6,y7,y8,y9,aT⟩,z0,z1,z2,z3,z4,z5,z6,z7,z8,z9,z10⟩:=aQ.out w7 (uG.out.au kH);have hlb:=World.block_lt_of_cell? _ _ y0;have hlc:=World.block_lt_of_cell? _ _ z0;have mD:=ah (uG.out.au kH);clear kH)))
    go_ret
    exact⟨rfl,aU.out.au uH.out⟩
 by_cases hq:m'.right
 rotate_left 1
 ·rw[bZ hp]at jw
  rw[aZ hq]at jD
  rw[aZ (show ¬(m.right∧m'.right∧m=m')from fun h=>hq h.2.1)]at yw
  replace nN:=ah (A_.out hp)
  replace sJ:=ah (DZ.out hq)
  clear rP A_ DZ gy lg zA hp hq
  go_enter Tryz.func4,Tryz.ntmps4
  go_wp2_with(first
   |(go_at_call 12;(refine(HA.out _).mono ?_;rintro e w1 ⟨rfl,hw1⟩;obtain⟨⟨y0,y1,y2,y3,y4,y5,y6,y7,y8,y9,aT⟩,z0,z1,z2,z3,z4,z5,z6,z7,z8,z9,z10⟩:=aQ.out w1 hw1;have hlb:=World.block_lt_of_cell? _ _ y0;have hlc:=World.block_lt_of_cell? _ _ z0;have HW1:=ah hw1;clear hw1))
   |(go_at_call 18;first|(have q9:=HW2;clear q9;refine(wP.out _ (aU.out.au HW2.out)).mono ?_;rintro e w3 ⟨rfl,hw3⟩;clear y0 y1 y2 y3 y4 y5 y6 y7 y8 y9 aT z0 z1 z2 z3 z4 z5 z6 z7 z8 z9 z10 hlb hlc;obtain⟨⟨y0,y1,y2,y3,y4,y5,y6,y7,y8,y9,aT⟩,z0,z1,z2,z3,z4,z5,z6,z7,z8,z9,z10⟩:=aQ.out w3 (HW2.out.au hw3);have hlb:=World.block_lt_of_cell? _ _ y0;have hlc:=World.block_lt_of_cell? _ _ z0;have HW3:=ah (HW2.out.au hw3);clear hw3)|(refine(jO.out _ (aU.out.au HW1.out)).mono ?_;rintro e w2 ⟨rfl,hw2⟩;clear y0 y1 y2 y3 y4 y5 y6 y7 y8 y9 aT z0 z1 z2 z3 z4 z5 z6 z7 z8 z9 z10 hlb hlc;obtain⟨⟨y0,y1,y2,y3,y4,y5,y6,y7,y8,y9,aT⟩,z0,z1,z2,z3,z4,z5,z6,z7,z8,z9,z10⟩:=aQ.out w2 (HW1.out.au hw2);have hlb:=World.block_lt_of_cell? _ _ y0;have hlc:=World.block_lt_of_cell? _ _ z0;have HW2:=ah (HW1.out.au hw2);clear hw2)))
  go_cut [5,6] (fun v5 v6 w4=>v5= .bool true∧v6= .bool false∧aj ay w3 w4)
  case first=>
   have fF:=ah (fun W (f:aj ay w3 W)=>(⟨f,aQ.out W (HW3.out.au f)⟩:(fun w'=>aj ay w3 w'∧((w'.cell? ⟨w.heap.size,0,none⟩=some (.int .i64 m.kind)∧w'.cell? ⟨w.heap.size,1,none⟩=some (.int .i64 m.fr)∧w'.cell? ⟨w.heap.size,2,none⟩=some (.int .i64 m.tt)∧w'.cell? ⟨w.heap.size,3,none⟩=some (.int .i64 m.v0)∧w'.cell? ⟨w.heap.size,4,none⟩=some (.int .i64 m.v1)∧w'.cell? ⟨w.heap.size,5,none⟩=some (.int .i64 m.v2)∧w'.cell? ⟨w.heap.size,6,none⟩=some (.int .i64 m.v3)∧w'.cell? ⟨w.heap.size,7,none⟩=some (.slice al ps.length cl)∧w'.cell? ⟨w.heap.size,8,none⟩=some (.slice a0 m.es.length c0)∧w'.cell? ⟨w.heap.size,9,none⟩=some (.slice a1 m.ks.len c1)∧w'.cell? ⟨w.heap.size,10,none⟩=some (.slice a2 m.c.length c2))∧w'.cell? ⟨w.heap.size+1,0,none⟩=some (.int .i64 m'.kind)∧w'.cell? ⟨w.heap.size+1,1,none⟩=some (.int .i64 m'.fr)∧w'.cell? ⟨w.heap.size+1,2,none⟩=some (.int .i64 m'.tt)∧w'.cell? ⟨w.heap.size+1,3,none⟩=some (.int .i64 m'.v0)∧w'.cell? ⟨w.heap.size+1,4,none⟩=some (.int .i64 m'.v1)∧w'.cell? ⟨w.heap.size+1,5,none⟩=some (.int .i64 m'.v2)∧w'.cell? ⟨w.heap.size+1,6,none⟩=some (.int .i64 m'.v3)∧w'.cell? ⟨w.heap.size+1,7,none⟩=some (.slice bl qs.length dl)∧w'.cell? ⟨w.heap.size+1,8,none⟩=some (.slice b0 m'.es.length d0)∧w'.cell? ⟨w.heap.size+1,9,none⟩=some (.slice b1 m'.ks.len d1)∧w'.cell? ⟨w.heap.size+1,10,none⟩=some (.slice b2 m'.c.length d2))) W))
   refine iI (S:=fun w'=>aj ay w3 w'∧((w'.cell? ⟨w.heap.size,0,none⟩=some (.int .i64 m.kind)∧w'.cell? ⟨w.heap.size,1,none⟩=some (.int .i64 m.fr)∧w'.cell? ⟨w.heap.size,2,none⟩=some (.int .i64 m.tt)∧w'.cell? ⟨w.heap.size,3,none⟩=some (.int .i64 m.v0)∧w'.cell? ⟨w.heap.size,4,none⟩=some (.int .i64 m.v1)∧w'.cell? ⟨w.heap.size,5,none⟩=some (.int .i64 m.v2)∧w'.cell? ⟨w.heap.size,6,none⟩=some (.int .i64 m.v3)∧w'.cell? ⟨w.heap.size,7,none⟩=some (.slice al ps.length cl)∧w'.cell? ⟨w.heap.size,8,none⟩=some (.slice a0 m.es.length c0)∧w'.cell? ⟨w.heap.size,9,none⟩=some (.slice a1 m.ks.len c1)∧w'.cell? ⟨w.heap.size,10,none⟩=some (.slice a2 m.c.length c2))∧w'.cell? ⟨w.heap.size+1,0,none⟩=some (.int .i64 m'.kind)∧w'.cell? ⟨w.heap.size+1,1,none⟩=some (.int .i64 m'.fr)∧w'.cell? ⟨w.heap.size+1,2,none⟩=some (.int .i64 m'.tt)∧w'.cell? ⟨w.heap.size+1,3,none⟩=some (.int .i64 m'.v0)∧w'.cell? ⟨w.heap.size+1,4,none⟩=some (.int .i64 m'.v1)∧w'.cell? ⟨w.heap.size+1,5,none⟩=some (.int .i64 m'.v2)∧w'.cell? ⟨w.heap.size+1,6,none⟩=some (.int .i64 m'.v3)∧w'.cell? ⟨w.heap.size+1,7,none⟩=some (.slice bl qs.length dl)∧w'.cell? ⟨w.heap.size+1,8,none⟩=some (.slice b0 m'.es.length d0)∧w'.cell? ⟨w.heap.size+1,9,none⟩=some (.slice b1 m'.ks.len d1)∧w'.cell? ⟨w.heap.size+1,10,none⟩=some (.slice b2 m'.c.length d2))) 5 (by kernel_rfl) (fF.out _ (aj.drew _ _)) ?_
   intro hS
   clear y0 y1 y2 y3 y4 y5 y6 y7 y8 y9 aT z0 z1 z2 z3 z4 z5 z6 z7 z8 z9 z10 hlb hlc
   generalize w3.drew=Y0 at*
   refine aS 0 24 rfl rfl (v:=?_) (.inl ⟨by rfl,?_⟩) ?_
   rotate_left 1
   ·(intro w hSw;(try dsimp only at hSw);go_simp;(try with_reducible rfl))
   refine aS 2 26 rfl rfl (v:=?_) (.inl ⟨by rfl,?_⟩) ?_
   rotate_left 1
   ·(intro w hSw;(try dsimp only at hSw);go_simp;(try with_reducible rfl))
   try simp only[Act.put,aI,aJ,aN]
   refine bM (i:=1) (by kernel_rfl) rfl (fun K hK=>?_)
   go_simp
   refine(jw.out _ (aU.out.au (HW3.out.au hS.1))).mono ?_
   rintro e1 Y1 ⟨rfl,hf1⟩
   have hS1:=fF.out Y1 (hS.1.au hf1)
   refine hK.out _ _ hS1 ?_
   clear hK K hS
   have hS:=hS1
   clear hS1
   clear hf1
   try simp only[Act.put,aI,aJ,aN]
   refine bM (i:=3) (by kernel_rfl) rfl (fun K hK=>?_)
   go_simp
   refine(jD.out _ (aU.out.au (HW3.out.au hS.1))).mono ?_
   rintro e2 Y2 ⟨rfl,hf2⟩
   have hS1:=fF.out Y2 (hS.1.au hf2)
   refine hK.out _ _ hS1 ?_
   clear hK K hS
   have hS:=hS1
   clear hS1
   clear hf2
   try simp only[Act.put,aI,aJ,aN]
   refine aS 4 5 rfl rfl (v:=?_) (.inl ⟨by rfl,?_⟩) ?_
   rotate_left 1
   ·(intro w hSw;(try dsimp only at hSw);go_simp;(try with_reducible rfl))
   try simp only[Act.put,aI,aJ,aN]
   refine iQ (by kernel_rfl) (by kernel_rfl) rfl (fun K hK=>?_)
   go_simp
   refine hK.out _ _ ?_
   clear hK K
   go_wp2_with fail
   go_meet
   case rel=>exact⟨rfl,rfl,hS.1⟩
  case rest=>
   obtain⟨rfl,rfl,hf4⟩:=hcut
   obtain⟨w4,rfl⟩:∃w4,w4=wc:=⟨_,rfl⟩
   have hw4:=HW3.out.au hf4
   clear y0 y1 y2 y3 y4 y5 y6 y7 y8 y9 aT z0 z1 z2 z3 z4 z5 z6 z7 z8 z9 z10 hlb hlc hf4
   obtain⟨⟨y0,y1,y2,y3,y4,y5,y6,y7,y8,y9,aT⟩,z0,z1,z2,z3,z4,z5,z6,z7,z8,z9,z10⟩:=aQ.out _ hw4;have hlb:=World.block_lt_of_cell? _ _ y0;have hlc:=World.block_lt_of_cell? _ _ z0
   have lU:=ah hw4
   clear hw4
   go_wp2_with fail
   go_cut [42] (fun v42 w5=>v42= .bool false∧aj ay w4 w5)
   case first=>
    have fF:=ah (fun W (f:aj ay w4 W)=>(⟨f,aQ.out W (lU.out.au f)⟩:(fun w'=>aj ay w4 w'∧((w'.cell? ⟨w.heap.size,0,none⟩=some (.int .i64 m.kind)∧w'.cell? ⟨w.heap.size,1,none⟩=some (.int .i64 m.fr)∧w'.cell? ⟨w.heap.size,2,none⟩=some (.int .i64 m.tt)∧w'.cell? ⟨w.heap.size,3,none⟩=some (.int .i64 m.v0)∧w'.cell? ⟨w.heap.size,4,none⟩=some (.int .i64 m.v1)∧w'.cell? ⟨w.heap.size,5,none⟩=some (.int .i64 m.v2)∧w'.cell? ⟨w.heap.size,6,none⟩=some (.int .i64 m.v3)∧w'.cell? ⟨w.heap.size,7,none⟩=some (.slice al ps.length cl)∧w'.cell? ⟨w.heap.size,8,none⟩=some (.slice a0 m.es.length c0)∧w'.cell? ⟨w.heap.size,9,none⟩=some (.slice a1 m.ks.len c1)∧w'.cell? ⟨w.heap.size,10,none⟩=some (.slice a2 m.c.length c2))∧w'.cell? ⟨w.heap.size+1,0,none⟩=some (.int .i64 m'.kind)∧w'.cell? ⟨w.heap.size+1,1,none⟩=some (.int .i64 m'.fr)∧w'.cell? ⟨w.heap.size+1,2,none⟩=some (.int .i64 m'.tt)∧w'.cell? ⟨w.heap.size+1,3,none⟩=some (.int .i64 m'.v0)∧w'.cell? ⟨w.heap.size+1,4,none⟩=some (.int .i64 m'.v1)∧w'.cell? ⟨w.heap.size+1,5,none⟩=some (.int .i64 m'.v2)∧w'.cell? ⟨w.heap.size+1,6,none⟩=some (.int .i64 m'.v3)∧w'.cell? ⟨w.heap.size+1,7,none⟩=some (.slice bl qs.length dl)∧w'.cell? ⟨w.heap.size+1,8,none⟩=some (.slice b0 m'.es.length d0)∧w'.cell? ⟨w.heap.size+1,9,none⟩=some (.slice b1 m'.ks.len d1)∧w'.cell? ⟨w.heap.size+1,10,none⟩=some (.slice b2 m'.c.length d2))) W))
    refine iI (S:=fun w'=>aj ay w4 w'∧((w'.cell? ⟨w.heap.size,0,none⟩=some (.int .i64 m.kind)∧w'.cell? ⟨w.heap.size,1,none⟩=some (.int .i64 m.fr)∧w'.cell? ⟨w.heap.size,2,none⟩=some (.int .i64 m.tt)∧w'.cell? ⟨w.heap.size,3,none⟩=some (.int .i64 m.v0)∧w'.cell? ⟨w.heap.size,4,none⟩=some (.int .i64 m.v1)∧w'.cell? ⟨w.heap.size,5,none⟩=some (.int .i64 m.v2)∧w'.cell? ⟨w.heap.size,6,none⟩=some (.int .i64 m.v3)∧w'.cell? ⟨w.heap.size,7,none⟩=some (.slice al ps.length cl)∧w'.cell? ⟨w.heap.size,8,none⟩=some (.slice a0 m.es.length c0)∧w'.cell? ⟨w.heap.size,9,none⟩=some (.slice a1 m.ks.len c1)∧w'.cell? ⟨w.heap.size,10,none⟩=some (.slice a2 m.c.length c2))∧w'.cell? ⟨w.heap.size+1,0,none⟩=some (.int .i64 m'.kind)∧w'.cell? ⟨w.heap.size+1,1,none⟩=some (.int .i64 m'.fr)∧w'.cell? ⟨w.heap.size+1,2,none⟩=some (.int .i64 m'.tt)∧w'.cell? ⟨w.heap.size+1,3,none⟩=some (.int .i64 m'.v0)∧w'.cell? ⟨w.heap.size+1,4,none⟩=some (.int .i64 m'.v1)∧w'.cell? ⟨w.heap.size+1,5,none⟩=some (.int .i64 m'.v2)∧w'.cell? ⟨w.heap.size+1,6,none⟩=some (.int .i64 m'.v3)∧w'.cell? ⟨w.heap.size+1,7,none⟩=some (.slice bl qs.length dl)∧w'.cell? ⟨w.heap.size+1,8,none⟩=some (.slice b0 m'.es.length d0)∧w'.cell? ⟨w.heap.size+1,9,none⟩=some (.slice b1 m'.ks.len d1)∧w'.cell? ⟨w.heap.size+1,10,none⟩=some (.slice b2 m'.c.length d2))) 20 (by kernel_rfl) (fF.out _ (aj.drew _ _)) ?_
    intro hS
    clear y0 y1 y2 y3 y4 y5 y6 y7 y8 y9 aT z0 z1 z2 z3 z4 z5 z6 z7 z8 z9 z10 hlb hlc
    generalize w4.drew=Y0 at*
    refine iV 0 28 (v:=?_) rfl rfl (by kernel_rfl) (by rfl) (by kernel_rfl) (by kernel_rfl) (fun _ _ _ h=>h) (Or.inl ⟨by rfl,?_⟩) (by assumption) ?_
    rotate_left 1
    ·(intro w hSw;(try dsimp only at hSw);go_simp;(try with_reducible rfl))
    try simp only[Act.put,aI,aJ,aN]
    refine iV 2 30 (v:=?_) rfl rfl (by kernel_rfl) (by rfl) (by kernel_rfl) (by kernel_rfl) (fun _ _ _ h=>h) (Or.inl ⟨by rfl,?_⟩) (by assumption) ?_
    rotate_left 1
    ·(intro w hSw;(try dsimp only at hSw);go_simp;(try with_reducible rfl))
    try simp only[Act.put,aI,aJ,aN]
    refine iV 5 33 (v:=?_) rfl rfl (by kernel_rfl) (by rfl) (by kernel_rfl) (by kernel_rfl) (fun _ _ _ h=>h) (Or.inl ⟨by rfl,?_⟩) (by assumption) ?_
    rotate_left 1
    ·(intro w hSw;(try dsimp only at hSw);go_simp;(try with_reducible rfl))
    try simp only[Act.put,aI,aJ,aN]
    refine bM (i:=1) (by kernel_rfl) rfl (fun K hK=>?_)
    go_simp
    refine(wM.out _ (aU.out.au (lU.out.au hS.1))).mono ?_
    rintro e1 Y1 ⟨TM,rfl,uD,hf1⟩
    obtain⟨k1,j1,rfl⟩:=uD.bs.rd.sl
    try(have h1:=gJ.out.aO hf1;clear gJ;have gJ:=ah h1;clear h1)
    have dM:=ah uD;clear uD
    have hS1:=fF.out Y1 (hS.1.au hf1)
    refine hK.out _ _ hS1 ?_
    clear hK K hS
    have hS:=hS1
    clear hS1
    clear hf1
    try simp only[Act.put,aI,aJ,aN]
    refine bM (i:=3) (by kernel_rfl) rfl (fun K hK=>?_)
    go_simp
    refine(yu.out _ (aU.out.au (lU.out.au hS.1))).mono ?_
    rintro e3 Y3 ⟨TN,rfl,uF,hf3⟩
    obtain⟨k3,j3,rfl⟩:=uF.bs.rd.sl
    try(have h1:=dM.out.aO hf3;clear dM;have dM:=ah h1;clear h1)
    have gJ:=ah uF;clear uF
    have hS1:=fF.out Y3 (hS.1.au hf3)
    refine hK.out _ _ hS1 ?_
    clear hK K hS
    have hS:=hS1
    clear hS1
    clear hf3
    try simp only[Act.put,aI,aJ,aN]
    refine bM (i:=4) (by kernel_rfl) rfl (fun K hK=>?_)
    go_simp
    refine(yw.out _ _ _ dM.out gJ.out).mono ?_
    rintro e4 Y4 ⟨rfl,hf4⟩
    have hS1:=fF.out Y4 (hS.1.au hf4)
    refine hK.out _ _ hS1 ?_
    clear hK K hS
    have hS:=hS1
    clear hS1
    clear hf4 dM gJ
    try simp only[Act.put,aI,aJ,aN]
    refine iV 6 34 (v:=?_) rfl rfl (by kernel_rfl) (by rfl) (by kernel_rfl) (by kernel_rfl) (fun _ _ _ h=>h) (Or.inl ⟨by rfl,?_⟩) (by assumption) ?_
    rotate_left 1
    ·(intro w hSw;(try dsimp only at hSw);go_simp;(try with_reducible rfl))
    try simp only[Act.put,aI,aJ,aN]
    refine iV 7 35 (v:=?_) rfl rfl (by kernel_rfl) (by rfl) (by kernel_rfl) (by kernel_rfl) (fun _ _ _ h=>h) (Or.inl ⟨by rfl,?_⟩) (by assumption) ?_
    rotate_left 1
    ·(intro w hSw;(try dsimp only at hSw);go_simp;(try with_reducible rfl))
    try simp only[Act.put,aI,aJ,aN]
    refine iV 8 36 (v:=?_) rfl rfl (by kernel_rfl) (by rfl) (by kernel_rfl) (by kernel_rfl) (fun _ _ _ h=>h) (Or.inl ⟨by rfl,?_⟩) (by assumption) ?_
    rotate_left 1
    ·(intro w hSw;(try dsimp only at hSw);go_simp;(try with_reducible rfl))
    try simp only[Act.put,aI,aJ,aN]
    refine iV 9 37 (v:=?_) rfl rfl (by kernel_rfl) (by rfl) (by kernel_rfl) (by kernel_rfl) (fun _ _ _ h=>h) (Or.inl ⟨by rfl,?_⟩) (by assumption) ?_
    rotate_left 1
    ·(intro w hSw;(try dsimp only at hSw);go_simp;(try with_reducible rfl))
    try simp only[Act.put,aI,aJ,aN]
    refine iV 10 38 (v:=_) rfl rfl (by kernel_rfl) (by rfl) (by kernel_rfl) (by kernel_rfl) (fun _ _ _ h=>h) (Or.inr ⟨by rfl,rfl⟩) (by assumption) ?_
    try simp only[Act.put,aI,aJ,aN]
    refine iV 11 39 (v:=_) rfl rfl (by kernel_rfl) (by rfl) (by kernel_rfl) (by kernel_rfl) (fun _ _ _ h=>h) (Or.inr ⟨by rfl,rfl⟩) (by assumption) ?_
    try simp only[Act.put,aI,aJ,aN]
    refine iV 12 40 (v:=_) rfl rfl (by kernel_rfl) (by rfl) (by kernel_rfl) (by kernel_rfl) (fun _ _ _ h=>h) (Or.inr ⟨by rfl,rfl⟩) (by assumption) ?_
    try simp only[Act.put,aI,aJ,aN]
    refine iV 13 41 (v:=?_) rfl rfl (by kernel_rfl) (by rfl) (by kernel_rfl) (by kernel_rfl) (fun _ _ _ h=>h) (Or.inl ⟨by rfl,?_⟩) (by assumption) ?_
    rotate_left 1
    ·(intro w hSw;(try dsimp only at hSw);go_simp;(try with_reducible rfl))
    try simp only[Act.put,aI,aJ,aN]
    refine bM (i:=14) (by kernel_rfl) rfl (fun K hK=>?_)
    go_simp
    refine hK.out _ _ hS ?_
    clear hK K
    refine LZ (by kernel_rfl) ?_
    go_wp2_with fail
    go_meet
    case rel=>exact⟨rfl,hS.1⟩
   case rest=>
    obtain⟨rfl,hf5⟩:=hcut
    obtain⟨w5,rfl⟩:∃w5,w5=wc:=⟨_,rfl⟩
    have hw5:=lU.out.au hf5
    clear y0 y1 y2 y3 y4 y5 y6 y7 y8 y9 aT z0 z1 z2 z3 z4 z5 z6 z7 z8 z9 z10 hlb hlc hf5
    obtain⟨⟨y0,y1,y2,y3,y4,y5,y6,y7,y8,y9,aT⟩,z0,z1,z2,z3,z4,z5,z6,z7,z8,z9,z10⟩:=aQ.out _ hw5;have hlb:=World.block_lt_of_cell? _ _ y0;have hlc:=World.block_lt_of_cell? _ _ z0
    have qA:=ah hw5
    clear hw5
    go_wp2_with(first
     |(go_at_call 21;first|(have q9:=mD;clear q9;refine(yu.out _ (aU.out.au mD.out)).mono ?_;rintro e w8 ⟨Me,rfl,oQ,dS⟩;obtain⟨k8,j8,rfl⟩:=oQ.bs.rd.sl;clear y0 y1 y2 y3 y4 y5 y6 y7 y8 y9 aT z0 z1 z2 z3 z4 z5 z6 z7 z8 z9 z10 hlb hlc;obtain⟨⟨y0,y1,y2,y3,y4,y5,y6,y7,y8,y9,aT⟩,z0,z1,z2,z3,z4,z5,z6,z7,z8,z9,z10⟩:=aQ.out w8 (mD.out.au dS);have hlb:=World.block_lt_of_cell? _ _ y0;have hlc:=World.block_lt_of_cell? _ _ z0;have gJ:=ah oQ;have rD:=ah (mD.out.au dS);clear oQ dS)|(refine(wM.out _ (aU.out.au qA.out)).mono ?_;rintro e w6 ⟨MB,rfl,oU,eP⟩;obtain⟨k6,j6,rfl⟩:=oU.bs.rd.sl;clear y0 y1 y2 y3 y4 y5 y6 y7 y8 y9 aT z0 z1 z2 z3 z4 z5 z6 z7 z8 z9 z10 hlb hlc;obtain⟨⟨y0,y1,y2,y3,y4,y5,y6,y7,y8,y9,aT⟩,z0,z1,z2,z3,z4,z5,z6,z7,z8,z9,z10⟩:=aQ.out w6 (qA.out.au eP);have hlb:=World.block_lt_of_cell? _ _ y0;have hlc:=World.block_lt_of_cell? _ _ z0;have dM:=ah oU;have uG:=ah (qA.out.au eP);clear oU eP))
     |(go_at_call 17;first|(have q9:=rD;clear q9;refine(sJ.out _ _ gJ.out).mono ?_;rintro e w9 ⟨rfl,vg⟩;have uH:=ah (rD.out.au vg);clear vg)|(refine(nN.out _ _ dM.out).mono ?_;rintro e w7 ⟨g7,j7,t7,D_,rfl,lC⟩;clear y0 y1 y2 y3 y4 y5 y6 y7 y8 y9 aT z0 z1 z2 z3 z4 z5 z6 z7 z8 z9 z10 hlb hlc;obtain⟨⟨y0,y1,y2,y3,y4,y5,y6,y7,y8,y9,aT⟩,z0,z1,z2,z3,z4,z5,z6,z7,z8,z9,z10⟩:=aQ.out w7 (uG.out.au lC.aP);have hlb:=World.block_lt_of_cell? _ _ y0;have hlc:=World.block_lt_of_cell? _ _ z0;have mD:=ah (uG.out.au lC.aP);clear lC D_)))
    go_ret
    exact⟨rfl,aU.out.au uH.out⟩
 rw[bZ hp]at jw
 rw[bZ hq]at jD
 replace nN:=ah (A_.out hp)
 replace sJ:=ah (gy.out hq)
 have HI:=ah (lg.out hp hq)
 have e1:tf (m.right∧m'.right∧m=m')=tf (m=m'):=kT ⟨fun h=>h.2.2,fun h=>⟨hp,hq,h⟩⟩
 rw[e1]at yw
 clear rP A_ DZ gy lg hp hq e1
 obtain⟨FX,hfx⟩:∃FX,FX=bC.jM m.enc:=⟨_,rfl⟩
 obtain⟨FY,vk⟩:∃FY,FY=bC.jM m'.enc:=⟨_,rfl⟩
 rw[←hfx]at nN
 rw[←vk]at sJ
 obtain⟨y,hy⟩:∃y,y=tf (m=m'):=⟨_,rfl⟩
 rw[←hy]at yw zA
 have kQ:=ah (show(y=true→FX=FY)∧(y=false→¬(⟨FX.toArray⟩:ByteArray).toList=(⟨FY.toArray⟩:ByteArray).toList)from⟨fun h=>by have hm:=sG.1 (hy.symm.trans h);rw[hfx,vk,hm],fun h=>acn fun e=>yB.1 (hy.symm.trans h) (HI.out (by rw[←hfx,←vk,e]))⟩)
 clear hfx vk hy HI
 go_enter Tryz.func4,Tryz.ntmps4
 go_wp2_with(first
  |(go_at_call 12;(refine(HA.out _).mono ?_;rintro e w1 ⟨rfl,hw1⟩;obtain⟨⟨y0,y1,y2,y3,y4,y5,y6,y7,y8,y9,aT⟩,z0,z1,z2,z3,z4,z5,z6,z7,z8,z9,z10⟩:=aQ.out w1 hw1;have hlb:=World.block_lt_of_cell? _ _ y0;have hlc:=World.block_lt_of_cell? _ _ z0;have HW1:=ah hw1;clear hw1))
  |(go_at_call 18;first|(have q9:=HW2;clear q9;refine(wP.out _ (aU.out.au HW2.out)).mono ?_;rintro e w3 ⟨rfl,hw3⟩;clear y0 y1 y2 y3 y4 y5 y6 y7 y8 y9 aT z0 z1 z2 z3 z4 z5 z6 z7 z8 z9 z10 hlb hlc;obtain⟨⟨y0,y1,y2,y3,y4,y5,y6,y7,y8,y9,aT⟩,z0,z1,z2,z3,z4,z5,z6,z7,z8,z9,z10⟩:=aQ.out w3 (HW2.out.au hw3);have hlb:=World.block_lt_of_cell? _ _ y0;have hlc:=World.block_lt_of_cell? _ _ z0;have HW3:=ah (HW2.out.au hw3);clear hw3)|(refine(jO.out _ (aU.out.au HW1.out)).mono ?_;rintro e w2 ⟨rfl,hw2⟩;clear y0 y1 y2 y3 y4 y5 y6 y7 y8 y9 aT z0 z1 z2 z3 z4 z5 z6 z7 z8 z9 z10 hlb hlc;obtain⟨⟨y0,y1,y2,y3,y4,y5,y6,y7,y8,y9,aT⟩,z0,z1,z2,z3,z4,z5,z6,z7,z8,z9,z10⟩:=aQ.out w2 (HW1.out.au hw2);have hlb:=World.block_lt_of_cell? _ _ y0;have hlc:=World.block_lt_of_cell? _ _ z0;have HW2:=ah (HW1.out.au hw2);clear hw2)))
 go_cut [5,6] (fun v5 v6 w4=>v5= .bool true∧v6= .bool true∧aj ay w3 w4)
 case first=>
  have fF:=ah (fun W (f:aj ay w3 W)=>(⟨f,aQ.out W (HW3.out.au f)⟩:(fun w'=>aj ay w3 w'∧((w'.cell? ⟨w.heap.size,0,none⟩=some (.int .i64 m.kind)∧w'.cell? ⟨w.heap.size,1,none⟩=some (.int .i64 m.fr)∧w'.cell? ⟨w.heap.size,2,none⟩=some (.int .i64 m.tt)∧w'.cell? ⟨w.heap.size,3,none⟩=some (.int .i64 m.v0)∧w'.cell? ⟨w.heap.size,4,none⟩=some (.int .i64 m.v1)∧w'.cell? ⟨w.heap.size,5,none⟩=some (.int .i64 m.v2)∧w'.cell? ⟨w.heap.size,6,none⟩=some (.int .i64 m.v3)∧w'.cell? ⟨w.heap.size,7,none⟩=some (.slice al ps.length cl)∧w'.cell? ⟨w.heap.size,8,none⟩=some (.slice a0 m.es.length c0)∧w'.cell? ⟨w.heap.size,9,none⟩=some (.slice a1 m.ks.len c1)∧w'.cell? ⟨w.heap.size,10,none⟩=some (.slice a2 m.c.length c2))∧w'.cell? ⟨w.heap.size+1,0,none⟩=some (.int .i64 m'.kind)∧w'.cell? ⟨w.heap.size+1,1,none⟩=some (.int .i64 m'.fr)∧w'.cell? ⟨w.heap.size+1,2,none⟩=some (.int .i64 m'.tt)∧w'.cell? ⟨w.heap.size+1,3,none⟩=some (.int .i64 m'.v0)∧w'.cell? ⟨w.heap.size+1,4,none⟩=some (.int .i64 m'.v1)∧w'.cell? ⟨w.heap.size+1,5,none⟩=some (.int .i64 m'.v2)∧w'.cell? ⟨w.heap.size+1,6,none⟩=some (.int .i64 m'.v3)∧w'.cell? ⟨w.heap.size+1,7,none⟩=some (.slice bl qs.length dl)∧w'.cell? ⟨w.heap.size+1,8,none⟩=some (.slice b0 m'.es.length d0)∧w'.cell? ⟨w.heap.size+1,9,none⟩=some (.slice b1 m'.ks.len d1)∧w'.cell? ⟨w.heap.size+1,10,none⟩=some (.slice b2 m'.c.length d2))) W))
  refine iI (S:=fun w'=>aj ay w3 w'∧((w'.cell? ⟨w.heap.size,0,none⟩=some (.int .i64 m.kind)∧w'.cell? ⟨w.heap.size,1,none⟩=some (.int .i64 m.fr)∧w'.cell? ⟨w.heap.size,2,none⟩=some (.int .i64 m.tt)∧w'.cell? ⟨w.heap.size,3,none⟩=some (.int .i64 m.v0)∧w'.cell? ⟨w.heap.size,4,none⟩=some (.int .i64 m.v1)∧w'.cell? ⟨w.heap.size,5,none⟩=some (.int .i64 m.v2)∧w'.cell? ⟨w.heap.size,6,none⟩=some (.int .i64 m.v3)∧w'.cell? ⟨w.heap.size,7,none⟩=some (.slice al ps.length cl)∧w'.cell? ⟨w.heap.size,8,none⟩=some (.slice a0 m.es.length c0)∧w'.cell? ⟨w.heap.size,9,none⟩=some (.slice a1 m.ks.len c1)∧w'.cell? ⟨w.heap.size,10,none⟩=some (.slice a2 m.c.length c2))∧w'.cell? ⟨w.heap.size+1,0,none⟩=some (.int .i64 m'.kind)∧w'.cell? ⟨w.heap.size+1,1,none⟩=some (.int .i64 m'.fr)∧w'.cell? ⟨w.heap.size+1,2,none⟩=some (.int .i64 m'.tt)∧w'.cell? ⟨w.heap.size+1,3,none⟩=some (.int .i64 m'.v0)∧w'.cell? ⟨w.heap.size+1,4,none⟩=some (.int .i64 m'.v1)∧w'.cell? ⟨w.heap.size+1,5,none⟩=some (.int .i64 m'.v2)∧w'.cell? ⟨w.heap.size+1,6,none⟩=some (.int .i64 m'.v3)∧w'.cell? ⟨w.heap.size+1,7,none⟩=some (.slice bl qs.length dl)∧w'.cell? ⟨w.heap.size+1,8,none⟩=some (.slice b0 m'.es.length d0)∧w'.cell? ⟨w.heap.size+1,9,none⟩=some (.slice b1 m'.ks.len d1)∧w'.cell? ⟨w.heap.size+1,10,none⟩=some (.slice b2 m'.c.length d2))) 5 (by kernel_rfl) (fF.out _ (aj.drew _ _)) ?_
  intro hS
  clear y0 y1 y2 y3 y4 y5 y6 y7 y8 y9 aT z0 z1 z2 z3 z4 z5 z6 z7 z8 z9 z10 hlb hlc
  generalize w3.drew=Y0 at*
  refine aS 0 24 rfl rfl (v:=?_) (.inl ⟨by rfl,?_⟩) ?_
  rotate_left 1
  ·(intro w hSw;(try dsimp only at hSw);go_simp;(try with_reducible rfl))
  refine aS 2 26 rfl rfl (v:=?_) (.inl ⟨by rfl,?_⟩) ?_
  rotate_left 1
  ·(intro w hSw;(try dsimp only at hSw);go_simp;(try with_reducible rfl))
  try simp only[Act.put,aI,aJ,aN]
  refine bM (i:=1) (by kernel_rfl) rfl (fun K hK=>?_)
  go_simp
  refine(jw.out _ (aU.out.au (HW3.out.au hS.1))).mono ?_
  rintro e1 Y1 ⟨rfl,hf1⟩
  have hS1:=fF.out Y1 (hS.1.au hf1)
  refine hK.out _ _ hS1 ?_
  clear hK K hS
  have hS:=hS1
  clear hS1
  clear hf1
  try simp only[Act.put,aI,aJ,aN]
  refine bM (i:=3) (by kernel_rfl) rfl (fun K hK=>?_)
  go_simp
  refine(jD.out _ (aU.out.au (HW3.out.au hS.1))).mono ?_
  rintro e2 Y2 ⟨rfl,hf2⟩
  have hS1:=fF.out Y2 (hS.1.au hf2)
  refine hK.out _ _ hS1 ?_
  clear hK K hS
  have hS:=hS1
  clear hS1
  clear hf2
  try simp only[Act.put,aI,aJ,aN]
  refine aS 4 5 rfl rfl (v:=?_) (.inl ⟨by rfl,?_⟩) ?_
  rotate_left 1
  ·(intro w hSw;(try dsimp only at hSw);go_simp;(try with_reducible rfl))
  try simp only[Act.put,aI,aJ,aN]
  refine iQ (by kernel_rfl) (by kernel_rfl) rfl (fun K hK=>?_)
  go_simp
  refine hK.out _ _ ?_
  clear hK K
  go_wp2_with fail
  go_meet
  case rel=>exact⟨rfl,rfl,hS.1⟩
 case rest=>
  obtain⟨rfl,rfl,hf4⟩:=hcut
  obtain⟨w4,rfl⟩:∃w4,w4=wc:=⟨_,rfl⟩
  have hw4:=HW3.out.au hf4
  clear y0 y1 y2 y3 y4 y5 y6 y7 y8 y9 aT z0 z1 z2 z3 z4 z5 z6 z7 z8 z9 z10 hlb hlc hf4
  obtain⟨⟨y0,y1,y2,y3,y4,y5,y6,y7,y8,y9,aT⟩,z0,z1,z2,z3,z4,z5,z6,z7,z8,z9,z10⟩:=aQ.out _ hw4;have hlb:=World.block_lt_of_cell? _ _ y0;have hlc:=World.block_lt_of_cell? _ _ z0
  have lU:=ah hw4
  clear hw4
  go_wp2_with fail
  go_cut [42] (fun v42 w5=>v42= .bool false∧aj ay w4 w5)
  case first=>
   have fF:=ah (fun W (f:aj ay w4 W)=>(⟨f,aQ.out W (lU.out.au f)⟩:(fun w'=>aj ay w4 w'∧((w'.cell? ⟨w.heap.size,0,none⟩=some (.int .i64 m.kind)∧w'.cell? ⟨w.heap.size,1,none⟩=some (.int .i64 m.fr)∧w'.cell? ⟨w.heap.size,2,none⟩=some (.int .i64 m.tt)∧w'.cell? ⟨w.heap.size,3,none⟩=some (.int .i64 m.v0)∧w'.cell? ⟨w.heap.size,4,none⟩=some (.int .i64 m.v1)∧w'.cell? ⟨w.heap.size,5,none⟩=some (.int .i64 m.v2)∧w'.cell? ⟨w.heap.size,6,none⟩=some (.int .i64 m.v3)∧w'.cell? ⟨w.heap.size,7,none⟩=some (.slice al ps.length cl)∧w'.cell? ⟨w.heap.size,8,none⟩=some (.slice a0 m.es.length c0)∧w'.cell? ⟨w.heap.size,9,none⟩=some (.slice a1 m.ks.len c1)∧w'.cell? ⟨w.heap.size,10,none⟩=some (.slice a2 m.c.length c2))∧w'.cell? ⟨w.heap.size+1,0,none⟩=some (.int .i64 m'.kind)∧w'.cell? ⟨w.heap.size+1,1,none⟩=some (.int .i64 m'.fr)∧w'.cell? ⟨w.heap.size+1,2,none⟩=some (.int .i64 m'.tt)∧w'.cell? ⟨w.heap.size+1,3,none⟩=some (.int .i64 m'.v0)∧w'.cell? ⟨w.heap.size+1,4,none⟩=some (.int .i64 m'.v1)∧w'.cell? ⟨w.heap.size+1,5,none⟩=some (.int .i64 m'.v2)∧w'.cell? ⟨w.heap.size+1,6,none⟩=some (.int .i64 m'.v3)∧w'.cell? ⟨w.heap.size+1,7,none⟩=some (.slice bl qs.length dl)∧w'.cell? ⟨w.heap.size+1,8,none⟩=some (.slice b0 m'.es.length d0)∧w'.cell? ⟨w.heap.size+1,9,none⟩=some (.slice b1 m'.ks.len d1)∧w'.cell? ⟨w.heap.size+1,10,none⟩=some (.slice b2 m'.c.length d2))) W))
   refine iI (S:=fun w'=>aj ay w4 w'∧((w'.cell? ⟨w.heap.size,0,none⟩=some (.int .i64 m.kind)∧w'.cell? ⟨w.heap.size,1,none⟩=some (.int .i64 m.fr)∧w'.cell? ⟨w.heap.size,2,none⟩=some (.int .i64 m.tt)∧w'.cell? ⟨w.heap.size,3,none⟩=some (.int .i64 m.v0)∧w'.cell? ⟨w.heap.size,4,none⟩=some (.int .i64 m.v1)∧w'.cell? ⟨w.heap.size,5,none⟩=some (.int .i64 m.v2)∧w'.cell? ⟨w.heap.size,6,none⟩=some (.int .i64 m.v3)∧w'.cell? ⟨w.heap.size,7,none⟩=some (.slice al ps.length cl)∧w'.cell? ⟨w.heap.size,8,none⟩=some (.slice a0 m.es.length c0)∧w'.cell? ⟨w.heap.size,9,none⟩=some (.slice a1 m.ks.len c1)∧w'.cell? ⟨w.heap.size,10,none⟩=some (.slice a2 m.c.length c2))∧w'.cell? ⟨w.heap.size+1,0,none⟩=some (.int .i64 m'.kind)∧w'.cell? ⟨w.heap.size+1,1,none⟩=some (.int .i64 m'.fr)∧w'.cell? ⟨w.heap.size+1,2,none⟩=some (.int .i64 m'.tt)∧w'.cell? ⟨w.heap.size+1,3,none⟩=some (.int .i64 m'.v0)∧w'.cell? ⟨w.heap.size+1,4,none⟩=some (.int .i64 m'.v1)∧w'.cell? ⟨w.heap.size+1,5,none⟩=some (.int .i64 m'.v2)∧w'.cell? ⟨w.heap.size+1,6,none⟩=some (.int .i64 m'.v3)∧w'.cell? ⟨w.heap.size+1,7,none⟩=some (.slice bl qs.length dl)∧w'.cell? ⟨w.heap.size+1,8,none⟩=some (.slice b0 m'.es.length d0)∧w'.cell? ⟨w.heap.size+1,9,none⟩=some (.slice b1 m'.ks.len d1)∧w'.cell? ⟨w.heap.size+1,10,none⟩=some (.slice b2 m'.c.length d2))) 20 (by kernel_rfl) (fF.out _ (aj.drew _ _)) ?_
   intro hS
   clear y0 y1 y2 y3 y4 y5 y6 y7 y8 y9 aT z0 z1 z2 z3 z4 z5 z6 z7 z8 z9 z10 hlb hlc
   generalize w4.drew=Y0 at*
   refine iV 0 28 (v:=?_) rfl rfl (by kernel_rfl) (by rfl) (by kernel_rfl) (by kernel_rfl) (fun _ _ _ h=>h) (Or.inl ⟨by rfl,?_⟩) (by assumption) ?_
   rotate_left 1
   ·(intro w hSw;(try dsimp only at hSw);go_simp;(try with_reducible rfl))
   try simp only[Act.put,aI,aJ,aN]
   refine iV 2 30 (v:=?_) rfl rfl (by kernel_rfl) (by rfl) (by kernel_rfl) (by kernel_rfl) (fun _ _ _ h=>h) (Or.inl ⟨by rfl,?_⟩) (by assumption) ?_
   rotate_left 1
   ·(intro w hSw;(try dsimp only at hSw);go_simp;(try with_reducible rfl))
   try simp only[Act.put,aI,aJ,aN]
   refine iV 5 33 (v:=?_) rfl rfl (by kernel_rfl) (by rfl) (by kernel_rfl) (by kernel_rfl) (fun _ _ _ h=>h) (Or.inl ⟨by rfl,?_⟩) (by assumption) ?_
   rotate_left 1
   ·(intro w hSw;(try dsimp only at hSw);go_simp;(try with_reducible rfl))
   try simp only[Act.put,aI,aJ,aN]
   refine bM (i:=1) (by kernel_rfl) rfl (fun K hK=>?_)
   go_simp
   refine(wM.out _ (aU.out.au (lU.out.au hS.1))).mono ?_
   rintro e1 Y1 ⟨TM,rfl,uD,hf1⟩
   obtain⟨k1,j1,rfl⟩:=uD.bs.rd.sl
   try(have h1:=gJ.out.aO hf1;clear gJ;have gJ:=ah h1;clear h1)
   have dM:=ah uD;clear uD
   have hS1:=fF.out Y1 (hS.1.au hf1)
   refine hK.out _ _ hS1 ?_
   clear hK K hS
   have hS:=hS1
   clear hS1
   clear hf1
   try simp only[Act.put,aI,aJ,aN]
   refine bM (i:=3) (by kernel_rfl) rfl (fun K hK=>?_)
   go_simp
   refine(yu.out _ (aU.out.au (lU.out.au hS.1))).mono ?_
   rintro e3 Y3 ⟨TN,rfl,uF,hf3⟩
   obtain⟨k3,j3,rfl⟩:=uF.bs.rd.sl
   try(have h1:=dM.out.aO hf3;clear dM;have dM:=ah h1;clear h1)
   have gJ:=ah uF;clear uF
   have hS1:=fF.out Y3 (hS.1.au hf3)
   refine hK.out _ _ hS1 ?_
   clear hK K hS
   have hS:=hS1
   clear hS1
   clear hf3
   try simp only[Act.put,aI,aJ,aN]
   refine bM (i:=4) (by kernel_rfl) rfl (fun K hK=>?_)
   go_simp
   refine(yw.out _ _ _ dM.out gJ.out).mono ?_
   rintro e4 Y4 ⟨rfl,hf4⟩
   have hS1:=fF.out Y4 (hS.1.au hf4)
   refine hK.out _ _ hS1 ?_
   clear hK K hS
   have hS:=hS1
   clear hS1
   clear hf4 dM gJ
   try simp only[Act.put,aI,aJ,aN]
   refine iV 6 34 (v:=?_) rfl rfl (by kernel_rfl) (by rfl) (by kernel_rfl) (by kernel_rfl) (fun _ _ _ h=>h) (Or.inl ⟨by rfl,?_⟩) (by assumption) ?_
   rotate_left 1
   ·(intro w hSw;(try dsimp only at hSw);go_simp;(try with_reducible rfl))
   try simp only[Act.put,aI,aJ,aN]
   refine iV 7 35 (v:=?_) rfl rfl (by kernel_rfl) (by rfl) (by kernel_rfl) (by kernel_rfl) (fun _ _ _ h=>h) (Or.inl ⟨by rfl,?_⟩) (by assumption) ?_
   rotate_left 1
   ·(intro w hSw;(try dsimp only at hSw);go_simp;(try with_reducible rfl))
   try simp only[Act.put,aI,aJ,aN]
   refine iV 8 36 (v:=?_) rfl rfl (by kernel_rfl) (by rfl) (by kernel_rfl) (by kernel_rfl) (fun _ _ _ h=>h) (Or.inl ⟨by rfl,?_⟩) (by assumption) ?_
   rotate_left 1
   ·(intro w hSw;(try dsimp only at hSw);go_simp;(try with_reducible rfl))
   try simp only[Act.put,aI,aJ,aN]
   refine iV 9 37 (v:=?_) rfl rfl (by kernel_rfl) (by rfl) (by kernel_rfl) (by kernel_rfl) (fun _ _ _ h=>h) (Or.inl ⟨by rfl,?_⟩) (by assumption) ?_
   rotate_left 1
   ·(intro w hSw;(try dsimp only at hSw);go_simp;(try with_reducible rfl))
   try simp only[Act.put,aI,aJ,aN]
   refine iV 10 38 (v:=?_) rfl rfl (by kernel_rfl) (by rfl) (by kernel_rfl) (by kernel_rfl) (fun _ _ _ h=>h) (Or.inl ⟨by rfl,?_⟩) (by assumption) ?_
   rotate_left 1
   ·(intro w hSw;(try dsimp only at hSw);go_simp;(try with_reducible rfl))
   try simp only[Act.put,aI,aJ,aN]
   refine iV 11 39 (v:=?_) rfl rfl (by kernel_rfl) (by rfl) (by kernel_rfl) (by kernel_rfl) (fun _ _ _ h=>h) (Or.inl ⟨by rfl,?_⟩) (by assumption) ?_
   rotate_left 1
   ·(intro w hSw;(try dsimp only at hSw);go_simp;(try with_reducible rfl))
   try simp only[Act.put,aI,aJ,aN]
   refine bM (i:=12) (by kernel_rfl) rfl (fun K hK=>?_)
   go_simp
   refine(zA.out _ (aU.out.au (lU.out.au hS.1))).mono ?_
   rintro e12 Y12 ⟨rfl,GL⟩
   try(have h1:=dM.out.aO GL;clear dM;have dM:=ah h1;clear h1)
   try(have h1:=gJ.out.aO GL;clear gJ;have gJ:=ah h1;clear h1)
   have hS1:=fF.out Y12 (hS.1.au GL)
   refine hK.out _ _ hS1 ?_
   clear hK K hS
   have hS:=hS1
   clear hS1
   clear GL
   try simp only[Act.put,aI,aJ,aN]
   refine iV 13 41 (v:=?_) rfl rfl (by kernel_rfl) (by rfl) (by kernel_rfl) (by kernel_rfl) (fun _ _ _ h=>h) (Or.inl ⟨by rfl,?_⟩) (by assumption) ?_
   rotate_left 1
   ·(intro w hSw;(try dsimp only at hSw);go_simp;(try with_reducible rfl))
   try simp only[Act.put,aI,aJ,aN]
   refine bM (i:=14) (by kernel_rfl) rfl (fun K hK=>?_)
   go_simp
   refine hK.out _ _ hS ?_
   clear hK K
   refine LZ (by kernel_rfl) ?_
   go_wp2_with fail
   go_meet
   case rel=>exact⟨by first|rfl|simp,hS.1⟩
  case rest=>
   obtain⟨rfl,hf5⟩:=hcut
   obtain⟨w5,rfl⟩:∃w5,w5=wc:=⟨_,rfl⟩
   have hw5:=lU.out.au hf5
   clear y0 y1 y2 y3 y4 y5 y6 y7 y8 y9 aT z0 z1 z2 z3 z4 z5 z6 z7 z8 z9 z10 hlb hlc hf5
   obtain⟨⟨y0,y1,y2,y3,y4,y5,y6,y7,y8,y9,aT⟩,z0,z1,z2,z3,z4,z5,z6,z7,z8,z9,z10⟩:=aQ.out _ hw5;have hlb:=World.block_lt_of_cell? _ _ y0;have hlc:=World.block_lt_of_cell? _ _ z0
   have qA:=ah hw5
   clear hw5
   cases y with
   |true=>
    have TP:=ah (kQ.out.1 rfl)
    clear kQ
    go_wp2_with(first
     |(go_at_call 21;first|(have q9:=mD;clear q9;refine(yu.out _ (aU.out.au mD.out)).mono ?_;rintro e w8 ⟨Me,rfl,oQ,dS⟩;obtain⟨k8,j8,rfl⟩:=oQ.bs.rd.sl;clear y0 y1 y2 y3 y4 y5 y6 y7 y8 y9 aT z0 z1 z2 z3 z4 z5 z6 z7 z8 z9 z10 hlb hlc;obtain⟨⟨y0,y1,y2,y3,y4,y5,y6,y7,y8,y9,aT⟩,z0,z1,z2,z3,z4,z5,z6,z7,z8,z9,z10⟩:=aQ.out w8 (mD.out.au dS);have hlb:=World.block_lt_of_cell? _ _ y0;have hlc:=World.block_lt_of_cell? _ _ z0;have gJ:=ah oQ;have rD:=ah (mD.out.au dS);have MC:=ah (yY.out.step dS);clear oQ dS)|(refine(wM.out _ (aU.out.au qA.out)).mono ?_;rintro e w6 ⟨MB,rfl,oU,eP⟩;obtain⟨k6,j6,rfl⟩:=oU.bs.rd.sl;clear y0 y1 y2 y3 y4 y5 y6 y7 y8 y9 aT z0 z1 z2 z3 z4 z5 z6 z7 z8 z9 z10 hlb hlc;obtain⟨⟨y0,y1,y2,y3,y4,y5,y6,y7,y8,y9,aT⟩,z0,z1,z2,z3,z4,z5,z6,z7,z8,z9,z10⟩:=aQ.out w6 (qA.out.au eP);have hlb:=World.block_lt_of_cell? _ _ y0;have hlc:=World.block_lt_of_cell? _ _ z0;have dM:=ah oU;have uG:=ah (qA.out.au eP);clear oU eP))
     |(go_at_call 17;first|(have q9:=rD;clear q9;refine(sJ.out _ _ gJ.out).mono ?_;rintro e w9 ⟨g9,j9,t9,jP,rfl,jB⟩;subst jP;clear y0 y1 y2 y3 y4 y5 y6 y7 y8 y9 aT z0 z1 z2 z3 z4 z5 z6 z7 z8 z9 z10 hlb hlc;obtain⟨⟨y0,y1,y2,y3,y4,y5,y6,y7,y8,y9,aT⟩,z0,z1,z2,z3,z4,z5,z6,z7,z8,z9,z10⟩:=aQ.out w9 (rD.out.au jB.aP);have hlb:=World.block_lt_of_cell? _ _ y0;have hlc:=World.block_lt_of_cell? _ _ z0;have uH:=ah (rD.out.au jB.aP);have oO:=ah (MC.out.step jB.aP);have MF:=ah jB;clear jB)|(refine(nN.out _ _ dM.out).mono ?_;rintro e w7 ⟨g7,j7,t7,D_,rfl,lC⟩;subst D_;clear y0 y1 y2 y3 y4 y5 y6 y7 y8 y9 aT z0 z1 z2 z3 z4 z5 z6 z7 z8 z9 z10 hlb hlc;obtain⟨⟨y0,y1,y2,y3,y4,y5,y6,y7,y8,y9,aT⟩,z0,z1,z2,z3,z4,z5,z6,z7,z8,z9,z10⟩:=aQ.out w7 (uG.out.au lC.aP);have hlb:=World.block_lt_of_cell? _ _ y0;have hlc:=World.block_lt_of_cell? _ _ z0;have mD:=ah (uG.out.au lC.aP);have yY:=ah lC;clear lC)))
    have fF:=ah (fun W (f:aj ay w9 W)=>(⟨f,aQ.out W (uH.out.au f),Cm (oO.out.step f).rd,Cm (MF.out.step f).rd⟩:(fun w'=>aj ay w9 w'∧((w'.cell? ⟨w.heap.size,0,none⟩=some (.int .i64 m.kind)∧w'.cell? ⟨w.heap.size,1,none⟩=some (.int .i64 m.fr)∧w'.cell? ⟨w.heap.size,2,none⟩=some (.int .i64 m.tt)∧w'.cell? ⟨w.heap.size,3,none⟩=some (.int .i64 m.v0)∧w'.cell? ⟨w.heap.size,4,none⟩=some (.int .i64 m.v1)∧w'.cell? ⟨w.heap.size,5,none⟩=some (.int .i64 m.v2)∧w'.cell? ⟨w.heap.size,6,none⟩=some (.int .i64 m.v3)∧w'.cell? ⟨w.heap.size,7,none⟩=some (.slice al ps.length cl)∧w'.cell? ⟨w.heap.size,8,none⟩=some (.slice a0 m.es.length c0)∧w'.cell? ⟨w.heap.size,9,none⟩=some (.slice a1 m.ks.len c1)∧w'.cell? ⟨w.heap.size,10,none⟩=some (.slice a2 m.c.length c2))∧w'.cell? ⟨w.heap.size+1,0,none⟩=some (.int .i64 m'.kind)∧w'.cell? ⟨w.heap.size+1,1,none⟩=some (.int .i64 m'.fr)∧w'.cell? ⟨w.heap.size+1,2,none⟩=some (.int .i64 m'.tt)∧w'.cell? ⟨w.heap.size+1,3,none⟩=some (.int .i64 m'.v0)∧w'.cell? ⟨w.heap.size+1,4,none⟩=some (.int .i64 m'.v1)∧w'.cell? ⟨w.heap.size+1,5,none⟩=some (.int .i64 m'.v2)∧w'.cell? ⟨w.heap.size+1,6,none⟩=some (.int .i64 m'.v3)∧w'.cell? ⟨w.heap.size+1,7,none⟩=some (.slice bl qs.length dl)∧w'.cell? ⟨w.heap.size+1,8,none⟩=some (.slice b0 m'.es.length d0)∧w'.cell? ⟨w.heap.size+1,9,none⟩=some (.slice b1 m'.ks.len d1)∧w'.cell? ⟨w.heap.size+1,10,none⟩=some (.slice b2 m'.c.length d2))∧(convert 22 9 (.slice g7 t7.length j7)).run Tryz.prog w'= .ok (.string ⟨t7.toArray⟩) w'∧(convert 22 9 (.slice g9 t9.length j9)).run Tryz.prog w'= .ok (.string ⟨t9.toArray⟩) w') W))
    refine iI (S:=fun w'=>aj ay w9 w'∧((w'.cell? ⟨w.heap.size,0,none⟩=some (.int .i64 m.kind)∧w'.cell? ⟨w.heap.size,1,none⟩=some (.int .i64 m.fr)∧w'.cell? ⟨w.heap.size,2,none⟩=some (.int .i64 m.tt)∧w'.cell? ⟨w.heap.size,3,none⟩=some (.int .i64 m.v0)∧w'.cell? ⟨w.heap.size,4,none⟩=some (.int .i64 m.v1)∧w'.cell? ⟨w.heap.size,5,none⟩=some (.int .i64 m.v2)∧w'.cell? ⟨w.heap.size,6,none⟩=some (.int .i64 m.v3)∧w'.cell? ⟨w.heap.size,7,none⟩=some (.slice al ps.length cl)∧w'.cell? ⟨w.heap.size,8,none⟩=some (.slice a0 m.es.length c0)∧w'.cell? ⟨w.heap.size,9,none⟩=some (.slice a1 m.ks.len c1)∧w'.cell? ⟨w.heap.size,10,none⟩=some (.slice a2 m.c.length c2))∧w'.cell? ⟨w.heap.size+1,0,none⟩=some (.int .i64 m'.kind)∧w'.cell? ⟨w.heap.size+1,1,none⟩=some (.int .i64 m'.fr)∧w'.cell? ⟨w.heap.size+1,2,none⟩=some (.int .i64 m'.tt)∧w'.cell? ⟨w.heap.size+1,3,none⟩=some (.int .i64 m'.v0)∧w'.cell? ⟨w.heap.size+1,4,none⟩=some (.int .i64 m'.v1)∧w'.cell? ⟨w.heap.size+1,5,none⟩=some (.int .i64 m'.v2)∧w'.cell? ⟨w.heap.size+1,6,none⟩=some (.int .i64 m'.v3)∧w'.cell? ⟨w.heap.size+1,7,none⟩=some (.slice bl qs.length dl)∧w'.cell? ⟨w.heap.size+1,8,none⟩=some (.slice b0 m'.es.length d0)∧w'.cell? ⟨w.heap.size+1,9,none⟩=some (.slice b1 m'.ks.len d1)∧w'.cell? ⟨w.heap.size+1,10,none⟩=some (.slice b2 m'.c.length d2))∧(convert 22 9 (.slice g7 t7.length j7)).run Tryz.prog w'= .ok (.string ⟨t7.toArray⟩) w'∧(convert 22 9 (.slice g9 t9.length j9)).run Tryz.prog w'= .ok (.string ⟨t9.toArray⟩) w') 9 (by kernel_rfl) (fF.out _ (aj.drew _ _)) ?_
    intro hS
    clear y0 y1 y2 y3 y4 y5 y6 y7 y8 y9 aT z0 z1 z2 z3 z4 z5 z6 z7 z8 z9 z10 hlb hlc
    generalize w9.drew=Y0 at*
    refine aS 0 67 rfl rfl (v:=?_) (.inl ⟨by rfl,?_⟩) ?_
    rotate_left 1
    ·(intro w hSw;(try dsimp only at hSw);go_simp;(try with_reducible rfl))
    refine aS 1 68 rfl rfl (v:=?_) (.inl ⟨by rfl,?_⟩) ?_
    rotate_left 1
    ·(intro w hSw;(try dsimp only at hSw);go_simp;(try with_reducible rfl))
    try simp only[Act.put,aI,aJ,aN]
    refine aS 2 69 rfl rfl (v:=?_) (.inl ⟨by rfl,?_⟩) ?_
    rotate_left 1
    ·(intro w hSw;(try dsimp only at hSw);go_simp;(try with_reducible rfl))
    refine aS 3 70 rfl rfl (v:=?_) (.inl ⟨by rfl,?_⟩) ?_
    rotate_left 1
    ·(intro w hSw;(try dsimp only at hSw);go_simp;(try with_reducible rfl))
    try simp only[Act.put,aI,aJ,aN]
    refine aS 4 71 rfl rfl (v:=?_) (.inl ⟨by rfl,?_⟩) ?_
    rotate_left 1
    ·(intro w hSw;(try dsimp only at hSw);go_simp;(try with_reducible rfl))
    refine aS 5 72 rfl rfl (v:=?_) (.inl ⟨by rfl,?_⟩) ?_
    rotate_left 1
    ·(intro w hSw;(try dsimp only at hSw);go_simp;(try with_reducible rfl))
    try simp only[Act.put,aI,aJ,aN]
    refine aS 6 73 rfl rfl (v:=?_) (.inl ⟨by rfl,?_⟩) ?_
    rotate_left 1
    ·(intro w hSw;(try dsimp only at hSw);go_simp;(try with_reducible rfl))
    try simp only[Act.put,aI,aJ,aN]
    refine bM (i:=7) (by kernel_rfl) rfl (fun K hK=>?_)
    go_simp
    refine(zA.out _ (aU.out.au (uH.out.au hS.1))).mono ?_
    rintro e1 Y1 ⟨rfl,hf1⟩
    have hS1:=fF.out Y1 (hS.1.au hf1)
    refine hK.out _ _ hS1 ?_
    clear hK K hS
    have hS:=hS1
    clear hS1
    clear hf1
    try simp only[Act.put,aI,aJ,aN]
    refine aS 8 75 rfl rfl (v:=?_) (.inl ⟨by rfl,?_⟩) ?_
    rotate_left 1
    ·(intro w hSw;(try dsimp only at hSw);go_simp;(try with_reducible rfl))
    try simp only[Act.put,aI,aJ,aN]
    refine iQ (by kernel_rfl) (by kernel_rfl) rfl (fun K hK=>?_)
    go_simp
    refine hK.out _ _ ?_
    clear hK K
    go_wp2
    go_ret
    exact⟨by first|rfl|(have h:=TP.out;simp[h];done)|(have h:=TP.out;simp;exact fun e=>h (by rw[e])),aU.out.au (uH.out.au hS.1)⟩
   |false=>
    have TQ:=ah (kQ.out.2 rfl)
    clear kQ
    go_wp2_with(first
     |(go_at_call 21;first|(have q9:=mD;clear q9;refine(yu.out _ (aU.out.au mD.out)).mono ?_;rintro e w8 ⟨Me,rfl,oQ,dS⟩;obtain⟨k8,j8,rfl⟩:=oQ.bs.rd.sl;clear y0 y1 y2 y3 y4 y5 y6 y7 y8 y9 aT z0 z1 z2 z3 z4 z5 z6 z7 z8 z9 z10 hlb hlc;obtain⟨⟨y0,y1,y2,y3,y4,y5,y6,y7,y8,y9,aT⟩,z0,z1,z2,z3,z4,z5,z6,z7,z8,z9,z10⟩:=aQ.out w8 (mD.out.au dS);have hlb:=World.block_lt_of_cell? _ _ y0;have hlc:=World.block_lt_of_cell? _ _ z0;have gJ:=ah oQ;have rD:=ah (mD.out.au dS);have MC:=ah (yY.out.step dS);clear oQ dS)|(refine(wM.out _ (aU.out.au qA.out)).mono ?_;rintro e w6 ⟨MB,rfl,oU,eP⟩;obtain⟨k6,j6,rfl⟩:=oU.bs.rd.sl;clear y0 y1 y2 y3 y4 y5 y6 y7 y8 y9 aT z0 z1 z2 z3 z4 z5 z6 z7 z8 z9 z10 hlb hlc;obtain⟨⟨y0,y1,y2,y3,y4,y5,y6,y7,y8,y9,aT⟩,z0,z1,z2,z3,z4,z5,z6,z7,z8,z9,z10⟩:=aQ.out w6 (qA.out.au eP);have hlb:=World.block_lt_of_cell? _ _ y0;have hlc:=World.block_lt_of_cell? _ _ z0;have dM:=ah oU;have uG:=ah (qA.out.au eP);clear oU eP))
     |(go_at_call 17;first|(have q9:=rD;clear q9;refine(sJ.out _ _ gJ.out).mono ?_;rintro e w9 ⟨g9,j9,t9,jP,rfl,jB⟩;subst jP;clear y0 y1 y2 y3 y4 y5 y6 y7 y8 y9 aT z0 z1 z2 z3 z4 z5 z6 z7 z8 z9 z10 hlb hlc;obtain⟨⟨y0,y1,y2,y3,y4,y5,y6,y7,y8,y9,aT⟩,z0,z1,z2,z3,z4,z5,z6,z7,z8,z9,z10⟩:=aQ.out w9 (rD.out.au jB.aP);have hlb:=World.block_lt_of_cell? _ _ y0;have hlc:=World.block_lt_of_cell? _ _ z0;have uH:=ah (rD.out.au jB.aP);have oO:=ah (MC.out.step jB.aP);have MF:=ah jB;clear jB)|(refine(nN.out _ _ dM.out).mono ?_;rintro e w7 ⟨g7,j7,t7,D_,rfl,lC⟩;subst D_;clear y0 y1 y2 y3 y4 y5 y6 y7 y8 y9 aT z0 z1 z2 z3 z4 z5 z6 z7 z8 z9 z10 hlb hlc;obtain⟨⟨y0,y1,y2,y3,y4,y5,y6,y7,y8,y9,aT⟩,z0,z1,z2,z3,z4,z5,z6,z7,z8,z9,z10⟩:=aQ.out w7 (uG.out.au lC.aP);have hlb:=World.block_lt_of_cell? _ _ y0;have hlc:=World.block_lt_of_cell? _ _ z0;have mD:=ah (uG.out.au lC.aP);have yY:=ah lC;clear lC)))
    have fF:=ah (fun W (f:aj ay w9 W)=>(⟨f,aQ.out W (uH.out.au f),Cm (oO.out.step f).rd,Cm (MF.out.step f).rd⟩:(fun w'=>aj ay w9 w'∧((w'.cell? ⟨w.heap.size,0,none⟩=some (.int .i64 m.kind)∧w'.cell? ⟨w.heap.size,1,none⟩=some (.int .i64 m.fr)∧w'.cell? ⟨w.heap.size,2,none⟩=some (.int .i64 m.tt)∧w'.cell? ⟨w.heap.size,3,none⟩=some (.int .i64 m.v0)∧w'.cell? ⟨w.heap.size,4,none⟩=some (.int .i64 m.v1)∧w'.cell? ⟨w.heap.size,5,none⟩=some (.int .i64 m.v2)∧w'.cell? ⟨w.heap.size,6,none⟩=some (.int .i64 m.v3)∧w'.cell? ⟨w.heap.size,7,none⟩=some (.slice al ps.length cl)∧w'.cell? ⟨w.heap.size,8,none⟩=some (.slice a0 m.es.length c0)∧w'.cell? ⟨w.heap.size,9,none⟩=some (.slice a1 m.ks.len c1)∧w'.cell? ⟨w.heap.size,10,none⟩=some (.slice a2 m.c.length c2))∧w'.cell? ⟨w.heap.size+1,0,none⟩=some (.int .i64 m'.kind)∧w'.cell? ⟨w.heap.size+1,1,none⟩=some (.int .i64 m'.fr)∧w'.cell? ⟨w.heap.size+1,2,none⟩=some (.int .i64 m'.tt)∧w'.cell? ⟨w.heap.size+1,3,none⟩=some (.int .i64 m'.v0)∧w'.cell? ⟨w.heap.size+1,4,none⟩=some (.int .i64 m'.v1)∧w'.cell? ⟨w.heap.size+1,5,none⟩=some (.int .i64 m'.v2)∧w'.cell? ⟨w.heap.size+1,6,none⟩=some (.int .i64 m'.v3)∧w'.cell? ⟨w.heap.size+1,7,none⟩=some (.slice bl qs.length dl)∧w'.cell? ⟨w.heap.size+1,8,none⟩=some (.slice b0 m'.es.length d0)∧w'.cell? ⟨w.heap.size+1,9,none⟩=some (.slice b1 m'.ks.len d1)∧w'.cell? ⟨w.heap.size+1,10,none⟩=some (.slice b2 m'.c.length d2))∧(convert 22 9 (.slice g7 t7.length j7)).run Tryz.prog w'= .ok (.string ⟨t7.toArray⟩) w'∧(convert 22 9 (.slice g9 t9.length j9)).run Tryz.prog w'= .ok (.string ⟨t9.toArray⟩) w') W))
    refine iI (S:=fun w'=>aj ay w9 w'∧((w'.cell? ⟨w.heap.size,0,none⟩=some (.int .i64 m.kind)∧w'.cell? ⟨w.heap.size,1,none⟩=some (.int .i64 m.fr)∧w'.cell? ⟨w.heap.size,2,none⟩=some (.int .i64 m.tt)∧w'.cell? ⟨w.heap.size,3,none⟩=some (.int .i64 m.v0)∧w'.cell? ⟨w.heap.size,4,none⟩=some (.int .i64 m.v1)∧w'.cell? ⟨w.heap.size,5,none⟩=some (.int .i64 m.v2)∧w'.cell? ⟨w.heap.size,6,none⟩=some (.int .i64 m.v3)∧w'.cell? ⟨w.heap.size,7,none⟩=some (.slice al ps.length cl)∧w'.cell? ⟨w.heap.size,8,none⟩=some (.slice a0 m.es.length c0)∧w'.cell? ⟨w.heap.size,9,none⟩=some (.slice a1 m.ks.len c1)∧w'.cell? ⟨w.heap.size,10,none⟩=some (.slice a2 m.c.length c2))∧w'.cell? ⟨w.heap.size+1,0,none⟩=some (.int .i64 m'.kind)∧w'.cell? ⟨w.heap.size+1,1,none⟩=some (.int .i64 m'.fr)∧w'.cell? ⟨w.heap.size+1,2,none⟩=some (.int .i64 m'.tt)∧w'.cell? ⟨w.heap.size+1,3,none⟩=some (.int .i64 m'.v0)∧w'.cell? ⟨w.heap.size+1,4,none⟩=some (.int .i64 m'.v1)∧w'.cell? ⟨w.heap.size+1,5,none⟩=some (.int .i64 m'.v2)∧w'.cell? ⟨w.heap.size+1,6,none⟩=some (.int .i64 m'.v3)∧w'.cell? ⟨w.heap.size+1,7,none⟩=some (.slice bl qs.length dl)∧w'.cell? ⟨w.heap.size+1,8,none⟩=some (.slice b0 m'.es.length d0)∧w'.cell? ⟨w.heap.size+1,9,none⟩=some (.slice b1 m'.ks.len d1)∧w'.cell? ⟨w.heap.size+1,10,none⟩=some (.slice b2 m'.c.length d2))∧(convert 22 9 (.slice g7 t7.length j7)).run Tryz.prog w'= .ok (.string ⟨t7.toArray⟩) w'∧(convert 22 9 (.slice g9 t9.length j9)).run Tryz.prog w'= .ok (.string ⟨t9.toArray⟩) w') 9 (by kernel_rfl) (fF.out _ (aj.drew _ _)) ?_
    intro hS
    clear y0 y1 y2 y3 y4 y5 y6 y7 y8 y9 aT z0 z1 z2 z3 z4 z5 z6 z7 z8 z9 z10 hlb hlc
    generalize w9.drew=Y0 at*
    refine aS 0 67 rfl rfl (v:=?_) (.inl ⟨by rfl,?_⟩) ?_
    rotate_left 1
    ·(intro w hSw;(try dsimp only at hSw);go_simp;(try with_reducible rfl))
    refine aS 1 68 rfl rfl (v:=?_) (.inl ⟨by rfl,?_⟩) ?_
    rotate_left 1
    ·(intro w hSw;(try dsimp only at hSw);go_simp;(try with_reducible rfl))
    try simp only[Act.put,aI,aJ,aN]
    refine aS 2 69 rfl rfl (v:=?_) (.inl ⟨by rfl,?_⟩) ?_
    rotate_left 1
    ·(intro w hSw;(try dsimp only at hSw);go_simp;(try with_reducible rfl))
    refine aS 3 70 rfl rfl (v:=?_) (.inl ⟨by rfl,?_⟩) ?_
    rotate_left 1
    ·(intro w hSw;(try dsimp only at hSw);go_simp;(try with_reducible rfl))
    try simp only[Act.put,aI,aJ,aN]
    refine aS 4 71 rfl rfl (v:=?_) (.inl ⟨by rfl,?_⟩) ?_
    rotate_left 1
    ·(intro w hSw;(try dsimp only at hSw);go_simp;(try with_reducible rfl))
    refine aS 5 72 rfl rfl (v:=?_) (.inl ⟨by rfl,?_⟩) ?_
    rotate_left 1
    ·(intro w hSw;(try dsimp only at hSw);go_simp;(try with_reducible rfl))
    try simp only[Act.put,aI,aJ,aN]
    refine aS 6 73 rfl rfl (v:=?_) (.inl ⟨by rfl,?_⟩) ?_
    rotate_left 1
    ·(intro w hSw;(try dsimp only at hSw);go_simp;(try with_reducible rfl))
    try simp only[Act.put,aI,aJ,aN]
    refine bM (i:=7) (by kernel_rfl) rfl (fun K hK=>?_)
    go_simp
    refine(zA.out _ (aU.out.au (uH.out.au hS.1))).mono ?_
    rintro e1 Y1 ⟨rfl,hf1⟩
    have hS1:=fF.out Y1 (hS.1.au hf1)
    refine hK.out _ _ hS1 ?_
    clear hK K hS
    have hS:=hS1
    clear hS1
    clear hf1
    try simp only[Act.put,aI,aJ,aN]
    refine aS 8 75 rfl rfl (v:=?_) (.inl ⟨by rfl,?_⟩) ?_
    rotate_left 1
    ·(intro w hSw;(try dsimp only at hSw);go_simp;(try with_reducible rfl))
    try simp only[Act.put,aI,aJ,aN]
    refine iQ (by kernel_rfl) (by kernel_rfl) rfl (fun K hK=>?_)
    go_simp
    refine hK.out _ _ ?_
    clear hK K
    go_wp2
    go_ret
    exact⟨by first|rfl|(have h:=TQ.out;simp[h];done)|(have h:=TQ.out;simp;exact fun e=>h (by rw[e])),aU.out.au (uH.out.au hS.1)⟩
theorem acu (w:World) (v:Value) (h:zo w v) (u:Value) (hu:zo w u):Calls Tryz.prog 4 #[v,u] w fun e w'=>e= .returned (.bool true)∧aj (fun _=>False) w w':=acr w v u h hu
end Go.Proofs.YtabkpccdnkjoiaaGreat
