/- Words for the law ShardParts: Only2, Only3, Only4, Only5, Varint, CrcP, Out, Crc. -/
import Derived.Test.YtlhmbkjdfjoilaaGreatShardPartsG0
import Derived.Test.YtlhmbkjdfjoilaaGreatShardPartsG1
import Derived.Test.YtlhmbkjdfjoilaaGreatShardPartsG9
import Derived.Test.YtlhmbkjdfjoilaaGreatShardPartsG10
import Derived.Test.YtlhmbkjdfjoilaaGreatShardPartsG12
import Derived.WalkKit
import Derived.Test.YtlhmbkjdfjoilaaGreatProg
import Derived.Deep.AppendSrc
import Derived.Outline
set_option linter.unusedSimpArgs false
set_option linter.unusedVariables false
set_option maxHeartbeats 32000000
set_option maxRecDepth 1000000
namespace Go.Proofs.YtlhmbkjdfjoilaaGreat
open Go.RowKit
def bH (p:ByteArray→Bool):aH→aH
 | .nil=> .nil
 | .cons key es sub rest=>if p key=true then .cons key es sub (bH p rest)else bH p rest
theorem LK (p:ByteArray→Bool):∀l:List aY,bH p (mkK l)=mkK (l.filter fun q=>p q.key)
 |[]=>rfl
 |q::l=>by
  show(if p q.key=true then aH.cons q.key q.es q.sub (bH p (mkK l))else bH p (mkK l))=_
  rw[LK p l,List.filter_cons]
  split<;>rfl
def aY.shaped (q:aY):Prop:=(∃a n c,q.ev= .slice a n c)∧∃a n c,q.kv= .slice a n c
theorem zy:∀(l:List aY) (j:Nat),j<l.length→(l.flatMap aY.cells)[j*3]?=some (.string (l.getD j default).key)∧(l.flatMap aY.cells)[j*3+1]?=some (l.getD j default).ev∧(l.flatMap aY.cells)[j*3+2]?=some (l.getD j default).kv
 |[],_,h=>by cases h
 |q::l,0,_=>⟨rfl,rfl,rfl⟩
 |q::l,j+1,h=>by
  obtain⟨h1,h2,h3⟩:=zy l j (by simpa using h)
  refine⟨?_,?_,?_⟩
  ·rw[show(j+1)*3=j*3+1+1+1 by omega];exact h1
  ·rw[show(j+1)*3+1=(j*3+1)+1+1+1 by omega];exact h2
  ·rw[show(j+1)*3+2=(j*3+2)+1+1+1 by omega];exact h3
theorem LM:∀(l:List aY) (i:Nat) (q:aY),i<l.length→(l.set i q).flatMap aY.cells=(((l.flatMap aY.cells).set (i*3) (.string q.key)).set (i*3+1) q.ev).set (i*3+2) q.kv
 |[],_,_,h=>by cases h
 |x::l,0,q,_=>rfl
 |x::l,i+1,q,h=>by
  have ih:=LM l i q (by simpa using h)
  rw[aO,List.flatMap_cons,ih,List.flatMap_cons]
  rw[show(i+1)*3=i*3+1+1+1 by omega,show i*3+1+1+1+1=(i*3+1)+1+1+1 by omega,show i*3+1+1+1+2=(i*3+2)+1+1+1 by omega]
  rfl
theorem Uz (l:List aY) (i:Nat):(l.take i).flatMap aY.cells=(l.flatMap aY.cells).take (i*3):=by
 induction l generalizing i with
 |nil=>simp
 |cons q l ih=>
  cases i with
  |zero=>simp
  |succ i=>
   rw[List.take_succ_cons,List.flatMap_cons,ih,List.flatMap_cons,show(i+1)*3=i*3+1+1+1 by omega]
   rfl
theorem UA (w:World) (b o n c:Nat) (hn:0<n) (hc:∀j,j<n*3→(w.cell? ⟨b,o+j,none⟩).isSome=true) (hf:∀j,j<n*3→w.frozen? ⟨b,o+j,none⟩=false):
 ∃Z:List Value,Z.length=n*3∧∀ty,(Builtin.clear_ #[26] ty #[.slice (some ⟨b,o,none⟩) n c]).run Tryz.prog w= .ok (.tuple #[]) (w.setCells b o Z):=by
 obtain⟨Z,hZ⟩:∃Z,Z=(Builtin.zeroCells #[.string ByteArray.empty, .slice none 0 0, .slice none 0 0] n).toList:=⟨_,rfl⟩
 have hl:Z.length=n*3:=by rw[hZ,Array.length_toList,size_zeroCells];rfl
 have h1:∀v∈Z,v.oneCell'=true:=fun v hv=>by
  rw[hZ]at hv
  simp[Builtin.zeroCells]at hv
  obtain⟨i,_,rfl⟩:=hv
  have:i%3<3:=Nat.mod_lt _ (by decide)
  rcases(by omega:i%3=0∨i%3=1∨i%3=2)with h|h|h<;>simp[h,Value.oneCell']
 refine⟨Z,hl,fun ty=>?_⟩
 have hst:=run_storeCells_cells (P:=Tryz.prog) b o Z 0 w (by rw[hl];simpa using hc) (by rw[hl];simpa using hf) h1
 simp only[Nat.add_zero]at hst
 obtain⟨m,rfl⟩:∃m,n=m+1:=⟨n-1,by omega⟩
 have hz:∀w,(zeroValue 52).run Tryz.prog w= .ok (.agg #[.string ByteArray.empty, .slice none 0 0, .slice none 0 0]) w:=Tryz.zeroValue52
 have hv:(Value.agg #[.string ByteArray.empty, .slice none 0 0, .slice none 0 0]).cells= #[.string ByteArray.empty, .slice none 0 0, .slice none 0 0]:=rfl
 simp[Builtin.clear_,run_underlying Tryz.underlying26,hz,hv,←hZ,hst]
noncomputable def fM (keys:List ByteArray) (q:aY):Bool:= !tf (q.key∈keys)
theorem UC (keys:List ByteArray) (l:List aY) (b:Nat) (w:World) (v vk:Value) (h:Rd w v l.length (l.flatMap aY.cells)) (hs:∀q∈l,q.shaped) (hl:l.length≤100000) (hk:Rd w vk keys.length (keys.map .string)) (hkl:keys.length≤1000000) (hb:w.cell? ⟨b,0,none⟩=some vk):
 Calls Tryz.prog 168 #[v, .func (.func 132) #[] #[.pointer (some ⟨b,0,none⟩)]] w fun e w'=>aj au w w'∧(l.any (fM keys)=true→∃k:Nat,e= .returned (.int .i64 k)∧k<l.length∧fM keys (l.getD k default)=true∧(l.take k).any (fM keys)=false)∧(l.any (fM keys)=false→e= .returned (.int .i64 (-1))):=by
 have eg:∀args w,(callFunc 132 args).run Tryz.prog w= .ok (.enter 132 args) w:=enters_of Tryz.func132 (by kernel_rfl) rfl
 have HP:=ah (fun key a n c a' n' c' W (f:aj au w W)=>KP keys key a a' n c n' c' b vk W (hk.aN f) hkl (f.cell' hb id));clear hb hk
 obtain⟨A,hA⟩:∃A,A=l.any (fM keys):=⟨_,rfl⟩
 have HA:=ah hA
 rw[←hA]
 clear hA
 rcases Rd.shape h with⟨ad,rfl,h0⟩|⟨p,off,c,rfl,hmax⟩
 ·have yM:=ah (show A=false by rw[HA.out,List.eq_nil_of_length_eq_zero h0];rfl)
  clear h h0 hs
  go_enter Tryz.func168,Tryz.ntmps168
  go_wp2
  go_loop [8] (fun i=>i= .int .i64 0) (fun _=>0)
  case atStart=>rfl
  case round=>
   obtain rfl:=hrel
   go_wp2
   go_ret
   exact⟨aj.refl _ _,fun h=>(by rw[yM.out]at h;cases h),fun _=>rfl⟩
 ·have HH:=ah h;clear h
  have tH:=ah hs;clear hs
  generalize hn:l.length=m at*
  have HN:=ah hn;clear hn
  go_enter Tryz.func168,Tryz.ntmps168
  go_wp2
  go_loopw [8] (fun i W=>∃k:Nat,k≤m∧i= .int .i64 k∧(l.take k).any (fM keys)=false∧aj au w W) (fun i _=>m-(intOf i).toNat)
  case atStart=>exact⟨0,Nat.zero_le _,rfl,by simp,aj.refl _ _⟩
  case round=>
   obtain⟨k,hk,rfl,ha,hw⟩:=hrel
   have nH:=ah ha;clear ha
   have HW:=ah hw;clear hw
   by_cases hlt:k<m
   ·have hlk:k<l.length:=by rw[HN.out];exact hlt
    obtain⟨g0,g1,g2⟩:=zy l k hlk
    obtain⟨⟨a0,n0,c0,e0⟩,a1,n1,c1,e1⟩:=tH.out _ (getD_mem default hlk)
    rw[e0]at g1
    rw[e1]at g2
    have r:=HH.out.aN HW.out
    have q0:wr.cell? ⟨p,off+k*3,none⟩=_:=r.cell _ _ g0
    have q1:wr.cell? ⟨p,off+k*3+1,none⟩=_:=r.cell (k*3+1) _ g1
    have q2:wr.cell? ⟨p,off+k*3+2,none⟩=_:=r.cell (k*3+2) _ g2
    clear g0 g1 g2 e0 e1 r
    have HT:=ah (Ez (p:=fM keys) default hlk)
    have HE:=ah (fun h=>HA.out.trans (List.any_eq_true.2 ⟨_,getD_mem default hlk,h⟩):fM keys (l.getD k default)=true→A=true)
    have HC:=ah (HP.out (l.getD k default).key a0 n0 c0 a1 n1 c1)
    have hpe:(!tf ((l.getD k default).key∈keys))=fM keys (l.getD k default):=rfl
    rw[hpe]at HC
    clear hpe hlk
    generalize (l.getD k default).key=x0 at*
    cases hy:fM keys (l.getD k default)with
    |true=>
     rw[hy]at HC
     have HEX:=ah (HE.out hy)
     have HY:=ah hy;clear hy
     clear HE HT
     go_wp2_with(go_at_call 132;refine(HC.out _ HW.out).mono ?_;rintro e w1 ⟨rfl,hw1⟩;have HW1:=ah (HW.out.aG hw1);clear hw1)
     go_ret
     exact⟨HW1.out,fun _=>⟨k,rfl,hlt,HY.out,nH.out⟩,fun h=>(by rw[HEX.out]at h;cases h)⟩
    |false=>
     rw[hy]at HC
     have yN:=ah (show(l.take (k+1)).any (fM keys)=false by rw[HT.out,nH.out,hy];rfl)
     clear HE HT hy
     go_wp2_with(go_at_call 132;refine(HC.out _ HW.out).mono ?_;rintro e w1 ⟨rfl,hw1⟩;have HW1:=ah (HW.out.aG hw1);clear hw1)
     go_roundw
     case rel=>exact⟨k+1,by omega,by go_num,yN.out,HW1.out⟩
     case measure=>simp[intOf];omega
   ·have hnk:m=k:=by omega
    have hall:A=false:=by
     rw[HA.out]
     have:=nH.out
     rwa [List.take_of_length_le (by rw[HN.out,hnk];exact Nat.le_refl _)]at this
    have yO:=ah hall;clear hall
    go_wp2
    go_ret
    exact⟨HW.out,fun h=>(by rw[yO.out]at h;cases h),fun _=>rfl⟩
theorem OwnAt.set0 {w0 w:World} {e:TypeId} {size g n c:Nat} {xs:List Value} (h:OwnAt w0 w e size (.slice (some ⟨g,0,none⟩) n c) n xs) (hn:0<n) (j:Nat) (u:Value):OwnAt w0 (w.setCell ⟨g,j,none⟩ u) e size (.slice (some ⟨g,0,none⟩) n c) n (xs.set j u):=by
 obtain⟨g',c',he,_,_,_,_,_,hset⟩:=h.row hn
 cases he
 exact hset j u
theorem OwnAt.at0 {w0 w:World} {e:TypeId} {size g n c:Nat} {xs:List Value} (h:OwnAt w0 w e size (.slice (some ⟨g,0,none⟩) n c) n xs) (hn:0<n):w0.heap.size≤g∧g<w.heap.size∧n≤c∧(∀j u,xs[j]?=some u→w.cell? ⟨g,j,none⟩=some u)∧∀j,w.frozen? ⟨g,j,none⟩=false:=by
 obtain⟨g',c',he,h1,h2,h3,h4,h5,_⟩:=h.row hn
 cases he
 exact⟨h1,h2,h3,h4,h5⟩
structure tJ (keys:List ByteArray) (l:List aY) (w0 w W:World) (g n c i j:Nat) (m:List aY):Prop where
 own:OwnAt w0 W 52 3 (.slice (some ⟨g,0,none⟩) n c) n (m.flatMap aY.cells)
 aI:aj (bY (.slice (some ⟨g,0,none⟩) n c)) w W
 len:m.length=n
 lt:i<j
 done:m.take i=(l.take j).filter fun q=> !fM keys q
 rest:m.drop j=l.drop j
theorem FQ {l:List aY} {p:aY→Bool} {j:Nat} (h:j<l.length):(l.take (j+1)).filter p=(l.take j).filter p++if p (l.getD j default)=true then [l.getD j default]else []:=by
 rw[take_succ default h,List.filter_append,List.filter_cons]
 split<;>simp
theorem tJ.skip {keys:List ByteArray} {l:List aY} {w0 w W W':World} {g n c i j:Nat} {m:List aY} (h:tJ keys l w0 w W g n c i j m) (hj:j<n) (hl:l.length=n) (f:aj au W W') (ho:fM keys (l.getD j default)=true):tJ keys l w0 w W' g n c i (j+1) m:=
 ⟨h.own.keep f,h.aI.aG f,h.len,by have:=h.lt;omega,by rw[h.done,FQ (by omega),ho];simp,by rw[←List.drop_drop,h.rest,List.drop_drop]⟩
theorem tJ.take {keys:List ByteArray} {l:List aY} {w0 w W W':World} {g n c i j:Nat} {m:List aY} (h:tJ keys l w0 w W g n c i j m) (hj:j<n) (hl:l.length=n) (f:aj au W W') (ho:fM keys (l.getD j default)=false):
 tJ keys l w0 w (((W'.setCell ⟨g,i*3,none⟩ (.string (l.getD j default).key)).setCell ⟨g,i*3+1,none⟩ (l.getD j default).ev).setCell ⟨g,i*3+2,none⟩ (l.getD j default).kv) g n c (i+1) (j+1) (m.set i (l.getD j default)):=by
 have hij:=h.lt
 have hn:0<n:=by omega
 refine⟨?_,?_,by rw[List.length_set,h.len],by omega,?_,?_⟩
 ·rw[LM _ _ _ (by rw[h.len];omega)]
  exact(((h.own.keep f).set0 hn _ _).set0 hn _ _).set0 hn _ _
 ·have hr:bY (.slice (some ⟨g,0,none⟩) n c) g:=rfl
  exact(((h.aI.aG f).set1 (p:=⟨g,i*3,none⟩) (.inl hr)).set1 (p:=⟨g,i*3+1,none⟩) (.inl hr)).set1 (p:=⟨g,i*3+2,none⟩) (.inl hr)
 ·rw[FQ (by omega),←h.done,ho]
  simp only[Bool.not_false,if_true]
  rw[take_succ default (by rw[List.length_set,h.len];omega),List.take_set_of_le (Nat.le_refl _),getD_at default (by rw[List.length_set,h.len];omega),List.getElem_set_self]
 ·rw[List.drop_set_of_lt (by omega),←List.drop_drop,h.rest,List.drop_drop]
open Go.RowKit
theorem UD {w:World} {g o j:Nat} {vs:List Value} {cur:Array Value} {e:TypeId} {f:Nat×Nat} (h:w.heap[g]?=some (.cells cur e f)) (hl:o+vs.length≤cur.size) (hj:j<o) {u:Value} (hu:w.cell? ⟨g,j,none⟩=some u):(w.setCells g o vs).cell? ⟨g,j,none⟩=some u:=by
 have h2:=xW g e f vs o w cur h hl
 refine aJ h2 j ?_
 have hc:cur[j]?=some u:=by
  have:=hu
  simp only[World.cell?,h]at this
  simpa using this
 rw[←Array.getElem?_toList]at hc⊢
 simp only[List.append_assoc]
 rw[List.getElem?_append_left (by rw[List.length_take,Array.length_toList];omega),List.getElem?_take_of_lt hj]
 exact hc
theorem UE (keys:List ByteArray) (l:List aY) (b:Nat) (w0 w:World) (v vk:Value) (ho:OwnAt w0 w 52 3 v l.length (l.flatMap aY.cells)) (hs:∀q∈l,q.shaped) (hl:l.length≤100000) (hk:Rd w0 vk keys.length (keys.map .string)) (hkl:keys.length≤1000000) (hb:w0.cell? ⟨b,0,none⟩=some vk):
 Calls Tryz.prog 131 #[v, .func (.func 132) #[] #[.pointer (some ⟨b,0,none⟩)]] w fun e w'=>∃a c,e= .returned (.slice a (l.filter fun q=> !fM keys q).length c)∧aj (bY v) w w'∧
  Rd w' (.slice a (l.filter fun q=> !fM keys q).length c) (l.filter fun q=> !fM keys q).length ((l.filter fun q=> !fM keys q).flatMap aY.cells)∧∀k,(Value.slice a (l.filter fun q=> !fM keys q).length c).ownBlock=some k→v.ownBlock=some k:=by
 have eg:∀args w,(callFunc 132 args).run Tryz.prog w= .ok (.enter 132 args) w:=enters_of Tryz.func132 (by kernel_rfl) rfl
 have HI:=ah (UC keys l b w v vk ho.rd hs hl (hk.aN ho.aI) hkl (ho.aI.cell' hb id))
 have HP:=ah (fun key a n c a' n' c' W (f:aj au w0 W)=>KP keys key a a' n c n' c' b vk W (hk.aN f) hkl (f.cell' hb id));clear hb hk
 cases hA:l.any (fM keys)with
 |false=>
  rw[hA]at HI
  have hall:(l.filter fun q=> !fM keys q)=l:=by
   rw[List.filter_eq_self]
   intro q hq
   have:=List.any_eq_false.1 hA q hq
   simpa using this
  rw[hall]
  clear hall hA
  obtain⟨a,c,rfl⟩:=ho.shape
  have HO:=ah ho;clear ho
  generalize l.length=n at*
  go_enter Tryz.func131,Tryz.ntmps131
  go_wp2_with(go_at_call 168;refine HI.out.mono ?_;rintro e w1 ⟨hw1,-,hy⟩;have he:=hy rfl;subst he;have HW1:=ah hw1;clear hw1 hy)
  go_ret
  exact⟨a,c,rfl,HW1.out.mono fun _ _ h=>h.elim,HO.out.rd.aN HW1.out,fun k hk=>hk⟩
 |true=>
  rw[hA]at HI
  have hn:0<l.length:=by
   cases l with
   |nil=>simp at hA
   |cons q l=>simp
  obtain⟨g,c,rfl,-⟩:=ho.row hn
  have HO:=ah ho;clear ho
  have tH:=ah hs;clear hs
  clear hA
  generalize hnl:l.length=n at*
  have HN:=ah hnl;clear hnl
  have hmx:(n:Int)≤9223372036854775807:=by omega
  go_enter Tryz.func131,Tryz.ntmps131
  go_wp2_with(go_at_call 168;refine HI.out.mono ?_;rintro e w1 ⟨hw1,hy,-⟩;obtain⟨k0,he,hk0,hko,hkt⟩:=hy rfl;subst he;have HW1:=ah hw1;clear hw1 hy;have hkm:((k0:Int)==-1)=false:=(by rw[beq_eq_false_iff_ne];omega))
  have hd0:tJ keys l w0 w w1 g n c k0 (k0+1) l:=by
   refine⟨HO.out.keep HW1.out,HW1.out.mono fun _ _ h=>h.elim,HN.out,by omega,?_,rfl⟩
   rw[FQ (by rw[HN.out];exact hk0),hko]
   simp only[Bool.not_true,Bool.false_eq_true,if_false,List.append_nil]
   rw[List.filter_eq_self.2]
   intro q hq
   have:=List.any_eq_false.1 hkt q hq
   simpa using this
  have HD0:=ah hd0;clear hd0 hko hkt
  go_loopw [5,6] (fun iv jv W=>∃(i j:Nat) (m:List aY),iv= .int .i64 i∧jv= .int .i64 j∧j≤n∧tJ keys l w0 w W g n c i j m) (fun _ jv _=>n-(intOf jv).toNat)
  case atStart=>exact⟨k0,k0+1,l,rfl,by go_num,by omega,HD0.out⟩
  case round=>
   obtain⟨i,j,m,rfl,rfl,hj,hd⟩:=hrel
   have HD:=ah hd;clear hd
   have hij:=HD.out.lt
   by_cases hlt:j<n
   ·have hjl:j<l.length:=by rw[HN.out];exact hlt
    have hjm:j<m.length:=by rw[HD.out.len];exact hlt
    have him:i<m.length:=by rw[HD.out.len];omega
    have hsame:m.getD j default=l.getD j default:=by
     have:=HD.out.rest
     rw[getD_at default hjl,getD_at default hjm]
     have h1:(m.drop j)[0]?=(l.drop j)[0]?:=by rw[this]
     rw[List.getElem?_drop,List.getElem?_drop,Nat.add_zero,List.getElem?_eq_getElem hjm,List.getElem?_eq_getElem hjl]at h1
     exact Option.some.inj h1
    obtain⟨g0,g1,g2⟩:=zy m j hjm
    rw[hsame]at g0 g1 g2
    obtain⟨⟨a0,n0,c0,e0⟩,a1,n1,c1,e1⟩:=tH.out _ (getD_mem default hjl)
    rw[e0]at g1
    rw[e1]at g2
    obtain⟨p0,p1,p2⟩:=zy m i him
    obtain⟨hg0,zA,hnc,hcell,hfree⟩:=HD.out.own.at0 hn
    have q0:=hcell _ _ g0
    have q1:=hcell _ _ g1
    have q2:=hcell _ _ g2
    have ED:=ah (fun W (f:aj au wr W)=>(show(W.cell? ⟨g,i*3,none⟩=_∧W.cell? ⟨g,i*3+1,none⟩=_∧W.cell? ⟨g,i*3+2,none⟩=_)∧(W.frozen? ⟨g,i*3,none⟩=false∧W.frozen? ⟨g,i*3+1,none⟩=false∧W.frozen? ⟨g,i*3+2,none⟩=false)∧g<W.heap.size from
     ⟨⟨f.cell' (hcell _ _ p0) id,f.cell' (hcell _ _ p1) id,f.cell' (hcell _ _ p2) id⟩,⟨(f.frozen zA id).trans (hfree _),(f.frozen zA id).trans (hfree _),(f.frozen zA id).trans (hfree _)⟩,Nat.lt_of_lt_of_le zA f.size⟩))
    clear g0 g1 g2 p0 p1 p2 hcell hfree hjl hjm him hsame
    have HC:=ah (HP.out (l.getD j default).key a0 n0 c0 a1 n1 c1)
    have hpe:(!tf ((l.getD j default).key∈keys))=fM keys (l.getD j default):=rfl
    rw[hpe]at HC
    clear hpe
    have oG:=ah (fun W f ho=>HD.out.take (W':=W) hlt HN.out f ho)
    rw[e0,e1]at oG
    have FT:=ah (fun W f ho=>HD.out.skip (W':=W) hlt HN.out f ho)
    clear e0 e1
    generalize (l.getD j default).key=x0 at*
    generalize (m.getD i default).key=z0 at*
    generalize (m.getD i default).ev=z1 at*
    generalize (m.getD i default).kv=z2 at*
    have hji:(j:Int)<(n:Int):=by omega
    have hii:(i:Int)<(n:Int):=by omega
    have hfb:=aj.alloc au wr (.cells #[.string x0, .slice a0 n0 c0, .slice a1 n1 c1] 52)
    have hbx:=heap_alloc_new wr (.cells #[.string x0, .slice a0 n0 c0, .slice a1 n1 c1] 52)
    have bf:=ah hfb;clear hfb
    have bF:=ah hbx;clear hbx
    cases hy:fM keys (l.getD j default)with
    |true=>
     rw[hy]at HC
     have UF:=ah (fun W f=>FT.out W f hy)
     clear hy oG FT
     go_wp2_with(go_at_call 132;refine(HC.out _ (HD.out.own.aI.aG bf.out)).mono ?_;rintro e w2 ⟨rfl,hw2⟩;have HW2:=ah (bf.out.aG hw2);clear hw2)
     go_roundw
     case rel=>exact⟨i,j+1,m,rfl,by go_num,by omega,UF.out _ HW2.out⟩
     case measure=>simp[intOf];omega
    |false=>
     rw[hy]at HC
     have UG:=ah (fun W f=>oG.out W f hy)
     clear hy oG FT
     go_wp2_with(go_at_call 132;refine(HC.out _ (HD.out.own.aI.aG bf.out)).mono ?_;rintro e w2 ⟨rfl,hw2⟩;have b0:=aJ (hw2.blk bF.out id) 0 rfl;have b1:=aJ (hw2.blk bF.out id) 1 rfl;have b2:=aJ (hw2.blk bF.out id) 2 rfl;have HW2:=ah (bf.out.aG hw2);clear hw2 q0 q1 q2;obtain⟨⟨s0,s1,s2⟩,⟨f0,f1,f2⟩,hgl⟩:=ED.out _ HW2.out)
     go_roundw
     case rel=>exact⟨i+1,j+1,_,by go_num,by go_num,by omega,UG.out _ HW2.out⟩
     case measure=>simp[intOf];omega
   ·obtain rfl:n=j:=by omega
    have hf:=HD.out.done
    rw[show l.take n=l from List.take_of_length_le (by rw[HN.out];exact Nat.le_refl _)]at hf
    have hfl:(l.filter fun q=> !fM keys q).length=i:=by rw[←hf,List.length_take,HD.out.len];omega
    have FU:=ah hfl
    obtain⟨hg0,zA,hnc,hcell,hfree⟩:=HD.out.own.at0 hn
    have hml:(m.flatMap aY.cells).length=n*3:=by rw[EF,HD.out.len]
    obtain⟨Z,hZ,hcl⟩:=UA wr g (i*3) (n-i) (c-i) (by omega) (fun t ht=>by
     have hi:i*3+t<(m.flatMap aY.cells).length:=by omega
     rw[hcell _ _ (List.getElem?_eq_getElem hi)];rfl) (fun t ht=>hfree _)
    have hrd:Rd (wr.setCells g (i*3) Z) (.slice (some ⟨g,0,none⟩) i c) i ((l.filter fun q=> !fM keys q).flatMap aY.cells):=by
     rcases HD.out.own.own.2 with⟨hnil,_⟩|⟨g',cap,cur,hv,_,hbk,h1,h2,h3,_⟩
     ·cases hnil
     ·cases hv
      refine .inr ⟨g,0,c,rfl,by omega,h2,fun j u hu=>?_⟩
      rw[←hf,Uz,List.getElem?_take]at hu
      split at hu
      ·next hjl=>
       rw[Nat.zero_add]
       exact UD hbk (by rw[hZ,h3];omega) hjl (hcell _ _ hu)
      ·cases hu
    have UH:=ah hrd;clear hrd hml hcell hfree
    have UJ:=ah (HD.out.aI.trans (aj.setCells (S:=bY (.slice (some ⟨g,0,none⟩) n c)) g wr (.inl rfl) Z (i*3)) fun _ _ h=>h)
    have hic:i<c:=by omega
    have hcx:(c:Int)≤9223372036854775807:=by
     have hrd:=HD.out.own.rd
     rcases hrd with⟨ad,he,h0,_⟩|⟨b',off,c',he,_,hm,_⟩
     ·omega
     ·cases he;simp only[maxLen]at hm;omega
    clear hf hfl
    go_wp2
    go_ret
    exact⟨some ⟨g,0,none⟩,c,by rw[FU.out];rfl,UJ.out,by rw[FU.out];exact UH.out,fun k hk=>hk⟩
open Go.RowKit
theorem aj.both {S:Nat→Prop} {w w':World} (h:aj S w w') (p:Addr) (v:Value):aj S (w.setCell p v) (w'.setCell p v):=
 ⟨h.os,h.tape,h.output,by simpa[World.setCell]using h.size,fun k hk hn=>by
   have:=h.block k (by simpa[World.setCell]using hk) hn
   simp only[World.setCell,Array.getElem?_modify,this]⟩
theorem OwnAt.both {w w':World} {e:TypeId} {size:Nat} {v:Value} {n:Nat} {xs:List Value} (h:OwnAt w w' e size v n xs) (p:Addr) (hp:p.block<w.heap.size) (u:Value):OwnAt (w.setCell p u) (w'.setCell p u) e size v n xs:=
 ⟨(aj.setCell (S:=fun k=>k=p.block) w' (.inl rfl) u).owns h.own fun k hk e=>by have:=h.new k hk;omega,fun k hk=>by simpa[World.setCell]using h.new k hk,h.aI.both p u⟩
def LP (w:World) (keys:List ByteArray) (ks:aH) (e:Ending) (w':World):Prop:=
 ∃kv',e= .returned (.agg #[.slice none 0 0,kv'])∧bg (fun b=>w.heap.size≤b) w' (.slice none 0 0) kv' [] (bH (fun k=>tf (k∈keys)) ks)∧aj au w w'
theorem UK {w w':World} {keys:List ByteArray} {l:List aY} {v v':Value} (h:∀q∈l,bg (fun b=>w.heap.size≤b∧v.ownBlock≠some b) w' q.ev q.kv q.es q.sub)
 (hr:Rd w' v' (l.filter fun q=> !fM keys q).length ((l.filter fun q=> !fM keys q).flatMap aY.cells)) (hn:∀k,v'.ownBlock=some k→w.heap.size≤k):
 bg (fun b=>w.heap.size≤b) w' (.slice none 0 0) v' [] (bH (fun k=>tf (k∈keys)) (mkK l)):=by
 have he:(l.filter fun q=>tf (q.key∈keys))=l.filter fun q=> !fM keys q:=by simp[fM]
 rw[LK,he]
 refine⟨⟨.inl ⟨none,rfl,rfl,rfl⟩,fun h=>absurd rfl h⟩,oP (l.filter fun q=> !fM keys q),⟨?_,fun _ k hk=>hn k hk⟩,wQ fun q hq=>(h q (List.mem_filter.1 hq).1).turn fun b hb hQ=>⟨rfl,hQ.1⟩⟩
 rw[uM,oQ]
 exact hr
theorem UL (Q:Nat→Prop) (keys:List ByteArray) (es:List aF) (ks:aH) (w:World) (ev kv vk:Value) (ht:bg Q w ev kv es ks) (hok:iQ es ks) (hsz:sizeT es ks≤4000) (hr:aX 5 es ks=true)
 (hk:Rd w vk keys.length (keys.map .string)) (hkl:keys.length≤1000000):
 Calls Tryz.prog 94 #[.agg #[ev,kv],vk] w (LP w keys ks):=by
 obtain⟨ae,ce,rfl⟩:=ht.ents.rd.sl
 obtain⟨os,hkr,dH⟩:=ht.kids
 obtain⟨ak,ck,rfl⟩:=hkr.rd.sl
 obtain⟨ay,cy,rfl⟩:=hk.sl
 have HR:=ah (fun W (f:aj au w W)=>hr▸yS Q es ks W _ _ (ht.aN f) hok)
 have HC:=ah (fun W (f:aj au w W)=>Ko Q _ es ks W _ _ (Nat.lt_succ_self _) (ht.aN f) (by omega))
 have HK:=ah (fun W (f:aj au w W)=>hk.aN f)
 have HL:=ah (show ks.len≤4000 by have:=kG ks;unfold sizeT at hsz;omega)
 have fK:=ah hkl
 clear hkr dH ht hok hsz hr hk hkl
 generalize es.length=n at*
 generalize hkn:ks.len=m at*
 have pF:=ah hkn;clear hkn
 generalize hyn:keys.length=y at*
 have FV:=ah hyn;clear hyn
 obtain⟨WB,iR⟩:∃WB,WB=((w.alloc (.cells #[.slice ae n ce, .slice ak m ck] 28)).alloc (.cells #[.slice ay y cy] 101)).alloc (.cells #[.slice none 0 0, .slice none 0 0] 28):=⟨_,rfl⟩
 have hfb:aj au w WB:=by rw[iR];exact((aj.alloc _ _ _).alloc1).alloc1
 have hb0:WB.heap[w.heap.size]?=some (.cells #[.slice ae n ce, .slice ak m ck] 28 (0,0)):=by
  rw[iR]
  exact(((aj.refl au _).alloc1 (o:= .cells #[.slice ay y cy] 101)).alloc1 (o:= .cells #[.slice none 0 0, .slice none 0 0] 28)).blk (heap_alloc_new w _) id
 have hb1:WB.heap[w.heap.size+1]?=some (.cells #[.slice ay y cy] 101 (0,0)):=by
  rw[iR]
  have:=((aj.refl au _).alloc1 (o:= .cells #[.slice none 0 0, .slice none 0 0] 28)).blk (mJ w (.cells #[.slice ae n ce, .slice ak m ck] 28) #[.slice ay y cy] 101).1 id
  exact this
 have hb2:WB.heap[w.heap.size+1+1]?=some (.cells #[.slice none 0 0, .slice none 0 0] 28 (0,0)):=by
  rw[iR]
  have:=(mJ (w.alloc (.cells #[.slice ae n ce, .slice ak m ck] 28)) (.cells #[.slice ay y cy] 101) #[.slice none 0 0, .slice none 0 0] 28).1
  simpa using this
 have bf:=ah hfb;clear hfb
 have HB0:=ah hb0;clear hb0
 have HB1:=ah hb1;clear hb1
 have HB2:=ah hb2;clear hb2
 have bT:=ah iR;clear iR
 go_enter Tryz.func94,Tryz.ntmps94
 go_wp2_with(first
  |(go_at_call 89;rw[←bT.out];refine(HR.out _ bf.out).mono ?_;rintro e w1 ⟨rfl,hw1⟩;have H0:=ah (hw1.blk HB0.out id);have H1:=ah (hw1.blk HB1.out id);have H2:=ah (hw1.blk HB2.out id);have HW1:=ah (bf.out.aG hw1);clear hw1;have y0:=aJ H0.out 0 rfl;have y1:=aJ H0.out 1 rfl)
  |(go_at_call 97;refine(HC.out _ HW1.out).mono ?_;clear y0 y1;rintro e w2 ⟨ev',kv',l,rfl,hta,hf,hks,hown,hkids⟩;obtain⟨a1,c1,rfl⟩:=hta.ents.rd.sl;obtain⟨a2,c2,rfl⟩:=hown.shape
    have y0:=aJ (hf.blk H0.out id) 0 rfl;have y1:=aJ (hf.blk H0.out id) 1 rfl;have g0:=bG (hf.blk H0.out id) 0;have g1:=bG (hf.blk H0.out id) 1
    have hl0:w.heap.size<w1.heap.size:=lt_of_block H0.out
    have HOW:=ah ((hown.both ⟨w.heap.size,0,none⟩ hl0 (.slice a1 es.length c1)).both ⟨w.heap.size,1,none⟩ (by simpa[World.setCell]using hl0) (.slice a2 l.length c2))
    have HF:=ah hf;clear hf;have iI:=ah hks;clear hks;have BR:=ah hkids;clear hkids hta hown hl0)
  |(go_at_call 131
    have FW:=HK.out _ ((HW1.out.set1 (p:=⟨w.heap.size,0,none⟩) (u:= .slice a1 es.length c1) (.inr (Nat.le_refl _))).set1 (p:=⟨w.heap.size,1,none⟩) (u:= .slice a2 l.length c2) (.inr (Nat.le_refl _)))
    rw[←FV.out]at FW
    have hb1:((w1.setCell ⟨w.heap.size,0,none⟩ (.slice a1 es.length c1)).setCell ⟨w.heap.size,1,none⟩ (.slice a2 l.length c2)).cell? ⟨w.heap.size+1,0,none⟩=some (.slice ay keys.length cy):=aJ ((oV (by simp)).trans ((oV (by simp)).trans (FV.out.symm▸H1.out))) 0 rfl
    refine(UE keys l (w.heap.size+1) _ _ _ (.slice ay keys.length cy) HOW.out (fun q hq=>?_) ?_ FW (FV.out.symm▸fK.out) hb1).mono ?_
    ·obtain⟨os,h2,-⟩:=(BR.out q hq).kids;obtain⟨p1,p2,h1⟩:=(BR.out q hq).ents.rd.sl;obtain⟨p3,p4,h2⟩:=h2.rd.sl;exact⟨⟨_,_,_,h1⟩,_,_,_,h2⟩
    ·have h1:=pF.out;have h2:=HL.out;rw[iI.out,oQ]at h1;omega
    clear FW hb1 y0 y1 g0 g1
    rintro e w3 ⟨a3,c3,rfl,hf3,hrd,hbl⟩
    have hsw:w.heap.size+1+1<w1.heap.size:=lt_of_block H2.out
    have hnew:∀k,(Value.slice a2 l.length c2).ownBlock=some k→w1.heap.size≤k:=fun k hk=>by have:=HOW.out.new k hk;simpa[World.setCell]using this
    have hfs:=(((HW1.out.aG HF.out).set1 (p:=⟨w.heap.size,0,none⟩) (u:= .slice a1 es.length c1) (.inr (Nat.le_refl _))).set1 (p:=⟨w.heap.size,1,none⟩) (u:= .slice a2 l.length c2) (.inr (Nat.le_refl _)))
    have hfw:aj au w w3:=hfs.trans hf3 fun i hi hs=>by have:=hnew i hs;exact absurd hi (by omega)
    have hb2:w3.heap[w.heap.size+1+1]?=some (.cells #[.slice none 0 0, .slice none 0 0] 28 (0,0)):=hf3.blk ((oV (by simp;omega)).trans ((oV (by simp;omega)).trans (HF.out.blk H2.out id))) fun h=>by have:=hnew _ h;omega
    have y0:=aJ hb2 0 rfl
    have y1:=aJ hb2 1 rfl
    have g0:=bG hb2 0
    have g1:=bG hb2 1
    have hr2:=res2 hb2 hfw (by omega) (.slice none 0 0) (.slice a3 (l.filter fun q=> !fM keys q).length c3)
    have hpo:bg (fun b=>w.heap.size≤b) ((w3.setCell ⟨w.heap.size+1+1,0,none⟩ (.slice none 0 0)).setCell ⟨w.heap.size+1+1,1,none⟩ (.slice a3 (l.filter fun q=> !fM keys q).length c3)) (.slice none 0 0) (.slice a3 (l.filter fun q=> !fM keys q).length c3) [] (bH (fun k=>tf (k∈keys)) ks):=by
     rw[iI.out]
     have hx:∀u v,aj (fun k=>k=w.heap.size+1+1) w3 ((w3.setCell ⟨w.heap.size+1+1,0,none⟩ u).setCell ⟨w.heap.size+1+1,1,none⟩ v):=fun u v=>((aj.refl (fun k=>k=w.heap.size+1+1) w3).set1 (p:=⟨w.heap.size+1+1,0,none⟩) (.inl rfl)).set1 (p:=⟨w.heap.size+1+1,1,none⟩) (.inl rfl)
     refine UK (v:= .slice a2 l.length c2) (fun q hq=>(BR.out q hq).turn fun b hb hQ=>⟨?_,by omega,hQ.2⟩) (Rd.keep hrd (hx _ _) fun k hk (hs:k=w.heap.size+1+1)=>?_) fun k hk=>?_
     ·rw[hr2.2.2 b (by omega),hf3.block b (by simpa[World.setCell]using hb) hQ.2,oV (by simp;omega),oV (by simp;omega)]
     ·have:=hnew k (hbl k hk);omega
     ·have:=hnew k (hbl k hk);omega
    have HP:=ah (show LP w keys ks (.returned (.agg #[.slice none 0 0, .slice a3 (l.filter fun q=> !fM keys q).length c3])) _ from⟨_,rfl,hpo,hr2.2.1⟩)
    have HR2:=ah hr2.1
    clear hsw hnew hfs hfw hb2 hr2 hpo hf3 hrd hbl BR HOW
    generalize (l.filter fun q=> !fM keys q).length=L at*))
 clear y0 y1 g0 g1
 have y0:=aJ HR2.out 0 rfl
 have y1:=aJ HR2.out 1 rfl
 exact bodyPost_ret (v:= .agg #[.slice none 0 0, .slice a3 L c3]) (by simp[results,Tryz.results94,go_sem,y0,y1]) rfl HP.out
open Go.RowKit
def LQ (w:World) (keys:List ByteArray) (ks:aH) (c:aU) (e:Ending) (w':World):Prop:=
 ∃kv cv,e= .returned (.tuple #[.agg #[.slice none 0 0,kv,cv], .int .i64 0])∧bg (fun b=>w.heap.size≤b) w' (.slice none 0 0) kv [] (bH (fun k=>tf (k∈keys)) ks)∧OwnAt w w' 92 3 cv c.length (cO c)
theorem UM (Q:Nat→Prop) (keys:List ByteArray) (vk:Value) (es:List aF) (ks:aH) (c:aU) (w:World) (ev kv cv:Value) (h:fP Q w ev kv cv es ks c) (hok:jW es ks c) (hr:f_ es ks c) (hk:Rd w vk keys.length (keys.map .string)) (hkl:keys.length≤1000000):
 Calls Tryz.prog 71 #[.agg #[ev,kv,cv],vk] w (LQ w keys ks c):=by
 obtain⟨a0,c0,a1,c1,a2,c2,rfl,rfl,rfl⟩:=h.shape
 obtain⟨ay,cy,rfl⟩:=hk.sl
 have HR:=ah (fun w' (f:aj au w w')=>dD hr▸sW Q es ks c w' _ _ _ (h.aN f) hok)
 have HT:=ah (fun w' (f:aj au w w')=>UL Q keys es ks w' _ _ (.slice ay keys.length cy) (h.tree.aN f) hok.tree (Nat.le_trans hok.small (by decide)) hr.tree (hk.aN f) hkl)
 have HS:=ah (fun w' (f:aj au w w')=>Eb w' _ c (Rd.aN h.ctx f) (by have:=hok.len;omega))
 clear h hok hr hk hkl
 generalize hyn:keys.length=y at*
 clear hyn
 generalize hes:es.length=n at*
 generalize hkl:ks.len=m at*
 generalize hcl:c.length=k at*
 have wW:=ah hes;clear hes
 have fK:=ah hkl;clear hkl
 have qH:=ah hcl;clear hcl
 have htb:((w.alloc (.cells #[.slice a0 n c0, .slice a1 m c1, .slice a2 k c2] 32)).alloc (.cells #[.slice none 0 0, .slice none 0 0, .slice none 0 0] 32)).heap[w.heap.size+1]?=some (.cells #[.slice none 0 0, .slice none 0 0, .slice none 0 0] 32 (0,0)):=(mJ w _ _ _).1
 have EK:=ah htb;clear htb
 have hfb:aj au (w.alloc (.cells #[.slice a0 n c0, .slice a1 m c1, .slice a2 k c2] 32)) ((w.alloc (.cells #[.slice a0 n c0, .slice a1 m c1, .slice a2 k c2] 32)).alloc (.cells #[.slice none 0 0, .slice none 0 0, .slice none 0 0] 32)):=aj.alloc _ _ _
 have bf:=ah hfb;clear hfb
 have bF:=ah (eG w (.slice a0 n c0) (.slice a1 m c1) (.slice a2 k c2) 32)
 go_enter Tryz.func71,Tryz.ntmps71
 go_wp2_with(go_at_call 40;refine(HR.out _ ((aj.alloc au _ _).aG bf.out)).mono ?_;rintro e w1 ⟨rfl,hw1⟩;obtain⟨y0,y1,y2⟩:=bF.out w1 (bf.out.aG hw1);have hblk:=hw1.blk EK.out id;have yU:=ah hblk;clear hblk;have HW1:=ah (((aj.alloc au _ _).aG bf.out).aG hw1);clear hw1)
 refine iZ (S:=fun w'=>w'.cell? ⟨w.heap.size,0,none⟩=some (.slice a0 n c0)∧w'.cell? ⟨w.heap.size,1,none⟩=some (.slice a1 m c1)∧w'.cell? ⟨w.heap.size,2,none⟩=some (.slice a2 k c2)) 9 (by kernel_rfl) ⟨y0,y1,y2⟩ ?_
 intro hS
 have dM:=ah (HW1.out.aG (aj.drew au w1))
 have jR:=ah ((aj.drew au w1).blk yU.out id)
 have hsb:w.heap.size+1<w1.drew.heap.size:=lt_of_block jR.out
 clear y0 y1 y2 HW1 yU
 generalize w1.drew=Y at*
 refine aT 0 10 rfl rfl (v:=?_) (.inl ⟨by rfl,?_⟩) ?_
 rotate_left 1
 ·(intro w hSw;(try dsimp only at hSw);go_simp;(try with_reducible rfl))
 refine aT 1 11 rfl rfl (v:=?_) (.inl ⟨by rfl,?_⟩) ?_
 rotate_left 1
 ·(intro w hSw;(try dsimp only at hSw);go_simp;(try with_reducible rfl))
 try simp only[Act.put,aP,aQ,aO]
 refine aT 2 12 rfl rfl (v:=?_) (.inl ⟨by rfl,?_⟩) ?_
 rotate_left 1
 ·(intro w hSw;(try dsimp only at hSw);go_simp;(try with_reducible rfl))
 refine aT 4 14 rfl rfl (v:=?_) (.inl ⟨by rfl,?_⟩) ?_
 rotate_left 1
 ·(intro w hSw;(try dsimp only at hSw);go_simp;(try with_reducible rfl))
 try simp only[Act.put,aP,aQ,aO]
 refine aT 5 15 rfl rfl (v:=?_) (.inl ⟨by rfl,?_⟩) ?_
 rotate_left 1
 ·(intro w hSw;(try dsimp only at hSw);go_simp;(try with_reducible rfl))
 try simp only[Act.put,aP,aQ,aO]
 refine bK (i:=3) (by kernel_rfl) rfl (fun K hK=>?_)
 go_simp
 refine(HT.out _ dM.out).mono ?_
 rintro e Y1 ⟨jB,rfl,jh,hf3⟩
 obtain⟨os3,kQ,-⟩:=jh.kids
 obtain⟨a4,c4,rfl⟩:=kQ.rd.sl
 clear kQ
 generalize hfl:(bH (fun k=>tf (k∈keys)) ks).len=fl at*
 have FU:=ah hfl;clear hfl
 have hS:=(⟨hf3.cell' hS.1 id,hf3.cell' hS.2.1 id,hf3.cell' hS.2.2 id⟩:Y1.cell? ⟨w.heap.size,0,none⟩=some (.slice a0 n c0)∧Y1.cell? ⟨w.heap.size,1,none⟩=some (.slice a1 m c1)∧Y1.cell? ⟨w.heap.size,2,none⟩=some (.slice a2 k c2))
 refine hK.out _ _ hS ?_
 clear hK K
 have yR:=ah jh;clear jh
 have HF3:=ah hf3;clear hf3
 try simp only[Act.put,aP,aQ,aO]
 refine bK (i:=6) (by kernel_rfl) rfl (fun K hK=>?_)
 go_simp
 refine(HS.out _ (dM.out.aG HF3.out)).mono ?_
 rintro e Y2 ⟨v5,rfl,iG⟩
 obtain⟨a5,c5,rfl⟩:=iG.shape
 have hS:=(⟨iG.aI.cell' hS.1 id,iG.aI.cell' hS.2.1 id,iG.aI.cell' hS.2.2 id⟩:Y2.cell? ⟨w.heap.size,0,none⟩=some (.slice a0 n c0)∧Y2.cell? ⟨w.heap.size,1,none⟩=some (.slice a1 m c1)∧Y2.cell? ⟨w.heap.size,2,none⟩=some (.slice a2 k c2))
 refine hK.out _ _ hS ?_
 clear hK K
 have iT:=ah iG;clear iG
 try simp only[Act.put,aP,aQ,aO]
 refine aT 7 17 rfl rfl (v:=?_) (.inl ⟨by rfl,?_⟩) ?_
 rotate_left 1
 ·(intro w hSw;(try dsimp only at hSw);go_simp;(try with_reducible rfl))
 try simp only[Act.put,aP,aQ,aO]
 refine bK (i:=8) (by kernel_rfl) rfl (fun K hK=>?_)
 have hblk:=iT.out.aI.blk (HF3.out.blk jR.out id) id
 have HR3:=ah (wV hblk ((dM.out.aG HF3.out).aG iT.out.aI) (by omega) (.slice none 0 0) (.slice a4 fl c4) (.slice a5 k c5))
 have hs3:=HF3.out.size
 have Kv:=lt_of_block hblk
 have HP:=ah ((yR.out.aN iT.out.aI).turn (Q':=fun b=>w.heap.size≤b) fun b hb hQ=>⟨HR3.out.2.2 b (by omega),by omega⟩)
 have hown:OwnAt w (((Y2.setCell ⟨w.heap.size+1,0,none⟩ (.slice none 0 0)).setCell ⟨w.heap.size+1,1,none⟩ (.slice a4 fl c4)).setCell ⟨w.heap.size+1,2,none⟩ (.slice a5 k c5)) 92 3 (.slice a5 k c5) k (cO c):=by
  have hnew:=iT.out.new
  have oW:dU (fun b=>b=w.heap.size+1) w Y2 92 3 (.slice a5 k c5) k (cO c):=⟨iT.out.base (dM.out.aG HF3.out),fun b hb hn=>by have:=hnew b hb;omega⟩
  exact(((oW.set (p:=⟨w.heap.size+1,0,none⟩) rfl (Nat.le_succ _) _).set (p:=⟨w.heap.size+1,1,none⟩) rfl (Nat.le_succ _) _).set (p:=⟨w.heap.size+1,2,none⟩) rfl (Nat.le_succ _) _).at_
 have HOW:=ah hown;clear hown
 have y0:=aJ hblk 0 rfl
 have y1:=aJ hblk 1 rfl
 have y2:=aJ hblk 2 rfl
 have g0:=bG hblk 0
 have g1:=bG hblk 1
 have g2:=bG hblk 2
 clear hblk
 go_simp
 refine hK.out _ _ ⟨(World.cell?_of_block (w:=Y2) (HR3.out.2.2 _ (by show w.heap.size≠w.heap.size+1;omega))).trans hS.1,(World.cell?_of_block (w:=Y2) (HR3.out.2.2 _ (by show w.heap.size≠w.heap.size+1;omega))).trans hS.2.1,(World.cell?_of_block (w:=Y2) (HR3.out.2.2 _ (by show w.heap.size≠w.heap.size+1;omega))).trans hS.2.2⟩ ?_
 clear hK K y0 y1 y2 g0 g1 g2
 try simp only[Act.put,aP,aQ,aO]
 refine gQ (by kernel_rfl) (by kernel_rfl) rfl (fun K hK=>?_)
 go_simp
 refine hK.out _ _ ?_
 clear hK K
 go_wp2
 have y0:=aJ HR3.out.1 0 rfl
 have y1:=aJ HR3.out.1 1 rfl
 have y2:=aJ HR3.out.1 2 rfl
 exact bodyPost_ret (v:= .tuple #[.agg #[.slice none 0 0, .slice a4 fl c4, .slice a5 k c5], .int .i64 0]) (by simp[results,Tryz.results71,go_sem,y0,y1,y2]) rfl ⟨_,_,rfl,HP.out,qH.out.symm▸HOW.out⟩
end Go.Proofs.YtlhmbkjdfjoilaaGreat
namespace Go.Proofs.YtlhmbkjdfjoilaaGreat
end Go.Proofs.YtlhmbkjdfjoilaaGreat
namespace Go.Proofs.YtlhmbkjdfjoilaaGreat
namespace iJ
def P:BitVec 32:=0x82f63b78#32
def st (c:BitVec 32):BitVec 32:=if c.getLsbD 0=true then(c>>>1)^^^P else c>>>1
def xE:Nat→BitVec 32→BitVec 32
 |0,c=>c
 |n+1,c=>st (xE n c)
def add (c:BitVec 32) (b:UInt8):BitVec 32:=xE 8 (c^^^BitVec.ofNat 32 b.toNat)
def all (c:BitVec 32) (l:List UInt8):BitVec 32:=l.foldl add c
def crc (l:List UInt8):BitVec 32:=all (BitVec.allOnes 32) l^^^BitVec.allOnes 32
def sum (l:List UInt8):Nat:=(crc l).toNat
theorem sum_lt (l:List UInt8):sum l<4294967296:=(crc l).isLt
end iJ
open Go.RowKit
open Go.RowKit
theorem BU (a:BitVec 32):BitVec.ofInt 32 (a.toNat:Int)=a:=by
 rw[BitVec.ofInt_natCast,BitVec.ofNat_toNat]
 rfl
theorem LU (a:BitVec 32):IntKind.u32.wrap (a.toNat:Int)=(a.toNat:Int):=by
 have:=a.isLt
 rw[IntKind.wrap_u32]
 omega
theorem FX (a b:BitVec 32):bits BinOp.xor IntKind.u32 (a.toNat:Int) (b.toNat:Int)=((a^^^b).toNat:Int):=by
 show IntKind.u32.wrap ((BitVec.ofInt 32 (a.toNat:Int)^^^BitVec.ofInt 32 (b.toNat:Int)).toNat:Int)=_
 rw[BU,BU,LU]
theorem UN (a b:BitVec 32):bits BinOp.and IntKind.u32 (a.toNat:Int) (b.toNat:Int)=((a&&&b).toNat:Int):=by
 show IntKind.u32.wrap ((BitVec.ofInt 32 (a.toNat:Int)&&&BitVec.ofInt 32 (b.toNat:Int)).toNat:Int)=_
 rw[BU,BU,LU]
theorem and_one (c:BitVec 32):bits BinOp.and IntKind.u32 (c.toNat:Int) 1=if c.getLsbD 0=true then 1 else 0:=by
 have h:=UN c 1#32
 rw[show((1#32).toNat:Int)=1 from rfl]at h
 rw[h,BitVec.toNat_and]
 have e:c.toNat&&&(1#32).toNat=c.toNat%2:=Nat.and_one_is_mod _
 have g:c.getLsbD 0=decide (c.toNat%2=1):=by
  rw[BitVec.getLsbD,Nat.testBit_zero]
 rw[e,g]
 have:=Nat.mod_two_eq_zero_or_one c.toNat
 rcases this with h|h<;>rw[h]<;>simp
theorem UO (c:BitVec 32):bits BinOp.xor IntKind.u32 (c.toNat:Int) 2197175160=((c^^^iJ.P).toNat:Int):=FX c iJ.P
theorem UQ (c:BitVec 32):bits BinOp.xor IntKind.u32 (c.toNat:Int) 4294967295=((c^^^BitVec.allOnes 32).toNat:Int):=FX c (BitVec.allOnes 32)
theorem UR (c:BitVec 32) (b:UInt8):bits BinOp.xor IntKind.u32 (c.toNat:Int) (b.toNat:Int)=((c^^^BitVec.ofNat 32 b.toNat).toNat:Int):=by
 have h:=FX c (BitVec.ofNat 32 b.toNat)
 have e:(BitVec.ofNat 32 b.toNat).toNat=b.toNat:=by
  rw[BitVec.toNat_ofNat]
  have:=b.toNat_lt
  omega
 rw[e]at h
 exact h
theorem UU (c:BitVec 32):((c>>>1).toNat:Int)=(c.toNat:Int)/2:=by
 rw[BitVec.toNat_ushiftRight,Nat.shiftRight_eq_div_pow]
 omega
theorem UW (c0:BitVec 32) (b:UInt8) (w:World):Calls Tryz.prog 61 #[.int .u32 c0.toNat, .int .u8 b.toNat] w fun e w'=>e= .returned (.int .u32 (iJ.add c0 b).toNat)∧w=w':=by
 have hb:=b.toNat_lt
 have hw:IntKind.u32.wrap (b.toNat:Int)=(b.toNat:Int):=by rw[IntKind.wrap_u32];omega
 go_enter Tryz.func61,Tryz.ntmps61
 go_wp2
 clear hw
 go_loopw [0,10] (fun c i W=>∃k:Nat,k≤8∧i= .int .i64 k∧c= .int .u32 (iJ.xE k (c0^^^BitVec.ofNat 32 b.toNat)).toNat∧W=w) (fun _ i _=>8-(intOf i).toNat)
 case atStart=>exact⟨0,by omega,rfl,by rw[UR];rfl,rfl⟩
 case round=>
  obtain⟨k,hk,rfl,rfl,rfl⟩:=hrel
  by_cases hlt:k<8
  ·have hst:iJ.xE (k+1) (c0^^^BitVec.ofNat 32 b.toNat)=iJ.st (iJ.xE k (c0^^^BitVec.ofNat 32 b.toNat)):=rfl
   have HST:=ah hst;clear hst
   generalize hc:iJ.xE k (c0^^^BitVec.ofNat 32 b.toNat)=c at*
   have HC:=ah hc;clear hc
   have h1:=and_one c
   have h2:=UU c
   have h3:=UO (c>>>1)
   have hcl:=c.isLt
   cases hbit:c.getLsbD 0 with
   |true=>
    rw[hbit,if_pos rfl]at h1
    have HE:=ah (show iJ.st c=(c>>>1)^^^iJ.P from if_pos hbit)
    go_wp2
    go_roundw
    case rel=>exact⟨k+1,by omega,by go_num,by rw[HST.out,HE.out,←h3,h2],trivial⟩
    case measure=>simp[intOf];omega
   |false=>
    rw[hbit,if_neg (by decide)]at h1
    have HE:=ah (show iJ.st c=c>>>1 from if_neg (by rw[hbit];decide))
    go_wp2
    go_roundw
    case rel=>exact⟨k+1,by omega,by go_num,by rw[HST.out,HE.out,h2],trivial⟩
    case measure=>simp[intOf];omega
  ·obtain rfl:k=8:=by omega
   go_wp2
   go_ret
   exact⟨rfl,rfl⟩
theorem UY {α:Type} (f:α→UInt8→α) (c:α) {l:List UInt8} {k:Nat} (h:k<l.length):(l.take (k+1)).foldl f c=f ((l.take k).foldl f c) (l.getD k 0):=by
 rw[List.take_add_one,List.getElem?_eq_getElem h,List.foldl_append,List.getD_eq_getElem?_getD,List.getElem?_eq_getElem h]
 rfl
end Go.Proofs.YtlhmbkjdfjoilaaGreat
