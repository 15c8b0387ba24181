/- Words for the law MsgSame: MsgC, Trod, TreeOpen, CauOpen, Awake0, Make, Awake, BunSm, BunOpen. -/
import Derived.Test.YtabkpccdnkjoiaaGreatMsgSameG0
import Derived.Test.YtabkpccdnkjoiaaGreatMsgSameG1
import Derived.Test.YtabkpccdnkjoiaaGreatMsgSameG8
import Derived.Test.YtabkpccdnkjoiaaGreatMsgSameG9
import Derived.Test.YtabkpccdnkjoiaaGreatMsgSameG11
import Derived.Test.YtabkpccdnkjoiaaGreatMsgSameG16
import Derived.Test.YtabkpccdnkjoiaaGreatMsgSameG19
import Derived.Test.YtabkpccdnkjoiaaGreatMsgSameG22
import Derived.Test.YtabkpccdnkjoiaaGreatMsgSameG24
import Derived.Test.YtabkpccdnkjoiaaGreatMsgSameG25
import Derived.Test.YtabkpccdnkjoiaaGreatMsgSameG26
import Derived.Test.YtabkpccdnkjoiaaGreatMsgSameG27
import Derived.Deep.Strs
import Derived.ChangeArms
import Derived.ProofKit
import Derived.OpenShut
import Derived.ChangeSame
import Derived.SizedLaws
import Derived.Laws.IdiomArrays
set_option linter.unusedSimpArgs false
set_option linter.unusedVariables false
set_option maxHeartbeats 32000000
set_option maxRecDepth 1000000
namespace Go.Proofs.YtabkpccdnkjoiaaGreat
open Go.RowKit
theorem aat (Q:Nat→Prop) (bs:List aY) (es:List aG) (ks:aH) (c:aW) (w:World) (kind fr tt v0 v1 v2 v3:Int) (lv ev kv cv:Value) (hb:tZ Q w lv bs) (BA:∀p∈bs,fP p.b.es p.b.ks p.b.c) (hbl:bs.length≤100000) (h:fH Q w ev kv cv es ks c) (hok:fP es ks c):
 Calls Tryz.prog 62 #[.agg #[.int .i64 kind, .int .i64 fr, .int .i64 tt, .int .i64 v0, .int .i64 v1, .int .i64 v2, .int .i64 v3,lv,ev,kv,cv]] w fun e w'=>e= .returned (.bool (tf (Au kind fr tt v0 v1 v2 v3 bs es ks c)))∧aj ay w w':=by
 have AA:=ah (fun W (f:aj ay w W)=>YQ Q bs W lv (hb.aO f) BA hbl)
 have HST:=ah (fun W (f:aj ay w W)=>Zb Q es ks c W kind fr tt v0 v1 v2 v3 lv ev kv cv (hb.rd.sl.elim fun a h=>h.elim fun n h=>⟨a,_,n,h⟩) (h.aO f) hok)
 have eH:=ah (fun W=>vZ W v0 v1 v2 v3)
 unfold sN at eH
 have cO:=ah (fun W=>Qw fr W)
 have HC2:=ah (fun W=>Qw tt W)
 obtain⟨a0,c0,a1,c1,a2,c2,rfl,rfl,rfl⟩:=h.shape
 obtain⟨al,cl,rfl⟩:=hb.rd.sl
 clear h hok hb BA
 have aQ:=ah (fun W f=>Aq w (.int .i64 kind) (.int .i64 fr) (.int .i64 tt) (.int .i64 v0) (.int .i64 v1) (.int .i64 v2) (.int .i64 v3) (.slice al bs.length cl) (.slice a0 es.length c0) (.slice a1 ks.len c1) (.slice a2 c.length c2) 36 W f)
 have mV:=ah (show Au kind fr tt v0 v1 v2 v3 bs es ks c↔f_ (bG v0 v1 v2 v3)∧(0≤fr∧fr<4)∧(0≤tt∧tt<4)∧fr≠tt∧((kind=1∧(c.length=0∧es.length=0∧ks.len=0)∧1≤bs.length∧bs.length≤16∧bs.any pW=false)∨(kind=2∧bs.length=0∧qh v0 v1 v2 v3 es ks c)∨((kind=3∨kind=4)∧(c.length=0∧es.length=0∧ks.len=0)∧bs.length=0))from Iff.rfl)
 generalize Au kind fr tt v0 v1 v2 v3 bs es ks c=P at*
 generalize hSP:qh v0 v1 v2 v3 es ks c=SP at*
 clear hSP
 generalize bs.any pW=hv at*
 generalize bs.length=ln at*
 generalize es.length=n at*
 generalize ks.len=m at*
 generalize c.length=k at*
 generalize bG v0 v1 v2 v3=f at*
 have aU:=ah (show aj ay w (w.alloc (.cells #[.int .i64 kind, .int .i64 fr, .int .i64 tt, .int .i64 v0, .int .i64 v1, .int .i64 v2, .int .i64 v3, .slice al ln cl, .slice a0 n c0, .slice a1 m c1, .slice a2 k c2] 36))from aj.alloc _ _ _)
 by_cases hm:f_ f
 rotate_left 1
 ·rw[aZ (show ¬P from fun h=>hm (mV.out.1 h).1)]
  have HM:=ah hm
  clear hm mV
  go_enter Tryz.func62,Tryz.ntmps62
  go_wp2_with(first
   |(go_at_call 124;refine(eH.out _).mono ?_;rintro e w1 ⟨hw1,-,hy⟩;have he:=hy HM.out;subst he;clear hy;have HW1:=ah (aU.out.au hw1);clear hw1))
  go_ret
  exact⟨rfl,HW1.out⟩
 have RD:∀W,Calls Tryz.prog 124 #[.agg #[.int .i64 v0, .int .i64 v1, .int .i64 v2, .int .i64 v3]] W fun e w1=>aj ay W w1∧∃av nv cv,e= .returned (.tuple #[.slice av nv cv, .int .i64 0]):=fun W=>(eH.out W).mono fun e w1 q=>by
  obtain⟨hw1,hy,-⟩:=q
  obtain⟨v',he,ho,-⟩:=hy hm
  obtain⟨av,cv,rfl⟩:=ho.shape
  exact⟨hw1,av,_,cv,he⟩
 have HM:=ah hm;clear hm eH
 have eH:=ah RD;clear RD
 by_cases h1:0≤fr∧fr<4
 rotate_left 1
 ·rw[aZ (show ¬P from fun h=>h1 (mV.out.1 h).2.1)]
  rw[decide_eq_false h1]at cO
  clear h1 mV
  go_enter Tryz.func62,Tryz.ntmps62
  go_wp2_with(first
   |(go_at_call 124;refine(eH.out _).mono ?_;rintro e w1 ⟨hw1,av,nv,cv,he⟩;subst he;obtain⟨y0,y1,y2,y3,y4,y5,y6,y7,y8,y9,aT⟩:=aQ.out w1 hw1;have HW1:=ah (aU.out.au hw1);clear hw1)
   |(go_at_call 127;(first|refine(cO.out _).mono ?_|refine(HC2.out _).mono ?_);rintro e w9 ⟨rfl,rfl⟩))
  go_ret
  exact⟨rfl,HW1.out⟩
 rw[decide_eq_true h1]at cO
 by_cases h2:0≤tt∧tt<4
 rotate_left 1
 ·rw[aZ (show ¬P from fun h=>h2 (mV.out.1 h).2.2.1)]
  rw[decide_eq_false h2]at HC2
  clear h1 h2 mV
  go_enter Tryz.func62,Tryz.ntmps62
  go_wp2_with(first
   |(go_at_call 124;refine(eH.out _).mono ?_;rintro e w1 ⟨hw1,av,nv,cv,he⟩;subst he;obtain⟨y0,y1,y2,y3,y4,y5,y6,y7,y8,y9,aT⟩:=aQ.out w1 hw1;have HW1:=ah (aU.out.au hw1);clear hw1)
   |(go_at_call 127;(first|refine(cO.out _).mono ?_|refine(HC2.out _).mono ?_);rintro e w9 ⟨rfl,rfl⟩))
  go_ret
  exact⟨rfl,HW1.out⟩
 rw[decide_eq_true h2]at HC2
 by_cases h3:fr=tt
 ·rw[aZ (show ¬P from fun h=>(mV.out.1 h).2.2.2.1 h3)]
  have h3':((fr:Int)==tt)=true:=by rw[h3];exact beq_self_eq_true _
  clear h1 h2 h3 mV
  go_enter Tryz.func62,Tryz.ntmps62
  go_wp2_with(first
   |(go_at_call 124;refine(eH.out _).mono ?_;rintro e w1 ⟨hw1,av,nv,cv,he⟩;subst he;obtain⟨y0,y1,y2,y3,y4,y5,y6,y7,y8,y9,aT⟩:=aQ.out w1 hw1;have HW1:=ah (aU.out.au hw1);clear hw1)
   |(go_at_call 127;(first|refine(cO.out _).mono ?_|refine(HC2.out _).mono ?_);rintro e w9 ⟨rfl,rfl⟩))
  go_ret
  exact⟨rfl,HW1.out⟩
 have X:Di P SP hv ln n m k kind fr tt v0 v1 v2 v3 al a0 a1 a2 cl c0 c1 c2 w:=⟨AA.out,HST.out,eH.out,cO.out,HC2.out,aQ.out,h3,⟨fun h=>(mV.out.1 h).2.2.2.2,fun h=>mV.out.2 ⟨HM.out,h1,h2,h3,h⟩⟩⟩
 by_cases hk:k=0
 rotate_left 1
 ·exact aao X hk
 by_cases hn:n=0
 rotate_left 1
 ·exact aap X hk hn
 by_cases hm:m=0
 rotate_left 1
 ·exact aaq X hk hn hm
 exact aar X hk hn hm
open Go.RowKit
theorem Gj {α:Type} [Inhabited α] {n:Nat} {p:Nat→α→Prop} (h:∀i,i<n→∃x,p i x):∃l:List α,l.length=n∧∀i,i<n→∀d,p i (l.getD i d):=by
 obtain⟨f,hf⟩:=Go.Deep.choose_lt h
 refine⟨(List.range n).map f,by simp,fun i hi d=>?_⟩
 have:((List.range n).map f).getD i d=f i:=by simp[List.getD,hi]
 rw[this]
 exact hf i hi
section
variable {H:Type} {enc:TypeId×Value→H} {P:Program} {w:World} {base:Nat} {sp:Nat→Bool} {held:Bool}
theorem open_arr {t e sz:Nat} {a0:Option Addr} {len cap:Nat} {d:DataW H×List MemPlace} {fuel:Nat} (ht:P.underlying t=some (.slice e)) (hsz:P.cellsOf e=sz) (hpos:0<sz) (hsp:∀b,sp b=true)
 (h:DataW.trod enc P w base sp held fuel t [.slice a0 len cap]=some d):
 (len=0∧cap=0)∨∃b off,a0=some ⟨b,off,none⟩∧len≤cap∧cap≤maxLen∧
   ∃n,∀k,k<len→∃cs:List Value,cs.length=sz∧(∀j u,cs[j]?=some u→w.cell? ⟨b,off+k*sz+j,none⟩=some u)∧∃y,DataW.trod enc P w base sp held n e cs=some y:=by
 rcases Go.Deep.open_slice ht h with⟨hcs,_⟩|⟨a,len',cap',m,n,D,Pl,hcs,_,hl,hm,hmm,_,hel⟩
 ·left
  simp only[List.cons.injEq,Value.slice.injEq,and_true]at hcs
  exact⟨hcs.2.1,hcs.2.2⟩
 ·simp only[List.cons.injEq,Value.slice.injEq,and_true]at hcs
  obtain⟨rfl,rfl,rfl⟩:=hcs
  rw[hsp]at hmm
  simp only[if_true]at hmm
  subst hmm
  subst hsz
  rcases Nat.eq_zero_or_pos m with h0|h0
  ·left;omega
  ·right
   obtain⟨b,off,spot⟩:=a
   have hspot:spot=none:=by
    obtain⟨cs',hc,_⟩:=hel 0 h0
    obtain⟨_,hlen,hcells⟩:=World.cells?_some hc
    have h00:cs'[0]?=some (cs'[0]'(by omega)):=List.getElem?_eq_getElem _
    have:=hcells 0 (by omega)
    rw[h00]at this
    have hs:=World.cell?_spot this
    simpa[Addr.add]using hs
   subst hspot
   refine⟨b,off,rfl,hl,hm,n,fun k hk=>?_⟩
   obtain⟨cs',hc,ht'⟩:=hel k (by omega)
   obtain⟨_,hlen,hcells⟩:=World.cells?_some hc
   refine⟨cs',hlen,fun j u hu=>?_,_,ht'⟩
   have hj:j<P.cellsOf e:=by rw[←hlen];exact(List.getElem?_eq_some_iff.1 hu).1
   have:=hcells j hj
   rw[addr_add,addr_add]at this
   rw[this,hu]
end
end Go.Proofs.YtabkpccdnkjoiaaGreat
namespace Go.Proofs.YtabkpccdnkjoiaaGreat
open Go.RowKit Go.WideShapes
theorem DJ {α:Type} (f:α→List Value) (k:Nat) (hk:0<k) (hf:∀x,(f x).length=k) (d:α):∀(l:List α) (j:Nat) (u:Value),(l.flatMap f)[j]?=some u→j/k<l.length∧(f (l.getD (j/k) d))[j%k]?=some u
 |[],j,u,h=>by simp at h
 |x::l,j,u,h=>by
  rw[List.flatMap_cons]at h
  by_cases hj:j<k
  ·rw[List.getElem?_append_left (by rw[hf];exact hj)]at h
   rw[Nat.div_eq_of_lt hj,Nat.mod_eq_of_lt hj]
   exact⟨Nat.zero_lt_succ _,h⟩
  ·rw[List.getElem?_append_right (by rw[hf];omega),hf]at h
   obtain⟨h1,h2⟩:=DJ f k hk hf d l (j-k) u h
   have e1:j/k=(j-k)/k+1:=by rw[Nat.div_eq_sub_div hk (by omega)]
   have e2:j%k=(j-k)%k:=Nat.mod_eq_sub_mod (by omega)
   rw[e1,e2]
   exact⟨by simpa using h1,by simpa using h2⟩
theorem Gl (j k:Nat) (off:Nat):off+j/k*k+j%k=off+j:=by
 have:=Nat.div_add_mod j k
 rw[Nat.mul_comm]at this
 omega
theorem weightsAll_mem {H:Type} {P:Program} {e:TypeId}:∀ {l:List (DataW H)} {y:DataW H},y∈l→∀n∈y.weights P e,n∈DataW.weightsAll P e l
 |d::l,y,h,n,hn=>by
  rw[DataW.weightsAll,List.mem_append]
  rcases List.mem_cons.1 h with rfl|h
  ·exact .inl hn
  ·exact .inr (weightsAll_mem h n hn)
theorem ru {x:Int} (h:(Lit.int .i64 x).wf=true):-9223372036854775808≤x∧x≤9223372036854775807:=by
 simp only[Lit.wf,IntKind.min,IntKind.max,IntKind.signed,IntKind.bits]at h
 simpa using h
section
variable {H:Type} {enc:TypeId×Value→H} {P:Program} {w:World}
theorem Gm {t e sz RF:Nat} {a0:Option Addr} {len cap:Nat} {x:DataW H×List MemPlace} {fuel:Nat} (ht:P.underlying t=some (.slice e)) (hsz:P.cellsOf e=sz) (hpos:0<sz) (hby:P.bytesOf e=RF)
 (h:DataW.trod enc P w 0 (fun _=>true) true fuel t [.slice a0 len cap]=some x) (hw:∀n∈x.1.weights P t,n≤reachBytes):
 (len=0∧cap=0)∨∃b off n,a0=some ⟨b,off,none⟩∧len≤cap∧cap≤maxLen∧fuel=n+1∧len*RF≤reachBytes∧
   ∀k,k<len→∃cs:List Value,cs.length=sz∧(∀j u,cs[j]?=some u→w.cell? ⟨b,off+k*sz+j,none⟩=some u)∧∃y,DataW.trod enc P w 0 (fun _=>true) true n e cs=some y∧∀n∈y.1.weights P e,n≤reachBytes:=by
 rcases open_arr ht hsz hpos (fun _=>rfl) h with h0|⟨b,off,rfl,hl,hm,_⟩
 ·exact .inl h0
 right
 rcases DataW.trod_slice ht h with⟨hcs,_⟩|⟨a,len',cap',elems,rest,n,hfuel,hcs,rfl,_,_,_,hlen,hel,hsp,_⟩
 ·simp at hcs
 simp only[List.cons.injEq,Value.slice.injEq,Option.some.injEq,and_true]at hcs
 obtain⟨rfl,rfl,rfl⟩:=hcs
 subst hsz
 subst hby
 simp only[DataW.weights,ht]at hw
 refine⟨b,off,n,rfl,hl,hm,hfuel,?_,fun k hk=>?_⟩
 ·have h1:=hw _ List.mem_cons_self
  simp only[List.length_map]at h1
  rw[hlen]at h1
  exact Nat.le_trans (Nat.mul_le_mul_right _ (Nat.le_add_right _ _)) h1
 ·have hke:k<elems.length:=by omega
  have h1:=hel k hk
  rw[List.getElem?_eq_getElem hke,Option.bind_eq_some_iff]at h1
  obtain⟨cs',hc,ht'⟩:=h1
  obtain⟨_,hcl,hcells⟩:=World.cells?_some hc
  refine⟨cs',hcl,fun j u hu=>?_,_,ht',fun m hm=>?_⟩
  ·have hj:j<P.cellsOf e:=by rw[←hcl];exact(List.getElem?_eq_some_iff.1 hu).1
   have:=hcells j hj
   rw[addr_add,addr_add]at this
   rw[this,hu]
  ·refine hw m (List.mem_cons_of_mem _ (List.mem_append_left _ (weightsAll_mem (y:=elems[k].1) ?_ m hm)))
   exact List.mem_map.2 ⟨_,List.getElem_mem hke,rfl⟩
theorem Gn {t e:Nat} {c:Value} {x:DataW H×List MemPlace} {fuel:Nat} (ht:P.underlying t=some (.slice e)) (h:DataW.trod enc P w 0 (fun _=>true) true fuel t [c]=some x):∃a l k,c= .slice a l k:=by
 rcases DataW.trod_slice ht h with⟨hcs,_⟩|⟨a,len',cap',elems,rest,n,hfuel,hcs,_⟩
 ·simp at hcs;exact⟨_,_,_,hcs⟩
 ·simp at hcs;exact⟨_,_,_,hcs⟩
end
section
variable {H:Type} {enc:TypeId×Value→H} {w:World}
theorem Tryz.cells_entry:Tryz.prog.cellsOf 172=4:=by kernel_rfl
theorem Tryz.bytes_entry:Tryz.prog.bytesOf 172=40:=by kernel_rfl
theorem Tryz.cells_kid:Tryz.prog.cellsOf 83=3:=by kernel_rfl
theorem Tryz.bytes_kid:Tryz.prog.bytesOf 83=64:=by kernel_rfl
theorem Tryz.cells_dot:Tryz.prog.cellsOf 170=2:=by kernel_rfl
theorem Tryz.cells_span:Tryz.prog.cellsOf 144=3:=by kernel_rfl
theorem Tryz.bytes_span:Tryz.prog.bytesOf 144=24:=by kernel_rfl
theorem Tryz.cells_I:Tryz.prog.cellsOf 3=1:=by kernel_rfl
theorem Tryz.cells_I64:Tryz.prog.cellsOf 2=1:=by kernel_rfl
theorem Tryz.cells_S:Tryz.prog.cellsOf 9=1:=by kernel_rfl
instance:Inhabited aG:=⟨aG.zero⟩
instance:Inhabited aH:=⟨.nil⟩
theorem aau (l:List aG) (j:Nat) (u:Value) (h:(iY l)[j]?=some u):j/4<l.length∧(l.getD (j/4) aG.zero).cells[j%4]?=some u:=DJ aG.cells 4 (by decide) (fun _=>rfl) aG.zero l j u h
theorem aav {n:Nat} {cs:List Value} {y:DataW H×List MemPlace} (hl:cs.length=4) (h:DataW.trod enc Tryz.prog w 0 (fun _=>true) true n 172 cs=some y):∃e:aG,cs=e.cells∧e.fits:=by
 obtain⟨c0,c1,c2,c3,rfl⟩:∃c0 c1 c2 c3,cs=[c0,c1,c2,c3]:=by
  match cs,hl with
  |[c0,c1,c2,c3],_=>exact⟨c0,c1,c2,c3,rfl⟩
 obtain⟨y0,y1,y2,m,_,_,g0,g1,g2⟩:=Go.Deep.trod_struct3 Tryz.underlying172 h
 rw[Tryz.cells_dot]at g0
 rw[Tryz.cells_S]at g1
 rw[Tryz.cells_I64]at g2
 obtain⟨z0,z1,m2,_,_,k0,k1⟩:=Go.ChangeShapes.trod_struct2 Tryz.underlying170 g0
 rw[Tryz.cells_I]at k0
 rw[Tryz.cells_I64]at k1
 obtain⟨d,e0,_,w0⟩:=DataW.trod_int Tryz.underlying3 k0
 obtain⟨x,e1,_,w1⟩:=DataW.trod_int Tryz.underlying2 k1
 obtain⟨s,e2,_,hs⟩:=DataW.trod_string Tryz.underlying9 g1
 obtain⟨z,e3,_,w3⟩:=DataW.trod_int Tryz.underlying2 g2
 simp at e0 e1 e2 e3
 subst e0 e1 e2 e3
 exact⟨⟨d,x,s,z⟩,rfl,ru w0,ru w1,ru w3,by simp only[maxLen]at hs;omega⟩
theorem aaw {fuel:Nat} {c:Value} {x:DataW H×List MemPlace} (h:DataW.trod enc Tryz.prog w 0 (fun _=>true) true fuel 27 [c]=some x) (hw:∀n∈x.1.weights Tryz.prog 27,n≤reachBytes):
 ∃es:List aG,fC (fun _=>True) w c es.length (iY es)∧zS es:=by
 obtain⟨a0,len,cap,rfl⟩:=Gn Tryz.underlying27 h
 rcases Gm Tryz.underlying27 Tryz.cells_entry (by decide) Tryz.bytes_entry h hw with⟨rfl,rfl⟩|⟨b,off,n,rfl,h1,h2,_,h3,hel⟩
 ·exact⟨[],⟨.inl ⟨a0,rfl,rfl,rfl⟩,fun _ _ _=>trivial⟩,by simp,by simp⟩
 ·have hx:∀k,k<len→∃e:aG,(∀j u,e.cells[j]?=some u→w.cell? ⟨b,off+k*4+j,none⟩=some u)∧e.fits:=fun k hk=>by
   obtain⟨cs,hl,hc,y,hy,_⟩:=hel k hk
   obtain⟨e,rfl,hf⟩:=aav hl hy
   exact⟨e,hc,hf⟩
  obtain⟨l,hl,hlp⟩:=Gj hx
  have hlen:l.length≤140737488351232:=by unfold reachBytes at h3;omega
  refine⟨l,⟨.inr ⟨b,off,cap,by rw[hl],by omega,h2,fun j u hu=>?_⟩,fun _ _ _=>trivial⟩,hlen,fun e he=>?_⟩
  ·obtain⟨g1,g2⟩:=aau l j u hu
   have:=(hlp (j/4) (by omega) aG.zero).1 (j%4) u g2
   rwa [Gl]at this
  ·obtain⟨k,hk,rfl⟩:=List.getElem_of_mem he
   have:=(hlp k (by omega) aG.zero).2
   rwa [getD_at aG.zero hk]at this
theorem open_tree:∀(fuel:Nat) (ev kv:Value) (x:DataW H×List MemPlace),DataW.trod enc Tryz.prog w 0 (fun _=>true) true fuel 30 [ev,kv]=some x→(∀n∈x.1.weights Tryz.prog 30,n≤reachBytes)→
 ∃es ks,bQ (fun _=>True) w ev kv es ks∧iJ es ks:=by
 intro fuel
 induction fuel using Nat.strongRecOn with
 |_ fuel ih=>
  intro ev kv x h hw
  obtain⟨xs,n,hn,rfl,_,hxl,hf⟩:=DataW.trod_struct Tryz.underlying30 h
  obtain⟨y0,y1,rfl⟩:∃y0 y1,xs=[y0,y1]:=by
   match xs,hxl with
   |[y0,y1],_=>exact⟨y0,y1,rfl⟩
  have g0:=hf 0 _ rfl
  have g1:=hf 1 _ rfl
  have g0:DataW.trod enc Tryz.prog w 0 (fun _=>true) true n 27 [ev]=some y0:=g0
  have g1:DataW.trod enc Tryz.prog w 0 (fun _=>true) true n 28 [kv]=some y1:=g1
  have hw2:∀m∈y0.1.weights Tryz.prog 27++(y1.1.weights Tryz.prog 28++ []),m≤reachBytes:=fun m hm=>hw m (by
   simp only[List.map_cons,List.map_nil,DataW.weights,Tryz.underlying30]
   exact hm)
  obtain⟨es,he,hok⟩:=aaw g0 fun m hm=>hw2 m (List.mem_append_left _ hm)
  have hw3:∀m∈y1.1.weights Tryz.prog 28,m≤reachBytes:=fun m hm=>hw2 m (List.mem_append_right _ (List.mem_append_left _ hm))
  obtain⟨a0,len,cap,rfl⟩:=Gn Tryz.underlying28 g1
  rcases Gm Tryz.underlying28 Tryz.cells_kid (by decide) Tryz.bytes_kid g1 hw3 with⟨rfl,rfl⟩|⟨b,off,n2,rfl,h1,h2,hn2,h3,hel⟩
  ·exact⟨es, .nil,⟨he,[],⟨.inl ⟨a0,rfl,rfl,rfl⟩,fun _ _ _=>trivial⟩,rfl⟩,hok,by decide,trivial⟩
  ·have hx:∀k,k<len→∃q:fM,(∀j u,q.cells[j]?=some u→w.cell? ⟨b,off+k*3+j,none⟩=some u)∧bQ (fun _=>True) w q.ev q.kv q.es q.sub∧q.key.size≤9223372036854775807∧iJ q.es q.sub:=fun k hk=>by
    obtain⟨cs,hl,hc,y,hy,KY⟩:=hel k hk
    obtain⟨c0,c1,c2,rfl⟩:∃c0 c1 c2,cs=[c0,c1,c2]:=by
     match cs,hl with
     |[c0,c1,c2],_=>exact⟨c0,c1,c2,rfl⟩
    obtain⟨zs,n3,hn3,rfl,_,hzl,hg⟩:=DataW.trod_struct Tryz.underlying83 hy
    obtain⟨z0,z1,rfl⟩:∃z0 z1,zs=[z0,z1]:=by
     match zs,hzl with
     |[z0,z1],_=>exact⟨z0,z1,rfl⟩
    have k0:=hg 0 _ rfl
    have k1:=hg 1 _ rfl
    have k0:DataW.trod enc Tryz.prog w 0 (fun _=>true) true n3 9 [c0]=some z0:=k0
    have k1:DataW.trod enc Tryz.prog w 0 (fun _=>true) true n3 30 [c1,c2]=some z1:=k1
    have aax:∀m∈z0.1.weights Tryz.prog 9++(z1.1.weights Tryz.prog 30++ []),m≤reachBytes:=fun m hm=>KY m (by
     simp only[List.map_cons,List.map_nil,DataW.weights,Tryz.underlying83]
     exact hm)
    obtain⟨s,e2,_,hs⟩:=DataW.trod_string Tryz.underlying9 k0
    simp at e2
    subst e2
    obtain⟨es',ks',ht,hok'⟩:=ih n3 (by omega) c1 c2 z1 k1 fun m hm=>aax m (List.mem_append_right _ (List.mem_append_left _ hm))
    exact⟨⟨s,es',ks',c1,c2⟩,hc,ht,by simp only[maxLen]at hs;show s.size≤_;omega,hok'⟩
   obtain⟨l,hl,hlp⟩:=Gj hx
   have hq:∀q∈l,bQ (fun _=>True) w q.ev q.kv q.es q.sub∧q.key.size≤9223372036854775807∧iJ q.es q.sub:=fun q hq=>by
    obtain⟨k,hk,rfl⟩:=List.getElem_of_mem hq
    have:=(hlp k (by omega) default).2
    rwa [getD_at default hk]at this
   refine⟨es,mkK l,⟨he,yM l,⟨.inr ⟨b,off,cap,by rw[vX,hl],by rw[vX];omega,h2,fun j u hu=>?_⟩,fun _ _ _=>trivial⟩,EW fun q h=>(hq q h).1⟩,hok,by rw[vX,hl];unfold reachBytes at h3;omega,Oz fun q h=>(hq q h).2⟩
   rw[EU]at hu
   obtain⟨g1,g2⟩:=DJ fM.cells 3 (by decide) (fun _=>rfl) default l j u hu
   have:=(hlp (j/3) (by omega) default).1 (j%3) u g2
   rwa [Gl]at this
theorem aay (l:aW) (j:Nat) (u:Value) (h:(eu l)[j]?=some u):j/3<l.length∧([.int .i64 (l.getD (j/3) (0,0,0)).1, .int .i64 (l.getD (j/3) (0,0,0)).2.1, .int .i64 (l.getD (j/3) (0,0,0)).2.2]:List Value)[j%3]?=some u:=
 DJ (fun s:Int×Int×Int=> [.int .i64 s.1, .int .i64 s.2.1, .int .i64 s.2.2]) 3 (by decide) (fun _=>rfl) (0,0,0) l j u h
theorem aaz {fuel:Nat} {c:Value} {x:DataW H×List MemPlace} (h:DataW.trod enc Tryz.prog w 0 (fun _=>true) true fuel 32 [c]=some x) (hw:∀n∈x.1.weights Tryz.prog 32,n≤reachBytes):
 ∃l:aW,fZ w c l∧kE l∧l.length≤140737488351232:=by
 obtain⟨a0,len,cap,rfl⟩:=Gn Tryz.underlying32 h
 rcases Gm Tryz.underlying32 Tryz.cells_span (by decide) Tryz.bytes_span h hw with⟨rfl,rfl⟩|⟨b,off,n,rfl,h1,h2,_,h3,hel⟩
 ·exact⟨[], .inl ⟨a0,rfl,rfl,rfl⟩,(fun s hs=>by cases hs),Nat.zero_le _⟩
 ·have hx:∀k,k<len→∃s:Int×Int×Int,(∀j u,([.int .i64 s.1, .int .i64 s.2.1, .int .i64 s.2.2]:List Value)[j]?=some u→w.cell? ⟨b,off+k*3+j,none⟩=some u)∧(-9223372036854775808≤s.1∧s.1≤9223372036854775807∧-9223372036854775808≤s.2.1∧s.2.1≤9223372036854775807∧-9223372036854775808≤s.2.2∧s.2.2≤9223372036854775807):=fun k hk=>by
   obtain⟨cs,hl,hc,y,hy,_⟩:=hel k hk
   obtain⟨c0,c1,c2,rfl⟩:∃c0 c1 c2,cs=[c0,c1,c2]:=by
    match cs,hl with
    |[c0,c1,c2],_=>exact⟨c0,c1,c2,rfl⟩
   obtain⟨y0,y1,y2,m,_,_,g0,g1,g2⟩:=Go.Deep.trod_struct3 Tryz.underlying144 hy
   rw[Tryz.cells_I]at g0
   rw[Tryz.cells_I64]at g1 g2
   obtain⟨p,e0,_,w0⟩:=DataW.trod_int Tryz.underlying3 g0
   obtain⟨q,e1,_,w1⟩:=DataW.trod_int Tryz.underlying2 g1
   obtain⟨r,e2,_,w2⟩:=DataW.trod_int Tryz.underlying2 g2
   simp at e0 e1 e2
   subst e0 e1 e2
   exact⟨(p,q,r),hc,(ru w0).1,(ru w0).2,(ru w1).1,(ru w1).2,(ru w2).1,(ru w2).2⟩
  obtain⟨l,hl,hlp⟩:=Gj hx
  refine⟨l, .inr ⟨b,off,cap,by rw[hl],by omega,h2,fun j u hu=>?_⟩,fun s hs=>?_,by unfold reachBytes at h3;omega⟩
  ·obtain⟨g1,g2⟩:=aay l j u hu
   have:=(hlp (j/3) (by omega) (0,0,0)).1 (j%3) u g2
   rwa [Gl]at this
  ·obtain⟨k,hk,rfl⟩:=List.getElem_of_mem hs
   have:=(hlp k (by omega) (0,0,0)).2
   rwa [getD_at (0,0,0) hk]at this
end
end Go.Proofs.YtabkpccdnkjoiaaGreat
namespace Go.Proofs.YtabkpccdnkjoiaaGreat
open Go.RowKit Go.WideShapes Go.ChangeShapes
theorem RG {H:Type} {P:Program} {ts us:List TypeId} {ds gs:List (DataW H)} (h:(DataW.weightsEach P (ts++us) (ds++gs)).all (·≤reachBytes)=true) {j:Nat} {t:TypeId} {d:DataW H} (ht:ts[j]?=some t) (hd:ds[j]?=some d):
 ∀n∈d.weights P t,n≤reachBytes:=fun n hn=>by
 have h1:(ts++us)[j]?=some t:=by rw[List.getElem?_append_left (List.getElem?_eq_some_iff.1 ht).1];exact ht
 have h2:(ds++gs)[j]?=some d:=by rw[List.getElem?_append_left (List.getElem?_eq_some_iff.1 hd).1];exact hd
 simpa using List.all_eq_true.1 h n (DataW.weights_mem_each h1 h2 n hn)
section
variable {H:Type} {enc:TypeId×Value→H} {w:World}
theorem RH {fuel:Nat} {ev kv cv:Value} {x:DataW H×List MemPlace} (h:DataW.trod enc Tryz.prog w 0 (fun _=>true) true fuel 34 [ev,kv,cv]=some x) (hw:∀n∈x.1.weights Tryz.prog 34,n≤reachBytes):
 ∃es ks c,fH (fun _=>True) w ev kv cv es ks c∧iJ es ks∧kE c∧c.length≤140737488351232:=by
 obtain⟨xs,n,hn,rfl,_,hxl,hf⟩:=DataW.trod_struct Tryz.underlying34 h
 obtain⟨y0,y1,rfl⟩:∃y0 y1,xs=[y0,y1]:=by
  match xs,hxl with
  |[y0,y1],_=>exact⟨y0,y1,rfl⟩
 have g0:=hf 0 _ rfl
 have g1:=hf 1 _ rfl
 have g0:DataW.trod enc Tryz.prog w 0 (fun _=>true) true n 30 [ev,kv]=some y0:=g0
 have g1:DataW.trod enc Tryz.prog w 0 (fun _=>true) true n 32 [cv]=some y1:=g1
 have hw2:∀m∈y0.1.weights Tryz.prog 30++(y1.1.weights Tryz.prog 32++ []),m≤reachBytes:=fun m hm=>hw m (by
  simp only[List.map_cons,List.map_nil,DataW.weights,Tryz.underlying34]
  exact hm)
 obtain⟨es,ks,h1,h2⟩:=open_tree _ ev kv _ g0 fun m hm=>hw2 m (List.mem_append_left _ hm)
 obtain⟨c,h3,h4,h5⟩:=aaz g1 fun m hm=>hw2 m (List.mem_append_right _ (List.mem_append_left _ hm))
 exact⟨es,ks,c,⟨h1,h3⟩,h2,h4,h5⟩
end
open Go.RowKit
open Go.RowKit
open Go.RowKit
open Go.RowKit
theorem aaA (Q:Nat→Prop) (es:List aG) (ks:aH) (c:aW) (left:Int) (w:World) (dc af la v0 v1 v2 v3:Int) (ev kv cv:Value) (h:fH Q w ev kv cv es ks c) (hok:iJ es ks) (hcl:c.length≤140737488351232) (h1:left≤1000) (h2:0≤left):
 Calls Tryz.prog 23 #[.agg #[.int .i64 dc, .int .i64 af, .int .i64 la, .int .i64 v0, .int .i64 v1, .int .i64 v2, .int .i64 v3,ev,kv,cv], .int .i64 left] w fun e w'=>e= .returned (.bool (decide (0≤nX es ks left 8)&&decide ((c.length:Int)≤left)))∧aj ay w w':=by
 have HC:=ah (fun W (f:aj ay w W)=>QX Q es ks c left W _ _ _ (h.aO f) hok hcl h1 h2)
 obtain⟨a0,c0,a1,c1,a2,c2,rfl,rfl,rfl⟩:=h.shape
 clear h hok
 generalize (decide (0≤nX es ks left 8)&&decide ((c.length:Int)≤left))=b at*
 generalize c.length=k at*
 go_enter Tryz.func23,Tryz.ntmps23
 go_wp2_with(go_at_call 50;refine(HC.out _ (aj.alloc _ _ _)).mono ?_;rintro e w1 ⟨rfl,hw1⟩;have HW1:=ah ((aj.alloc ay _ _).au hw1);clear hw1)
 go_ret
 exact⟨rfl,HW1.out⟩
end Go.Proofs.YtabkpccdnkjoiaaGreat
namespace Go.Proofs.YtabkpccdnkjoiaaGreat
open Go.RowKit Go.WideShapes Go.ChangeShapes
theorem Tryz.cells_bundle:Tryz.prog.cellsOf 55=10:=by kernel_rfl
section
variable {H:Type} {enc:TypeId×Value→H} {w:World}
theorem RI {fuel:Nat} {c0 c1 c2 c3:Value} {x:DataW H×List MemPlace} (h:DataW.trod enc Tryz.prog w 0 (fun _=>true) true fuel 25 [c0,c1,c2,c3]=some x):
 ∃v0 v1 v2 v3:Int,c0= .int .i64 v0∧c1= .int .i64 v1∧c2= .int .i64 v2∧c3= .int .i64 v3∧∀v∈ [v0,v1,v2,v3],-9223372036854775808≤v∧v≤9223372036854775807:=by
 obtain⟨z0,z1,z2,z3,m,_,k0,k1,k2,k3⟩:=trod_array4 Tryz.underlying25 Tryz.cells_I64 h
 obtain⟨v0,e0,_,w0⟩:=DataW.trod_int Tryz.underlying2 k0
 obtain⟨v1,e1,_,w1⟩:=DataW.trod_int Tryz.underlying2 k1
 obtain⟨v2,e2,_,w2⟩:=DataW.trod_int Tryz.underlying2 k2
 obtain⟨v3,e3,_,w3⟩:=DataW.trod_int Tryz.underlying2 k3
 simp at e0 e1 e2 e3
 refine⟨v0,v1,v2,v3,e0,e1,e2,e3,fun v hv=>?_⟩
 simp only[List.mem_cons,List.not_mem_nil,or_false]at hv
 rcases hv with rfl|rfl|rfl|rfl
 ·exact ru w0
 ·exact ru w1
 ·exact ru w2
 ·exact ru w3
end
end Go.Proofs.YtabkpccdnkjoiaaGreat
