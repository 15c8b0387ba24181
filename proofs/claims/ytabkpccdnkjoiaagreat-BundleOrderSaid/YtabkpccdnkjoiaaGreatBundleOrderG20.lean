/- Words for the law BundleOrder: Awake, BunSm, Trod, TreeOpen, CauOpen, BunOpen. -/
import Derived.Test.YtabkpccdnkjoiaaGreatBundleOrderG0
import Derived.Test.YtabkpccdnkjoiaaGreatBundleOrderG1
import Derived.Test.YtabkpccdnkjoiaaGreatBundleOrderG9
import Derived.Test.YtabkpccdnkjoiaaGreatBundleOrderG10
import Derived.Test.YtabkpccdnkjoiaaGreatBundleOrderG15
import Derived.Test.YtabkpccdnkjoiaaGreatBundleOrderG17
import Derived.Test.YtabkpccdnkjoiaaGreatBundleOrderG18
import Derived.Test.YtabkpccdnkjoiaaGreatBundleOrderG19
import Derived.Deep.Strs
import Derived.ChangeArms
import Derived.ProofKit
import Derived.OpenShut
import Derived.ChangeSame
import Derived.SizedLaws
import Derived.Laws.IdiomArrays
set_option linter.unusedSimpArgs false
set_option linter.unusedVariables false
set_option maxHeartbeats 32000000
set_option maxRecDepth 1000000
namespace Go.Proofs.YtabkpccdnkjoiaaGreat
open Go.RowKit
theorem Rk:bU [] m_=[(1,1)]:=rfl
theorem Rl:gG [] m_:=
 ⟨⟨Nat.zero_le _,fun e he=>by cases he⟩,by decide,⟨by decide,⟨by decide,fun e he=>by
   simp only[Dw,List.mem_singleton]at he
   subst he
   exact⟨by decide,by decide,by decide,by decide⟩⟩,by decide,trivial,trivial⟩⟩
theorem DY (b:Int) (h1:1≤b) (h2:b≤1099511627776):fG [] m_ [(1,1,b)]:=
 ⟨Rl,by decide,fun s hs=>by simp only[List.mem_singleton]at hs;subst hs;dsimp only;omega,by simp⟩
theorem Ji:jl 1 0 2 (aS 0 0 0 0):=
 ⟨by decide,by decide,by decide,by decide,by decide,by decide,fun d h0 h4=>by rcases four h0 h4 with rfl|rfl|rfl|rfl<;>decide⟩
theorem DZ (b:Int) (h:1≤b):mM (bU [] m_) [(1,1,b)]:=fun r hr=>by
 rw[Rk]at hr
 simp only[List.mem_singleton]at hr
 subst hr
 exact(rU 1 1 b 1 1).2 ⟨rfl,by decide,h⟩
theorem Rn:eG [] m_ [(1,1,1)]:=⟨Jg,xG (by decide) (by decide) (by decide) (by decide) (by decide),DZ 1 (by decide)⟩
theorem Jj {c':aU} (h:fU 0 [(1,1,1)] [(1,0+1,2)] c'):c'=[(1,1,2)]:=by
 refine h.one ⟨xG (by decide) (by decide) (by decide) (by decide) (by decide),fun d n h0 h4=>?_⟩
 rw[rU]
 have e1:=rU 1 1 1 d n
 have e2:=rU 1 (0+1) 2 d n
 unfold cZ
 simp only[e1,e2]
 simp
 omega
theorem Jk:fO 1 0 2 (aS 0 0 0 0) [] m_ [(1,1,2)] where
 nums:=Ji
 tree:=Jg
 ctx:=xG (by decide) (by decide) (by decide) (by decide) (by decide)
 dots:=DZ 2 (by decide)
 bare:=rfl
 mine:=DZ 2 (by decide)
 own:=fun _ _ _ _ h=>h
 may:=fun d n h0 h4 h=>by
  obtain⟨rfl,h1,h2⟩:=(rU 1 1 2 d n).1 h
  rw[uD _ n h0 h4]
  exact⟨h1,by simp only[dA,if_pos];exact h2⟩
theorem Ro (w:World):Calls Tryz.prog 22 #[] w fun e w'=>e= .returned (.bool true)∧aj au w w':=by
 have HD:=ah (fun W=>Rf W)
 have HM:=ah (fun W ev kv cv h=>Rj (fun _=>True) [] m_ [(1,1,1)] W 1 0 2 0 0 0 0 ev kv cv h (DY 1 (by decide) (by decide)) Ji Rn (fun c' hb=>by rw[Jj hb];exact⟨Jk,DY 2 (by decide) (by decide)⟩))
 have HR:=ah (fun W ev kv cv h=>bM Jk▸vU (fun _=>True) [] m_ [(1,1,2)] W 1 0 2 0 0 0 0 ev kv cv h (DY 2 (by decide) (by decide)))
 have HS:=ah (fun W va vb ha hb=>QG W va vb [(1,1,2)] [(1,1,2)] ha hb (by simp) (by simp))
 go_enter Tryz.func22,Tryz.ntmps22
 go_wp2_with(first
  |(go_at_call 82;refine(HD.out _).mono ?_;rintro e w1 ⟨ev1,SV,SX,rfl,hc1,hf1⟩;obtain⟨a0,c0,a1,c1,a2,c2,rfl,rfl,rfl⟩:=hc1.shape;have kH:=ah hc1;clear hc1;have dN:=ah hf1;clear hf1)
  |(go_at_call 81;refine(HM.out _ _ _ _ kH.out).mono ?_;rintro e w2 ⟨SY,S_,Ls,c',rfl,hc2,hby,hf2⟩;have hcc:=Jj hby;subst hcc;obtain⟨b0,d0,b1,d1,b2,d2,rfl,rfl,rfl⟩:=hc2.shape;have HC2:=ah hc2;clear hc2 hby;have HF2:=ah (dN.out.ay hf2);clear hf2)
  |(go_at_call 83;refine(HR.out _ _ _ _ (HC2.out.aP (aj.alloc _ _ _))).mono ?_;rintro e w3 ⟨rfl,hw3⟩;obtain⟨y0,y1,y2,y3,y4,y5,y6,y7,y8,y9⟩:=ql w2 _ _ _ _ _ _ _ _ _ _ _ w3 hw3;have HW3:=ah hw3;clear hw3)
  |(go_at_call 84;refine(HS.out _ _ _ (Rd.aP HC2.out.ctx (((aj.alloc au _ _).ay HW3.out).alloc1)) (zI (heap_alloc_new w3 _) (by decide))).mono ?_;rintro e w4 ⟨rfl,hw4⟩;have Dv:=ah hw4;clear hw4))
 go_ret
 exact⟨by simp,(((HF2.out.alloc1).ay HW3.out).alloc1).ay Dv.out⟩
open Go.RowKit
theorem Jl (Q:Nat→Prop) (es:List aG) (ks:aI) (c:aU) (left:Int) (w:World) (dc af la v0 v1 v2 v3:Int) (ev kv cv:Value) (h:gQ Q w ev kv cv es ks c) (hok:gG es ks) (hcl:c.length≤140737488351232) (h1:left≤1000) (h2:0≤left):
 Calls Tryz.prog 23 #[.agg #[.int .i64 dc, .int .i64 af, .int .i64 la, .int .i64 v0, .int .i64 v1, .int .i64 v2, .int .i64 v3,ev,kv,cv], .int .i64 left] w fun e w'=>e= .returned (.bool (decide (0≤iU es ks left 8)&&decide ((c.length:Int)≤left)))∧aj au w w':=by
 have HC:=ah (fun W (f:aj au w W)=>Qo Q es ks c left W _ _ _ (h.aP f) hok hcl h1 h2)
 obtain⟨a0,c0,a1,c1,a2,c2,rfl,rfl,rfl⟩:=h.shape
 clear h hok
 generalize (decide (0≤iU es ks left 8)&&decide ((c.length:Int)≤left))=b at*
 generalize c.length=k at*
 go_enter Tryz.func23,Tryz.ntmps23
 go_wp2_with(go_at_call 50;refine(HC.out _ (aj.alloc _ _ _)).mono ?_;rintro e w1 ⟨rfl,hw1⟩;have HW1:=ah ((aj.alloc au _ _).ay hw1);clear hw1)
 go_ret
 exact⟨rfl,HW1.out⟩
structure wR (w:World) (v:Value) where
 out:∃(dc af la v0 v1 v2 v3:Int) (ev kv cv:Value) (es:List aG) (ks:aI) (c:aU),v= .agg #[.int .i64 dc, .int .i64 af, .int .i64 la, .int .i64 v0, .int .i64 v1, .int .i64 v2, .int .i64 v3,ev,kv,cv]∧gQ (fun _=>True) w ev kv cv es ks c∧gG es ks∧gB c∧c.length≤140737488351232
theorem Jm {es:List aG} {ks:aI} {c:aU} (hok:gG es ks) (hf:gB c) (h:(decide (0≤iU es ks 40 8)&&decide ((c.length:Int)≤40))=true):fG es ks c:=by
 simp only[Bool.and_eq_true,decide_eq_true_iff]at h
 have:=Dk h.1
 exact⟨hok,by omega,hf,by omega⟩
open Go.RowKit
theorem D_ {α:Type} [Inhabited α] {n:Nat} {p:Nat→α→Prop} (h:∀i,i<n→∃x,p i x):∃l:List α,l.length=n∧∀i,i<n→∀d,p i (l.getD i d):=by
 obtain⟨f,hf⟩:=Go.Deep.choose_lt h
 refine⟨(List.range n).map f,by simp,fun i hi d=>?_⟩
 have:((List.range n).map f).getD i d=f i:=by simp[List.getD,hi]
 rw[this]
 exact hf i hi
section
variable {H:Type} {enc:TypeId×Value→H} {P:Program} {w:World} {base:Nat} {sp:Nat→Bool} {held:Bool}
theorem open_arr {t e sz:Nat} {a0:Option Addr} {len cap:Nat} {d:DataW H×List MemPlace} {fuel:Nat} (ht:P.underlying t=some (.slice e)) (hsz:P.cellsOf e=sz) (hpos:0<sz) (hsp:∀b,sp b=true)
 (h:DataW.trod enc P w base sp held fuel t [.slice a0 len cap]=some d):
 (len=0∧cap=0)∨∃b off,a0=some ⟨b,off,none⟩∧len≤cap∧cap≤maxLen∧
   ∃n,∀k,k<len→∃cs:List Value,cs.length=sz∧(∀j u,cs[j]?=some u→w.cell? ⟨b,off+k*sz+j,none⟩=some u)∧∃y,DataW.trod enc P w base sp held n e cs=some y:=by
 rcases Go.Deep.open_slice ht h with⟨hcs,_⟩|⟨a,len',cap',m,n,D,Pl,hcs,_,hl,hm,hmm,_,hel⟩
 ·left
  simp only[List.cons.injEq,Value.slice.injEq,and_true]at hcs
  exact⟨hcs.2.1,hcs.2.2⟩
 ·simp only[List.cons.injEq,Value.slice.injEq,and_true]at hcs
  obtain⟨rfl,rfl,rfl⟩:=hcs
  rw[hsp]at hmm
  simp only[if_true]at hmm
  subst hmm
  subst hsz
  rcases Nat.eq_zero_or_pos m with h0|h0
  ·left;omega
  ·right
   obtain⟨b,off,spot⟩:=a
   have hspot:spot=none:=by
    obtain⟨cs',hc,_⟩:=hel 0 h0
    obtain⟨_,hlen,hcells⟩:=World.cells?_some hc
    have h00:cs'[0]?=some (cs'[0]'(by omega)):=List.getElem?_eq_getElem _
    have:=hcells 0 (by omega)
    rw[h00]at this
    have hs:=World.cell?_spot this
    simpa[Addr.add]using hs
   subst hspot
   refine⟨b,off,rfl,hl,hm,n,fun k hk=>?_⟩
   obtain⟨cs',hc,ht'⟩:=hel k (by omega)
   obtain⟨_,hlen,hcells⟩:=World.cells?_some hc
   refine⟨cs',hlen,fun j u hu=>?_,_,ht'⟩
   have hj:j<P.cellsOf e:=by rw[←hlen];exact(List.getElem?_eq_some_iff.1 hu).1
   have:=hcells j hj
   rw[addr_add,addr_add]at this
   rw[this,hu]
end
end Go.Proofs.YtabkpccdnkjoiaaGreat
namespace Go.Proofs.YtabkpccdnkjoiaaGreat
open Go.RowKit Go.WideShapes
theorem zJ {α:Type} (f:α→List Value) (k:Nat) (hk:0<k) (hf:∀x,(f x).length=k) (d:α):∀(l:List α) (j:Nat) (u:Value),(l.flatMap f)[j]?=some u→j/k<l.length∧(f (l.getD (j/k) d))[j%k]?=some u
 |[],j,u,h=>by simp at h
 |x::l,j,u,h=>by
  rw[List.flatMap_cons]at h
  by_cases hj:j<k
  ·rw[List.getElem?_append_left (by rw[hf];exact hj)]at h
   rw[Nat.div_eq_of_lt hj,Nat.mod_eq_of_lt hj]
   exact⟨Nat.zero_lt_succ _,h⟩
  ·rw[List.getElem?_append_right (by rw[hf];omega),hf]at h
   obtain⟨h1,h2⟩:=zJ f k hk hf d l (j-k) u h
   have e1:j/k=(j-k)/k+1:=by rw[Nat.div_eq_sub_div hk (by omega)]
   have e2:j%k=(j-k)%k:=Nat.mod_eq_sub_mod (by omega)
   rw[e1,e2]
   exact⟨by simpa using h1,by simpa using h2⟩
theorem Ea (j k:Nat) (off:Nat):off+j/k*k+j%k=off+j:=by
 have:=Nat.div_add_mod j k
 rw[Nat.mul_comm]at this
 omega
theorem weightsAll_mem {H:Type} {P:Program} {e:TypeId}:∀ {l:List (DataW H)} {y:DataW H},y∈l→∀n∈y.weights P e,n∈DataW.weightsAll P e l
 |d::l,y,h,n,hn=>by
  rw[DataW.weightsAll,List.mem_append]
  rcases List.mem_cons.1 h with rfl|h
  ·exact .inl hn
  ·exact .inr (weightsAll_mem h n hn)
theorem lH {x:Int} (h:(Lit.int .i64 x).wf=true):-9223372036854775808≤x∧x≤9223372036854775807:=by
 simp only[Lit.wf,IntKind.min,IntKind.max,IntKind.signed,IntKind.bits]at h
 simpa using h
section
variable {H:Type} {enc:TypeId×Value→H} {P:Program} {w:World}
theorem Eb {t e sz Jo:Nat} {a0:Option Addr} {len cap:Nat} {x:DataW H×List MemPlace} {fuel:Nat} (ht:P.underlying t=some (.slice e)) (hsz:P.cellsOf e=sz) (hpos:0<sz) (hby:P.bytesOf e=Jo)
 (h:DataW.trod enc P w 0 (fun _=>true) true fuel t [.slice a0 len cap]=some x) (hw:∀n∈x.1.weights P t,n≤reachBytes):
 (len=0∧cap=0)∨∃b off n,a0=some ⟨b,off,none⟩∧len≤cap∧cap≤maxLen∧fuel=n+1∧len*Jo≤reachBytes∧
   ∀k,k<len→∃cs:List Value,cs.length=sz∧(∀j u,cs[j]?=some u→w.cell? ⟨b,off+k*sz+j,none⟩=some u)∧∃y,DataW.trod enc P w 0 (fun _=>true) true n e cs=some y∧∀n∈y.1.weights P e,n≤reachBytes:=by
 rcases open_arr ht hsz hpos (fun _=>rfl) h with h0|⟨b,off,rfl,hl,hm,_⟩
 ·exact .inl h0
 right
 rcases DataW.trod_slice ht h with⟨hcs,_⟩|⟨a,len',cap',elems,rest,n,hfuel,hcs,rfl,_,_,_,hlen,hel,hsp,_⟩
 ·simp at hcs
 simp only[List.cons.injEq,Value.slice.injEq,Option.some.injEq,and_true]at hcs
 obtain⟨rfl,rfl,rfl⟩:=hcs
 subst hsz
 subst hby
 simp only[DataW.weights,ht]at hw
 refine⟨b,off,n,rfl,hl,hm,hfuel,?_,fun k hk=>?_⟩
 ·have h1:=hw _ List.mem_cons_self
  simp only[List.length_map]at h1
  rw[hlen]at h1
  exact Nat.le_trans (Nat.mul_le_mul_right _ (Nat.le_add_right _ _)) h1
 ·have hke:k<elems.length:=by omega
  have h1:=hel k hk
  rw[List.getElem?_eq_getElem hke,Option.bind_eq_some_iff]at h1
  obtain⟨cs',hc,ht'⟩:=h1
  obtain⟨_,hcl,hcells⟩:=World.cells?_some hc
  refine⟨cs',hcl,fun j u hu=>?_,_,ht',fun m hm=>?_⟩
  ·have hj:j<P.cellsOf e:=by rw[←hcl];exact(List.getElem?_eq_some_iff.1 hu).1
   have:=hcells j hj
   rw[addr_add,addr_add]at this
   rw[this,hu]
  ·refine hw m (List.mem_cons_of_mem _ (List.mem_append_left _ (weightsAll_mem (y:=elems[k].1) ?_ m hm)))
   exact List.mem_map.2 ⟨_,List.getElem_mem hke,rfl⟩
theorem Ec {t e:Nat} {c:Value} {x:DataW H×List MemPlace} {fuel:Nat} (ht:P.underlying t=some (.slice e)) (h:DataW.trod enc P w 0 (fun _=>true) true fuel t [c]=some x):∃a l k,c= .slice a l k:=by
 rcases DataW.trod_slice ht h with⟨hcs,_⟩|⟨a,len',cap',elems,rest,n,hfuel,hcs,_⟩
 ·simp at hcs;exact⟨_,_,_,hcs⟩
 ·simp at hcs;exact⟨_,_,_,hcs⟩
end
section
variable {H:Type} {enc:TypeId×Value→H} {w:World}
theorem Tryz.cells_entry:Tryz.prog.cellsOf 172=4:=by kernel_rfl
theorem Tryz.bytes_entry:Tryz.prog.bytesOf 172=40:=by kernel_rfl
theorem Tryz.cells_kid:Tryz.prog.cellsOf 83=3:=by kernel_rfl
theorem Tryz.bytes_kid:Tryz.prog.bytesOf 83=64:=by kernel_rfl
theorem Tryz.cells_dot:Tryz.prog.cellsOf 170=2:=by kernel_rfl
theorem Tryz.cells_span:Tryz.prog.cellsOf 144=3:=by kernel_rfl
theorem Tryz.bytes_span:Tryz.prog.bytesOf 144=24:=by kernel_rfl
theorem Tryz.cells_I:Tryz.prog.cellsOf 3=1:=by kernel_rfl
theorem Tryz.cells_I64:Tryz.prog.cellsOf 2=1:=by kernel_rfl
theorem Tryz.cells_S:Tryz.prog.cellsOf 9=1:=by kernel_rfl
instance:Inhabited aG:=⟨aG.zero⟩
instance:Inhabited aI:=⟨.nil⟩
theorem Rq (l:List aG) (j:Nat) (u:Value) (h:(eY l)[j]?=some u):j/4<l.length∧(l.getD (j/4) aG.zero).cells[j%4]?=some u:=zJ aG.cells 4 (by decide) (fun _=>rfl) aG.zero l j u h
theorem Rt {n:Nat} {cs:List Value} {y:DataW H×List MemPlace} (hl:cs.length=4) (h:DataW.trod enc Tryz.prog w 0 (fun _=>true) true n 172 cs=some y):∃e:aG,cs=e.cells∧e.fits:=by
 obtain⟨c0,c1,c2,c3,rfl⟩:∃c0 c1 c2 c3,cs=[c0,c1,c2,c3]:=by
  match cs,hl with
  |[c0,c1,c2,c3],_=>exact⟨c0,c1,c2,c3,rfl⟩
 obtain⟨y0,y1,y2,m,_,_,g0,g1,g2⟩:=Go.Deep.trod_struct3 Tryz.underlying172 h
 rw[Tryz.cells_dot]at g0
 rw[Tryz.cells_S]at g1
 rw[Tryz.cells_I64]at g2
 obtain⟨z0,z1,m2,_,_,k0,k1⟩:=Go.ChangeShapes.trod_struct2 Tryz.underlying170 g0
 rw[Tryz.cells_I]at k0
 rw[Tryz.cells_I64]at k1
 obtain⟨d,e0,_,w0⟩:=DataW.trod_int Tryz.underlying3 k0
 obtain⟨x,e1,_,w1⟩:=DataW.trod_int Tryz.underlying2 k1
 obtain⟨s,e2,_,hs⟩:=DataW.trod_string Tryz.underlying9 g1
 obtain⟨z,e3,_,w3⟩:=DataW.trod_int Tryz.underlying2 g2
 simp at e0 e1 e2 e3
 subst e0 e1 e2 e3
 exact⟨⟨d,x,s,z⟩,rfl,lH w0,lH w1,lH w3,by simp only[maxLen]at hs;omega⟩
theorem Ru {fuel:Nat} {c:Value} {x:DataW H×List MemPlace} (h:DataW.trod enc Tryz.prog w 0 (fun _=>true) true fuel 27 [c]=some x) (hw:∀n∈x.1.weights Tryz.prog 27,n≤reachBytes):
 ∃es:List aG,jA (fun _=>True) w c es.length (eY es)∧sK es:=by
 obtain⟨a0,len,cap,rfl⟩:=Ec Tryz.underlying27 h
 rcases Eb Tryz.underlying27 Tryz.cells_entry (by decide) Tryz.bytes_entry h hw with⟨rfl,rfl⟩|⟨b,off,n,rfl,h1,h2,_,h3,hel⟩
 ·exact⟨[],⟨.inl ⟨a0,rfl,rfl,rfl⟩,fun _ _ _=>trivial⟩,by simp,by simp⟩
 ·have hx:∀k,k<len→∃e:aG,(∀j u,e.cells[j]?=some u→w.cell? ⟨b,off+k*4+j,none⟩=some u)∧e.fits:=fun k hk=>by
   obtain⟨cs,hl,hc,y,hy,_⟩:=hel k hk
   obtain⟨e,rfl,hf⟩:=Rt hl hy
   exact⟨e,hc,hf⟩
  obtain⟨l,hl,hlp⟩:=D_ hx
  have hlen:l.length≤140737488351232:=by unfold reachBytes at h3;omega
  refine⟨l,⟨.inr ⟨b,off,cap,by rw[hl],by omega,h2,fun j u hu=>?_⟩,fun _ _ _=>trivial⟩,hlen,fun e he=>?_⟩
  ·obtain⟨g1,g2⟩:=Rq l j u hu
   have:=(hlp (j/4) (by omega) aG.zero).1 (j%4) u g2
   rwa [Ea]at this
  ·obtain⟨k,hk,rfl⟩:=List.getElem_of_mem he
   have:=(hlp k (by omega) aG.zero).2
   rwa [getD_at aG.zero hk]at this
theorem open_tree:∀(fuel:Nat) (ev kv:Value) (x:DataW H×List MemPlace),DataW.trod enc Tryz.prog w 0 (fun _=>true) true fuel 30 [ev,kv]=some x→(∀n∈x.1.weights Tryz.prog 30,n≤reachBytes)→
 ∃es ks,bJ (fun _=>True) w ev kv es ks∧gG es ks:=by
 intro fuel
 induction fuel using Nat.strongRecOn with
 |_ fuel ih=>
  intro ev kv x h hw
  obtain⟨xs,n,hn,rfl,_,hxl,hf⟩:=DataW.trod_struct Tryz.underlying30 h
  obtain⟨y0,y1,rfl⟩:∃y0 y1,xs=[y0,y1]:=by
   match xs,hxl with
   |[y0,y1],_=>exact⟨y0,y1,rfl⟩
  have g0:=hf 0 _ rfl
  have g1:=hf 1 _ rfl
  have g0:DataW.trod enc Tryz.prog w 0 (fun _=>true) true n 27 [ev]=some y0:=g0
  have g1:DataW.trod enc Tryz.prog w 0 (fun _=>true) true n 28 [kv]=some y1:=g1
  have hw2:∀m∈y0.1.weights Tryz.prog 27++(y1.1.weights Tryz.prog 28++ []),m≤reachBytes:=fun m hm=>hw m (by
   simp only[List.map_cons,List.map_nil,DataW.weights,Tryz.underlying30]
   exact hm)
  obtain⟨es,he,hok⟩:=Ru g0 fun m hm=>hw2 m (List.mem_append_left _ hm)
  have hw3:∀m∈y1.1.weights Tryz.prog 28,m≤reachBytes:=fun m hm=>hw2 m (List.mem_append_right _ (List.mem_append_left _ hm))
  obtain⟨a0,len,cap,rfl⟩:=Ec Tryz.underlying28 g1
  rcases Eb Tryz.underlying28 Tryz.cells_kid (by decide) Tryz.bytes_kid g1 hw3 with⟨rfl,rfl⟩|⟨b,off,n2,rfl,h1,h2,hn2,h3,hel⟩
  ·exact⟨es, .nil,⟨he,[],⟨.inl ⟨a0,rfl,rfl,rfl⟩,fun _ _ _=>trivial⟩,rfl⟩,hok,by decide,trivial⟩
  ·have hx:∀k,k<len→∃q:gK,(∀j u,q.cells[j]?=some u→w.cell? ⟨b,off+k*3+j,none⟩=some u)∧bJ (fun _=>True) w q.ev q.kv q.es q.sub∧q.key.size≤9223372036854775807∧gG q.es q.sub:=fun k hk=>by
    obtain⟨cs,hl,hc,y,hy,Rw⟩:=hel k hk
    obtain⟨c0,c1,c2,rfl⟩:∃c0 c1 c2,cs=[c0,c1,c2]:=by
     match cs,hl with
     |[c0,c1,c2],_=>exact⟨c0,c1,c2,rfl⟩
    obtain⟨zs,n3,hn3,rfl,_,hzl,hg⟩:=DataW.trod_struct Tryz.underlying83 hy
    obtain⟨z0,z1,rfl⟩:∃z0 z1,zs=[z0,z1]:=by
     match zs,hzl with
     |[z0,z1],_=>exact⟨z0,z1,rfl⟩
    have k0:=hg 0 _ rfl
    have k1:=hg 1 _ rfl
    have k0:DataW.trod enc Tryz.prog w 0 (fun _=>true) true n3 9 [c0]=some z0:=k0
    have k1:DataW.trod enc Tryz.prog w 0 (fun _=>true) true n3 30 [c1,c2]=some z1:=k1
    have Rx:∀m∈z0.1.weights Tryz.prog 9++(z1.1.weights Tryz.prog 30++ []),m≤reachBytes:=fun m hm=>Rw m (by
     simp only[List.map_cons,List.map_nil,DataW.weights,Tryz.underlying83]
     exact hm)
    obtain⟨s,e2,_,hs⟩:=DataW.trod_string Tryz.underlying9 k0
    simp at e2
    subst e2
    obtain⟨es',ks',ht,hok'⟩:=ih n3 (by omega) c1 c2 z1 k1 fun m hm=>Rx m (List.mem_append_right _ (List.mem_append_left _ hm))
    exact⟨⟨s,es',ks',c1,c2⟩,hc,ht,by simp only[maxLen]at hs;show s.size≤_;omega,hok'⟩
   obtain⟨l,hl,hlp⟩:=D_ hx
   have hq:∀q∈l,bJ (fun _=>True) w q.ev q.kv q.es q.sub∧q.key.size≤9223372036854775807∧gG q.es q.sub:=fun q hq=>by
    obtain⟨k,hk,rfl⟩:=List.getElem_of_mem hq
    have:=(hlp k (by omega) default).2
    rwa [getD_at default hk]at this
   refine⟨es,mkK l,⟨he,sS l,⟨.inr ⟨b,off,cap,by rw[uZ,hl],by rw[uZ];omega,h2,fun j u hu=>?_⟩,fun _ _ _=>trivial⟩,BD fun q h=>(hq q h).1⟩,hok,by rw[uZ,hl];unfold reachBytes at h3;omega,Gv fun q h=>(hq q h).2⟩
   rw[BA]at hu
   obtain⟨g1,g2⟩:=zJ gK.cells 3 (by decide) (fun _=>rfl) default l j u hu
   have:=(hlp (j/3) (by omega) default).1 (j%3) u g2
   rwa [Ea]at this
theorem Ry (l:aU) (j:Nat) (u:Value) (h:(bT l)[j]?=some u):j/3<l.length∧([.int .i64 (l.getD (j/3) (0,0,0)).1, .int .i64 (l.getD (j/3) (0,0,0)).2.1, .int .i64 (l.getD (j/3) (0,0,0)).2.2]:List Value)[j%3]?=some u:=
 zJ (fun s:Int×Int×Int=> [.int .i64 s.1, .int .i64 s.2.1, .int .i64 s.2.2]) 3 (by decide) (fun _=>rfl) (0,0,0) l j u h
theorem Rz {fuel:Nat} {c:Value} {x:DataW H×List MemPlace} (h:DataW.trod enc Tryz.prog w 0 (fun _=>true) true fuel 32 [c]=some x) (hw:∀n∈x.1.weights Tryz.prog 32,n≤reachBytes):
 ∃l:aU,dL w c l∧gB l∧l.length≤140737488351232:=by
 obtain⟨a0,len,cap,rfl⟩:=Ec Tryz.underlying32 h
 rcases Eb Tryz.underlying32 Tryz.cells_span (by decide) Tryz.bytes_span h hw with⟨rfl,rfl⟩|⟨b,off,n,rfl,h1,h2,_,h3,hel⟩
 ·exact⟨[], .inl ⟨a0,rfl,rfl,rfl⟩,(fun s hs=>by cases hs),Nat.zero_le _⟩
 ·have hx:∀k,k<len→∃s:Int×Int×Int,(∀j u,([.int .i64 s.1, .int .i64 s.2.1, .int .i64 s.2.2]:List Value)[j]?=some u→w.cell? ⟨b,off+k*3+j,none⟩=some u)∧(-9223372036854775808≤s.1∧s.1≤9223372036854775807∧-9223372036854775808≤s.2.1∧s.2.1≤9223372036854775807∧-9223372036854775808≤s.2.2∧s.2.2≤9223372036854775807):=fun k hk=>by
   obtain⟨cs,hl,hc,y,hy,_⟩:=hel k hk
   obtain⟨c0,c1,c2,rfl⟩:∃c0 c1 c2,cs=[c0,c1,c2]:=by
    match cs,hl with
    |[c0,c1,c2],_=>exact⟨c0,c1,c2,rfl⟩
   obtain⟨y0,y1,y2,m,_,_,g0,g1,g2⟩:=Go.Deep.trod_struct3 Tryz.underlying144 hy
   rw[Tryz.cells_I]at g0
   rw[Tryz.cells_I64]at g1 g2
   obtain⟨p,e0,_,w0⟩:=DataW.trod_int Tryz.underlying3 g0
   obtain⟨q,e1,_,w1⟩:=DataW.trod_int Tryz.underlying2 g1
   obtain⟨r,e2,_,w2⟩:=DataW.trod_int Tryz.underlying2 g2
   simp at e0 e1 e2
   subst e0 e1 e2
   exact⟨(p,q,r),hc,(lH w0).1,(lH w0).2,(lH w1).1,(lH w1).2,(lH w2).1,(lH w2).2⟩
  obtain⟨l,hl,hlp⟩:=D_ hx
  refine⟨l, .inr ⟨b,off,cap,by rw[hl],by omega,h2,fun j u hu=>?_⟩,fun s hs=>?_,by unfold reachBytes at h3;omega⟩
  ·obtain⟨g1,g2⟩:=Ry l j u hu
   have:=(hlp (j/3) (by omega) (0,0,0)).1 (j%3) u g2
   rwa [Ea]at this
  ·obtain⟨k,hk,rfl⟩:=List.getElem_of_mem hs
   have:=(hlp k (by omega) (0,0,0)).2
   rwa [getD_at (0,0,0) hk]at this
end
end Go.Proofs.YtabkpccdnkjoiaaGreat
namespace Go.Proofs.YtabkpccdnkjoiaaGreat
open Go.RowKit Go.WideShapes Go.ChangeShapes
theorem Jp {H:Type} {P:Program} {ts us:List TypeId} {ds gs:List (DataW H)} (h:(DataW.weightsEach P (ts++us) (ds++gs)).all (·≤reachBytes)=true) {j:Nat} {t:TypeId} {d:DataW H} (ht:ts[j]?=some t) (hd:ds[j]?=some d):
 ∀n∈d.weights P t,n≤reachBytes:=fun n hn=>by
 have h1:(ts++us)[j]?=some t:=by rw[List.getElem?_append_left (List.getElem?_eq_some_iff.1 ht).1];exact ht
 have h2:(ds++gs)[j]?=some d:=by rw[List.getElem?_append_left (List.getElem?_eq_some_iff.1 hd).1];exact hd
 simpa using List.all_eq_true.1 h n (DataW.weights_mem_each h1 h2 n hn)
section
variable {H:Type} {enc:TypeId×Value→H} {w:World}
theorem RD {fuel:Nat} {ev kv cv:Value} {x:DataW H×List MemPlace} (h:DataW.trod enc Tryz.prog w 0 (fun _=>true) true fuel 34 [ev,kv,cv]=some x) (hw:∀n∈x.1.weights Tryz.prog 34,n≤reachBytes):
 ∃es ks c,gQ (fun _=>True) w ev kv cv es ks c∧gG es ks∧gB c∧c.length≤140737488351232:=by
 obtain⟨xs,n,hn,rfl,_,hxl,hf⟩:=DataW.trod_struct Tryz.underlying34 h
 obtain⟨y0,y1,rfl⟩:∃y0 y1,xs=[y0,y1]:=by
  match xs,hxl with
  |[y0,y1],_=>exact⟨y0,y1,rfl⟩
 have g0:=hf 0 _ rfl
 have g1:=hf 1 _ rfl
 have g0:DataW.trod enc Tryz.prog w 0 (fun _=>true) true n 30 [ev,kv]=some y0:=g0
 have g1:DataW.trod enc Tryz.prog w 0 (fun _=>true) true n 32 [cv]=some y1:=g1
 have hw2:∀m∈y0.1.weights Tryz.prog 30++(y1.1.weights Tryz.prog 32++ []),m≤reachBytes:=fun m hm=>hw m (by
  simp only[List.map_cons,List.map_nil,DataW.weights,Tryz.underlying34]
  exact hm)
 obtain⟨es,ks,h1,h2⟩:=open_tree _ ev kv _ g0 fun m hm=>hw2 m (List.mem_append_left _ hm)
 obtain⟨c,h3,h4,h5⟩:=Rz g1 fun m hm=>hw2 m (List.mem_append_right _ (List.mem_append_left _ hm))
 exact⟨es,ks,c,⟨h1,h3⟩,h2,h4,h5⟩
end
end Go.Proofs.YtabkpccdnkjoiaaGreat
namespace Go.Proofs.YtabkpccdnkjoiaaGreat
open Go.RowKit Go.WideShapes Go.ChangeShapes
theorem Tryz.cells_bundle:Tryz.prog.cellsOf 55=10:=by kernel_rfl
theorem Tryz.cells_vector:Tryz.prog.cellsOf 25=4:=by kernel_rfl
section
variable {H:Type} {enc:TypeId×Value→H} {w:World}
theorem Jq {fuel:Nat} {c0 c1 c2 c3:Value} {x:DataW H×List MemPlace} (h:DataW.trod enc Tryz.prog w 0 (fun _=>true) true fuel 25 [c0,c1,c2,c3]=some x):
 ∃v0 v1 v2 v3:Int,c0= .int .i64 v0∧c1= .int .i64 v1∧c2= .int .i64 v2∧c3= .int .i64 v3∧∀v∈ [v0,v1,v2,v3],-9223372036854775808≤v∧v≤9223372036854775807:=by
 obtain⟨z0,z1,z2,z3,m,_,k0,k1,k2,k3⟩:=trod_array4 Tryz.underlying25 Tryz.cells_I64 h
 obtain⟨v0,e0,_,w0⟩:=DataW.trod_int Tryz.underlying2 k0
 obtain⟨v1,e1,_,w1⟩:=DataW.trod_int Tryz.underlying2 k1
 obtain⟨v2,e2,_,w2⟩:=DataW.trod_int Tryz.underlying2 k2
 obtain⟨v3,e3,_,w3⟩:=DataW.trod_int Tryz.underlying2 k3
 simp at e0 e1 e2 e3
 refine⟨v0,v1,v2,v3,e0,e1,e2,e3,fun v hv=>?_⟩
 simp only[List.mem_cons,List.not_mem_nil,or_false]at hv
 rcases hv with rfl|rfl|rfl|rfl
 ·exact lH w0
 ·exact lH w1
 ·exact lH w2
 ·exact lH w3
theorem Jr {base:Nat} {v:Value} {d:DataW H} {ps:List MemPlace} (hv:Value.okWide Tryz.prog w .any base 55 v) (h:DataW.Trod enc Tryz.prog w 0 (fun _=>true) true 55 v d ps)
 (hw:∀n∈d.weights Tryz.prog 55,n≤reachBytes):wR w v:=by
 obtain⟨cs,rfl,hsz⟩:=okWide_struct Tryz.underlying55 hv
 rw[Tryz.cells_bundle]at hsz
 obtain⟨l⟩:=cs
 match l,hsz with
 |[c0,c1,c2,c3,c4,c5,c6,c7,c8,c9],_=>
 obtain⟨fuel,hf⟩:=h
 have hf:DataW.trod enc Tryz.prog w 0 (fun _=>true) true fuel 55 [c0,c1,c2,c3,c4,c5,c6,c7,c8,c9]=some (d,ps):=hf
 obtain⟨xs,n,hn,hx,_,hxl,hg⟩:=DataW.trod_struct Tryz.underlying55 hf
 obtain⟨y0,y1,y2,y3,y4,rfl⟩:∃y0 y1 y2 y3 y4,xs=[y0,y1,y2,y3,y4]:=by
  match xs,hxl with
  |[y0,y1,y2,y3,y4],_=>exact⟨y0,y1,y2,y3,y4,rfl⟩
 have g0:DataW.trod enc Tryz.prog w 0 (fun _=>true) true n 3 [c0]=some y0:=hg 0 _ rfl
 have g1:DataW.trod enc Tryz.prog w 0 (fun _=>true) true n 2 [c1]=some y1:=hg 1 _ rfl
 have g2:DataW.trod enc Tryz.prog w 0 (fun _=>true) true n 2 [c2]=some y2:=hg 2 _ rfl
 have g3:DataW.trod enc Tryz.prog w 0 (fun _=>true) true n 25 [c3,c4,c5,c6]=some y3:=hg 3 _ rfl
 have g4:DataW.trod enc Tryz.prog w 0 (fun _=>true) true n 34 [c7,c8,c9]=some y4:=hg 4 _ rfl
 obtain⟨dc,e0,_,_⟩:=DataW.trod_int Tryz.underlying3 g0
 obtain⟨af,e1,_,_⟩:=DataW.trod_int Tryz.underlying2 g1
 obtain⟨la,e2,_,_⟩:=DataW.trod_int Tryz.underlying2 g2
 simp at e0 e1 e2
 obtain⟨v0,v1,v2,v3,e3,e4,e5,e6,_⟩:=Jq g3
 have hd:d=(DataW.agg ([y0,y1,y2,y3,y4].map (·.1)):DataW H):=(Prod.mk.inj hx).1
 subst hd
 have hw2:∀m∈y0.1.weights Tryz.prog 3++(y1.1.weights Tryz.prog 2++(y2.1.weights Tryz.prog 2++(y3.1.weights Tryz.prog 25++(y4.1.weights Tryz.prog 34++ [])))),m≤reachBytes:=fun m hm=>hw m (by
  simp only[List.map_cons,List.map_nil,DataW.weights,Tryz.underlying55]
  exact hm)
 obtain⟨es,ks,c,h1,h2,h3,h4⟩:=RD g4 fun m hm=>hw2 m (List.mem_append_right _ (List.mem_append_right _ (List.mem_append_right _ (List.mem_append_right _ (List.mem_append_left _ hm)))))
 subst e0 e1 e2 e3 e4 e5 e6
 exact⟨_,_,_,_,_,_,_,_,_,_,es,ks,c,rfl,h1,h2,h3,h4⟩
end
end Go.Proofs.YtabkpccdnkjoiaaGreat
