/- Words for the law ShSet: Trod, TreeOpen, CauOpen, ShOpen. -/
import Derived.Test.YtlhmbkjdfjoilaaGreatShSetG0
import Derived.Test.YtlhmbkjdfjoilaaGreatShSetG1
import Derived.Test.YtlhmbkjdfjoilaaGreatShSetG9
import Derived.Test.YtlhmbkjdfjoilaaGreatShSetG10
import Derived.Test.YtlhmbkjdfjoilaaGreatShSetG21
import Derived.Test.YtlhmbkjdfjoilaaGreatShSetG22
import Derived.Deep.Strs
import Derived.ChangeArms
import Derived.ProofKit
import Derived.OpenShut
import Derived.ChangeSame
import Derived.SizedLaws
set_option linter.unusedSimpArgs false
set_option linter.unusedVariables false
set_option maxHeartbeats 32000000
set_option maxRecDepth 1000000
namespace Go.Proofs.YtlhmbkjdfjoilaaGreat
open Go.RowKit
theorem AY {α:Type} [Inhabited α] {n:Nat} {p:Nat→α→Prop} (h:∀i,i<n→∃x,p i x):∃l:List α,l.length=n∧∀i,i<n→∀d,p i (l.getD i d):=by
 obtain⟨f,hf⟩:=Go.Deep.choose_lt h
 refine⟨(List.range n).map f,by simp,fun i hi d=>?_⟩
 have:((List.range n).map f).getD i d=f i:=by simp[List.getD,hi]
 rw[this]
 exact hf i hi
section
variable {H:Type} {enc:TypeId×Value→H} {P:Program} {w:World} {base:Nat} {sp:Nat→Bool} {held:Bool}
theorem open_arr {t e sz:Nat} {a0:Option Addr} {len cap:Nat} {d:DataW H×List MemPlace} {fuel:Nat} (ht:P.underlying t=some (.slice e)) (hsz:P.cellsOf e=sz) (hpos:0<sz) (hsp:∀b,sp b=true)
 (h:DataW.trod enc P w base sp held fuel t [.slice a0 len cap]=some d):
 (len=0∧cap=0)∨∃b off,a0=some ⟨b,off,none⟩∧len≤cap∧cap≤maxLen∧
   ∃n,∀k,k<len→∃cs:List Value,cs.length=sz∧(∀j u,cs[j]?=some u→w.cell? ⟨b,off+k*sz+j,none⟩=some u)∧∃y,DataW.trod enc P w base sp held n e cs=some y:=by
 rcases Go.Deep.open_slice ht h with⟨hcs,_⟩|⟨a,len',cap',m,n,D,Pl,hcs,_,hl,hm,hmm,_,hel⟩
 ·left
  simp only[List.cons.injEq,Value.slice.injEq,and_true]at hcs
  exact⟨hcs.2.1,hcs.2.2⟩
 ·simp only[List.cons.injEq,Value.slice.injEq,and_true]at hcs
  obtain⟨rfl,rfl,rfl⟩:=hcs
  rw[hsp]at hmm
  simp only[if_true]at hmm
  subst hmm
  subst hsz
  rcases Nat.eq_zero_or_pos m with h0|h0
  ·left;omega
  ·right
   obtain⟨b,off,spot⟩:=a
   have hspot:spot=none:=by
    obtain⟨cs',hc,_⟩:=hel 0 h0
    obtain⟨_,hlen,hcells⟩:=World.cells?_some hc
    have h00:cs'[0]?=some (cs'[0]'(by omega)):=List.getElem?_eq_getElem _
    have:=hcells 0 (by omega)
    rw[h00]at this
    have hs:=World.cell?_spot this
    simpa[Addr.add]using hs
   subst hspot
   refine⟨b,off,rfl,hl,hm,n,fun k hk=>?_⟩
   obtain⟨cs',hc,ht'⟩:=hel k (by omega)
   obtain⟨_,hlen,hcells⟩:=World.cells?_some hc
   refine⟨cs',hlen,fun j u hu=>?_,_,ht'⟩
   have hj:j<P.cellsOf e:=by rw[←hlen];exact(List.getElem?_eq_some_iff.1 hu).1
   have:=hcells j hj
   rw[addr_add,addr_add]at this
   rw[this,hu]
end
end Go.Proofs.YtlhmbkjdfjoilaaGreat
namespace Go.Proofs.YtlhmbkjdfjoilaaGreat
open Go.RowKit Go.WideShapes
theorem yG {α:Type} (f:α→List Value) (k:Nat) (hk:0<k) (hf:∀x,(f x).length=k) (d:α):∀(l:List α) (j:Nat) (u:Value),(l.flatMap f)[j]?=some u→j/k<l.length∧(f (l.getD (j/k) d))[j%k]?=some u
 |[],j,u,h=>by simp at h
 |x::l,j,u,h=>by
  rw[List.flatMap_cons]at h
  by_cases hj:j<k
  ·rw[List.getElem?_append_left (by rw[hf];exact hj)]at h
   rw[Nat.div_eq_of_lt hj,Nat.mod_eq_of_lt hj]
   exact⟨Nat.zero_lt_succ _,h⟩
  ·rw[List.getElem?_append_right (by rw[hf];omega),hf]at h
   obtain⟨h1,h2⟩:=yG f k hk hf d l (j-k) u h
   have e1:j/k=(j-k)/k+1:=by rw[Nat.div_eq_sub_div hk (by omega)]
   have e2:j%k=(j-k)%k:=Nat.mod_eq_sub_mod (by omega)
   rw[e1,e2]
   exact⟨by simpa using h1,by simpa using h2⟩
theorem AZ (j k:Nat) (off:Nat):off+j/k*k+j%k=off+j:=by
 have:=Nat.div_add_mod j k
 rw[Nat.mul_comm]at this
 omega
theorem weightsAll_mem {H:Type} {P:Program} {e:TypeId}:∀ {l:List (DataW H)} {y:DataW H},y∈l→∀n∈y.weights P e,n∈DataW.weightsAll P e l
 |d::l,y,h,n,hn=>by
  rw[DataW.weightsAll,List.mem_append]
  rcases List.mem_cons.1 h with rfl|h
  ·exact .inl hn
  ·exact .inr (weightsAll_mem h n hn)
theorem qO {x:Int} (h:(Lit.int .i64 x).wf=true):-9223372036854775808≤x∧x≤9223372036854775807:=by
 simp only[Lit.wf,IntKind.min,IntKind.max,IntKind.signed,IntKind.bits]at h
 simpa using h
section
variable {H:Type} {enc:TypeId×Value→H} {P:Program} {w:World}
theorem A_ {t e sz Nj:Nat} {a0:Option Addr} {len cap:Nat} {x:DataW H×List MemPlace} {fuel:Nat} (ht:P.underlying t=some (.slice e)) (hsz:P.cellsOf e=sz) (hpos:0<sz) (hby:P.bytesOf e=Nj)
 (h:DataW.trod enc P w 0 (fun _=>true) true fuel t [.slice a0 len cap]=some x) (hw:∀n∈x.1.weights P t,n≤reachBytes):
 (len=0∧cap=0)∨∃b off n,a0=some ⟨b,off,none⟩∧len≤cap∧cap≤maxLen∧fuel=n+1∧len*Nj≤reachBytes∧
   ∀k,k<len→∃cs:List Value,cs.length=sz∧(∀j u,cs[j]?=some u→w.cell? ⟨b,off+k*sz+j,none⟩=some u)∧∃y,DataW.trod enc P w 0 (fun _=>true) true n e cs=some y∧∀n∈y.1.weights P e,n≤reachBytes:=by
 rcases open_arr ht hsz hpos (fun _=>rfl) h with h0|⟨b,off,rfl,hl,hm,_⟩
 ·exact .inl h0
 right
 rcases DataW.trod_slice ht h with⟨hcs,_⟩|⟨a,len',cap',elems,rest,n,hfuel,hcs,rfl,_,_,_,hlen,hel,hsp,_⟩
 ·simp at hcs
 simp only[List.cons.injEq,Value.slice.injEq,Option.some.injEq,and_true]at hcs
 obtain⟨rfl,rfl,rfl⟩:=hcs
 subst hsz
 subst hby
 simp only[DataW.weights,ht]at hw
 refine⟨b,off,n,rfl,hl,hm,hfuel,?_,fun k hk=>?_⟩
 ·have h1:=hw _ List.mem_cons_self
  simp only[List.length_map]at h1
  rw[hlen]at h1
  exact Nat.le_trans (Nat.mul_le_mul_right _ (Nat.le_add_right _ _)) h1
 ·have hke:k<elems.length:=by omega
  have h1:=hel k hk
  rw[List.getElem?_eq_getElem hke,Option.bind_eq_some_iff]at h1
  obtain⟨cs',hc,ht'⟩:=h1
  obtain⟨_,hcl,hcells⟩:=World.cells?_some hc
  refine⟨cs',hcl,fun j u hu=>?_,_,ht',fun m hm=>?_⟩
  ·have hj:j<P.cellsOf e:=by rw[←hcl];exact(List.getElem?_eq_some_iff.1 hu).1
   have:=hcells j hj
   rw[addr_add,addr_add]at this
   rw[this,hu]
  ·refine hw m (List.mem_cons_of_mem _ (List.mem_append_left _ (weightsAll_mem (y:=elems[k].1) ?_ m hm)))
   exact List.mem_map.2 ⟨_,List.getElem_mem hke,rfl⟩
theorem FQ {t e:Nat} {c:Value} {x:DataW H×List MemPlace} {fuel:Nat} (ht:P.underlying t=some (.slice e)) (h:DataW.trod enc P w 0 (fun _=>true) true fuel t [c]=some x):∃a l k,c= .slice a l k:=by
 rcases DataW.trod_slice ht h with⟨hcs,_⟩|⟨a,len',cap',elems,rest,n,hfuel,hcs,_⟩
 ·simp at hcs;exact⟨_,_,_,hcs⟩
 ·simp at hcs;exact⟨_,_,_,hcs⟩
end
section
variable {H:Type} {enc:TypeId×Value→H} {w:World}
theorem Tryz.cells_entry:Tryz.prog.cellsOf 100=4:=by kernel_rfl
theorem Tryz.bytes_entry:Tryz.prog.bytesOf 100=40:=by kernel_rfl
theorem Tryz.cells_kid:Tryz.prog.cellsOf 52=3:=by kernel_rfl
theorem Tryz.bytes_kid:Tryz.prog.bytesOf 52=64:=by kernel_rfl
theorem Tryz.cells_dot:Tryz.prog.cellsOf 98=2:=by kernel_rfl
theorem Tryz.cells_span:Tryz.prog.cellsOf 92=3:=by kernel_rfl
theorem Tryz.bytes_span:Tryz.prog.bytesOf 92=24:=by kernel_rfl
theorem Tryz.cells_I:Tryz.prog.cellsOf 3=1:=by kernel_rfl
theorem Tryz.cells_I64:Tryz.prog.cellsOf 2=1:=by kernel_rfl
theorem Tryz.cells_S:Tryz.prog.cellsOf 9=1:=by kernel_rfl
instance:Inhabited aG:=⟨aG.zero⟩
instance:Inhabited aH:=⟨.nil⟩
theorem Xj (l:List aG) (j:Nat) (u:Value) (h:(fK l)[j]?=some u):j/4<l.length∧(l.getD (j/4) aG.zero).cells[j%4]?=some u:=yG aG.cells 4 (by decide) (fun _=>rfl) aG.zero l j u h
theorem Xk {n:Nat} {cs:List Value} {y:DataW H×List MemPlace} (hl:cs.length=4) (h:DataW.trod enc Tryz.prog w 0 (fun _=>true) true n 100 cs=some y):∃e:aG,cs=e.cells∧e.fits:=by
 obtain⟨c0,c1,c2,c3,rfl⟩:∃c0 c1 c2 c3,cs=[c0,c1,c2,c3]:=by
  match cs,hl with
  |[c0,c1,c2,c3],_=>exact⟨c0,c1,c2,c3,rfl⟩
 obtain⟨y0,y1,y2,m,_,_,g0,g1,g2⟩:=Go.Deep.trod_struct3 Tryz.underlying100 h
 rw[Tryz.cells_dot]at g0
 rw[Tryz.cells_S]at g1
 rw[Tryz.cells_I64]at g2
 obtain⟨z0,z1,m2,_,_,k0,k1⟩:=Go.ChangeShapes.trod_struct2 Tryz.underlying98 g0
 rw[Tryz.cells_I]at k0
 rw[Tryz.cells_I64]at k1
 obtain⟨d,e0,_,w0⟩:=DataW.trod_int Tryz.underlying3 k0
 obtain⟨x,e1,_,w1⟩:=DataW.trod_int Tryz.underlying2 k1
 obtain⟨s,e2,_,hs⟩:=DataW.trod_string Tryz.underlying9 g1
 obtain⟨z,e3,_,w3⟩:=DataW.trod_int Tryz.underlying2 g2
 simp at e0 e1 e2 e3
 subst e0 e1 e2 e3
 exact⟨⟨d,x,s,z⟩,rfl,qO w0,qO w1,qO w3,by simp only[maxLen]at hs;omega⟩
theorem Xl {fuel:Nat} {c:Value} {x:DataW H×List MemPlace} (h:DataW.trod enc Tryz.prog w 0 (fun _=>true) true fuel 25 [c]=some x) (hw:∀n∈x.1.weights Tryz.prog 25,n≤reachBytes):
 ∃es:List aG,lD (fun _=>True) w c es.length (fK es)∧uU es:=by
 obtain⟨a0,len,cap,rfl⟩:=FQ Tryz.underlying25 h
 rcases A_ Tryz.underlying25 Tryz.cells_entry (by decide) Tryz.bytes_entry h hw with⟨rfl,rfl⟩|⟨b,off,n,rfl,h1,h2,_,h3,hel⟩
 ·exact⟨[],⟨.inl ⟨a0,rfl,rfl,rfl⟩,fun _ _ _=>trivial⟩,by simp,by simp⟩
 ·have hx:∀k,k<len→∃e:aG,(∀j u,e.cells[j]?=some u→w.cell? ⟨b,off+k*4+j,none⟩=some u)∧e.fits:=fun k hk=>by
   obtain⟨cs,hl,hc,y,hy,_⟩:=hel k hk
   obtain⟨e,rfl,hf⟩:=Xk hl hy
   exact⟨e,hc,hf⟩
  obtain⟨l,hl,hlp⟩:=AY hx
  have hlen:l.length≤140737488351232:=by unfold reachBytes at h3;omega
  refine⟨l,⟨.inr ⟨b,off,cap,by rw[hl],by omega,h2,fun j u hu=>?_⟩,fun _ _ _=>trivial⟩,hlen,fun e he=>?_⟩
  ·obtain⟨g1,g2⟩:=Xj l j u hu
   have:=(hlp (j/4) (by omega) aG.zero).1 (j%4) u g2
   rwa [AZ]at this
  ·obtain⟨k,hk,rfl⟩:=List.getElem_of_mem he
   have:=(hlp k (by omega) aG.zero).2
   rwa [getD_at aG.zero hk]at this
theorem open_tree:∀(fuel:Nat) (ev kv:Value) (x:DataW H×List MemPlace),DataW.trod enc Tryz.prog w 0 (fun _=>true) true fuel 28 [ev,kv]=some x→(∀n∈x.1.weights Tryz.prog 28,n≤reachBytes)→
 ∃es ks,bC (fun _=>True) w ev kv es ks∧iE es ks:=by
 intro fuel
 induction fuel using Nat.strongRecOn with
 |_ fuel ih=>
  intro ev kv x h hw
  obtain⟨xs,n,hn,rfl,_,hxl,hf⟩:=DataW.trod_struct Tryz.underlying28 h
  obtain⟨y0,y1,rfl⟩:∃y0 y1,xs=[y0,y1]:=by
   match xs,hxl with
   |[y0,y1],_=>exact⟨y0,y1,rfl⟩
  have g0:=hf 0 _ rfl
  have g1:=hf 1 _ rfl
  have g0:DataW.trod enc Tryz.prog w 0 (fun _=>true) true n 25 [ev]=some y0:=g0
  have g1:DataW.trod enc Tryz.prog w 0 (fun _=>true) true n 26 [kv]=some y1:=g1
  have hw2:∀m∈y0.1.weights Tryz.prog 25++(y1.1.weights Tryz.prog 26++ []),m≤reachBytes:=fun m hm=>hw m (by
   simp only[List.map_cons,List.map_nil,DataW.weights,Tryz.underlying28]
   exact hm)
  obtain⟨es,he,hok⟩:=Xl g0 fun m hm=>hw2 m (List.mem_append_left _ hm)
  have hw3:∀m∈y1.1.weights Tryz.prog 26,m≤reachBytes:=fun m hm=>hw2 m (List.mem_append_right _ (List.mem_append_left _ hm))
  obtain⟨a0,len,cap,rfl⟩:=FQ Tryz.underlying26 g1
  rcases A_ Tryz.underlying26 Tryz.cells_kid (by decide) Tryz.bytes_kid g1 hw3 with⟨rfl,rfl⟩|⟨b,off,n2,rfl,h1,h2,hn2,h3,hel⟩
  ·exact⟨es, .nil,⟨he,[],⟨.inl ⟨a0,rfl,rfl,rfl⟩,fun _ _ _=>trivial⟩,rfl⟩,hok,by decide,trivial⟩
  ·have hx:∀k,k<len→∃q:bg,(∀j u,q.cells[j]?=some u→w.cell? ⟨b,off+k*3+j,none⟩=some u)∧bC (fun _=>True) w q.ev q.kv q.es q.sub∧q.key.size≤9223372036854775807∧iE q.es q.sub:=fun k hk=>by
    obtain⟨cs,hl,hc,y,hy,FT⟩:=hel k hk
    obtain⟨c0,c1,c2,rfl⟩:∃c0 c1 c2,cs=[c0,c1,c2]:=by
     match cs,hl with
     |[c0,c1,c2],_=>exact⟨c0,c1,c2,rfl⟩
    obtain⟨zs,n3,hn3,rfl,_,hzl,hg⟩:=DataW.trod_struct Tryz.underlying52 hy
    obtain⟨z0,z1,rfl⟩:∃z0 z1,zs=[z0,z1]:=by
     match zs,hzl with
     |[z0,z1],_=>exact⟨z0,z1,rfl⟩
    have k0:=hg 0 _ rfl
    have k1:=hg 1 _ rfl
    have k0:DataW.trod enc Tryz.prog w 0 (fun _=>true) true n3 9 [c0]=some z0:=k0
    have k1:DataW.trod enc Tryz.prog w 0 (fun _=>true) true n3 28 [c1,c2]=some z1:=k1
    have Xm:∀m∈z0.1.weights Tryz.prog 9++(z1.1.weights Tryz.prog 28++ []),m≤reachBytes:=fun m hm=>FT m (by
     simp only[List.map_cons,List.map_nil,DataW.weights,Tryz.underlying52]
     exact hm)
    obtain⟨s,e2,_,hs⟩:=DataW.trod_string Tryz.underlying9 k0
    simp at e2
    subst e2
    obtain⟨es',ks',ht,hok'⟩:=ih n3 (by omega) c1 c2 z1 k1 fun m hm=>Xm m (List.mem_append_right _ (List.mem_append_left _ hm))
    exact⟨⟨s,es',ks',c1,c2⟩,hc,ht,by simp only[maxLen]at hs;show s.size≤_;omega,hok'⟩
   obtain⟨l,hl,hlp⟩:=AY hx
   have hq:∀q∈l,bC (fun _=>True) w q.ev q.kv q.es q.sub∧q.key.size≤9223372036854775807∧iE q.es q.sub:=fun q hq=>by
    obtain⟨k,hk,rfl⟩:=List.getElem_of_mem hq
    have:=(hlp k (by omega) default).2
    rwa [getD_at default hk]at this
   refine⟨es,mkK l,⟨he,oV l,⟨.inr ⟨b,off,cap,by rw[oW,hl],by rw[oW];omega,h2,fun j u hu=>?_⟩,fun _ _ _=>trivial⟩,w_ fun q h=>(hq q h).1⟩,hok,by rw[oW,hl];unfold reachBytes at h3;omega,IK fun q h=>(hq q h).2⟩
   rw[uY]at hu
   obtain⟨g1,g2⟩:=yG bg.cells 3 (by decide) (fun _=>rfl) default l j u hu
   have:=(hlp (j/3) (by omega) default).1 (j%3) u g2
   rwa [AZ]at this
theorem Xn (l:aV) (j:Nat) (u:Value) (h:(bU l)[j]?=some u):j/3<l.length∧([.int .i64 (l.getD (j/3) (0,0,0)).1, .int .i64 (l.getD (j/3) (0,0,0)).2.1, .int .i64 (l.getD (j/3) (0,0,0)).2.2]:List Value)[j%3]?=some u:=
 yG (fun s:Int×Int×Int=> [.int .i64 s.1, .int .i64 s.2.1, .int .i64 s.2.2]) 3 (by decide) (fun _=>rfl) (0,0,0) l j u h
theorem Xo {fuel:Nat} {c:Value} {x:DataW H×List MemPlace} (h:DataW.trod enc Tryz.prog w 0 (fun _=>true) true fuel 30 [c]=some x) (hw:∀n∈x.1.weights Tryz.prog 30,n≤reachBytes):
 ∃l:aV,fB w c l∧g_ l∧l.length≤140737488351232:=by
 obtain⟨a0,len,cap,rfl⟩:=FQ Tryz.underlying30 h
 rcases A_ Tryz.underlying30 Tryz.cells_span (by decide) Tryz.bytes_span h hw with⟨rfl,rfl⟩|⟨b,off,n,rfl,h1,h2,_,h3,hel⟩
 ·exact⟨[], .inl ⟨a0,rfl,rfl,rfl⟩,(fun s hs=>by cases hs),Nat.zero_le _⟩
 ·have hx:∀k,k<len→∃s:Int×Int×Int,(∀j u,([.int .i64 s.1, .int .i64 s.2.1, .int .i64 s.2.2]:List Value)[j]?=some u→w.cell? ⟨b,off+k*3+j,none⟩=some u)∧(-9223372036854775808≤s.1∧s.1≤9223372036854775807∧-9223372036854775808≤s.2.1∧s.2.1≤9223372036854775807∧-9223372036854775808≤s.2.2∧s.2.2≤9223372036854775807):=fun k hk=>by
   obtain⟨cs,hl,hc,y,hy,_⟩:=hel k hk
   obtain⟨c0,c1,c2,rfl⟩:∃c0 c1 c2,cs=[c0,c1,c2]:=by
    match cs,hl with
    |[c0,c1,c2],_=>exact⟨c0,c1,c2,rfl⟩
   obtain⟨y0,y1,y2,m,_,_,g0,g1,g2⟩:=Go.Deep.trod_struct3 Tryz.underlying92 hy
   rw[Tryz.cells_I]at g0
   rw[Tryz.cells_I64]at g1 g2
   obtain⟨p,e0,_,w0⟩:=DataW.trod_int Tryz.underlying3 g0
   obtain⟨q,e1,_,w1⟩:=DataW.trod_int Tryz.underlying2 g1
   obtain⟨r,e2,_,w2⟩:=DataW.trod_int Tryz.underlying2 g2
   simp at e0 e1 e2
   subst e0 e1 e2
   exact⟨(p,q,r),hc,(qO w0).1,(qO w0).2,(qO w1).1,(qO w1).2,(qO w2).1,(qO w2).2⟩
  obtain⟨l,hl,hlp⟩:=AY hx
  refine⟨l, .inr ⟨b,off,cap,by rw[hl],by omega,h2,fun j u hu=>?_⟩,fun s hs=>?_,by unfold reachBytes at h3;omega⟩
  ·obtain⟨g1,g2⟩:=Xn l j u hu
   have:=(hlp (j/3) (by omega) (0,0,0)).1 (j%3) u g2
   rwa [AZ]at this
  ·obtain⟨k,hk,rfl⟩:=List.getElem_of_mem hs
   have:=(hlp k (by omega) (0,0,0)).2
   rwa [getD_at (0,0,0) hk]at this
end
end Go.Proofs.YtlhmbkjdfjoilaaGreat
namespace Go.Proofs.YtlhmbkjdfjoilaaGreat
open Go.RowKit Go.WideShapes Go.ChangeShapes
theorem Tryz.cells_causal:Tryz.prog.cellsOf 32=3:=by kernel_rfl
theorem Xp {H:Type} {P:Program} {ts us:List TypeId} {ds gs:List (DataW H)} (h:(DataW.weightsEach P (ts++us) (ds++gs)).all (·≤reachBytes)=true) {j:Nat} {t:TypeId} {d:DataW H} (ht:ts[j]?=some t) (hd:ds[j]?=some d):
 ∀n∈d.weights P t,n≤reachBytes:=fun n hn=>by
 have h1:(ts++us)[j]?=some t:=by rw[List.getElem?_append_left (List.getElem?_eq_some_iff.1 ht).1];exact ht
 have h2:(ds++gs)[j]?=some d:=by rw[List.getElem?_append_left (List.getElem?_eq_some_iff.1 hd).1];exact hd
 simpa using List.all_eq_true.1 h n (DataW.weights_mem_each h1 h2 n hn)
section
variable {H:Type} {enc:TypeId×Value→H} {w:World}
theorem Nk {fuel:Nat} {ev kv cv:Value} {x:DataW H×List MemPlace} (h:DataW.trod enc Tryz.prog w 0 (fun _=>true) true fuel 32 [ev,kv,cv]=some x) (hw:∀n∈x.1.weights Tryz.prog 32,n≤reachBytes):
 ∃es ks c,eu (fun _=>True) w ev kv cv es ks c∧iE es ks∧g_ c∧c.length≤140737488351232:=by
 obtain⟨xs,n,hn,rfl,_,hxl,hf⟩:=DataW.trod_struct Tryz.underlying32 h
 obtain⟨y0,y1,rfl⟩:∃y0 y1,xs=[y0,y1]:=by
  match xs,hxl with
  |[y0,y1],_=>exact⟨y0,y1,rfl⟩
 have g0:=hf 0 _ rfl
 have g1:=hf 1 _ rfl
 have g0:DataW.trod enc Tryz.prog w 0 (fun _=>true) true n 28 [ev,kv]=some y0:=g0
 have g1:DataW.trod enc Tryz.prog w 0 (fun _=>true) true n 30 [cv]=some y1:=g1
 have hw2:∀m∈y0.1.weights Tryz.prog 28++(y1.1.weights Tryz.prog 30++ []),m≤reachBytes:=fun m hm=>hw m (by
  simp only[List.map_cons,List.map_nil,DataW.weights,Tryz.underlying32]
  exact hm)
 obtain⟨es,ks,h1,h2⟩:=open_tree _ ev kv _ g0 fun m hm=>hw2 m (List.mem_append_left _ hm)
 obtain⟨c,h3,h4,h5⟩:=Xo g1 fun m hm=>hw2 m (List.mem_append_right _ (List.mem_append_left _ hm))
 exact⟨es,ks,c,⟨h1,h3⟩,h2,h4,h5⟩
structure Xq (w:World) (v:Value):Prop where
 out:∃(ev kv cv:Value) (es:List aG) (ks:aH) (c:aV),v= .agg #[ev,kv,cv]∧eu (fun _=>True) w ev kv cv es ks c∧iE es ks∧g_ c∧c.length≤140737488351232
theorem Xr {base:Nat} {v:Value} {d:DataW H} {ps:List MemPlace} (hv:Value.okWide Tryz.prog w .any base 32 v) (h:DataW.Trod enc Tryz.prog w 0 (fun _=>true) true 32 v d ps)
 (hw:∀n∈d.weights Tryz.prog 32,n≤reachBytes):Xq w v:=by
 obtain⟨cs,rfl,hsz⟩:=okWide_struct Tryz.underlying32 hv
 rw[Tryz.cells_causal]at hsz
 obtain⟨l⟩:=cs
 match l,hsz with
 |[c0,c1,c2],_=>
 obtain⟨fuel,hf⟩:=h
 have hf:DataW.trod enc Tryz.prog w 0 (fun _=>true) true fuel 32 [c0,c1,c2]=some (d,ps):=hf
 obtain⟨es,ks,c,h1,h2,h3,h4⟩:=Nk hf hw
 exact⟨_,_,_,es,ks,c,rfl,h1,h2,h3,h4⟩
end
end Go.Proofs.YtlhmbkjdfjoilaaGreat
namespace Go.Proofs.YtlhmbkjdfjoilaaGreat
open Go.RowKit Go.WideShapes Go.ChangeShapes
theorem Tryz.bytes_causal:Tryz.prog.bytesOf 32=72:=by kernel_rfl
theorem Xt (l:List aU) (j:Nat) (u:Value) (h:(l.flatMap aU.cells)[j]?=some u):j/3<l.length∧(l.getD (j/3) default).cells[j%3]?=some u:=yG aU.cells 3 (by decide) (fun _=>rfl) default l j u h
section
variable {H:Type} {enc:TypeId×Value→H} {w:World}
theorem Xu {base:Nat} {v:Value} {d:DataW H} {ps:List MemPlace} (hv:Value.okWide Tryz.prog w .any base 33 v) (h:DataW.Trod enc Tryz.prog w 0 (fun _=>true) true 33 v d ps)
 (hw:∀n∈d.weights Tryz.prog 33,n≤reachBytes):∃qs,pW w v qs∧qs.length≤140737488351232:=by
 obtain⟨a,l,c,rfl⟩:=okWide_slice Tryz.underlying33 hv
 obtain⟨fuel,hf⟩:=h
 have hf:DataW.trod enc Tryz.prog w 0 (fun _=>true) true fuel 33 [.slice a l c]=some (d,ps):=hf
 rcases A_ Tryz.underlying33 Tryz.cells_causal (by decide) Tryz.bytes_causal hf hw with⟨rfl,rfl⟩|⟨b,off,n,rfl,h1,h2,_,h3,hel⟩
 ·exact⟨[],⟨.inl ⟨a,rfl,rfl,rfl⟩,fun o ho=>(by cases ho)⟩,Nat.zero_le _⟩
 ·have hx:∀k,k<l→∃q:aU,(∀j u,q.cells[j]?=some u→w.cell? ⟨b,off+k*3+j,none⟩=some u)∧eu (fun _=>True) w q.ev q.kv q.cv q.es q.ks q.c∧iE q.es q.ks∧g_ q.c∧q.c.length≤140737488351232:=fun k hk=>by
   obtain⟨cs,hl,hc,y,hy,FT⟩:=hel k hk
   match cs,hl with
   |[c0,c1,c2],_=>
    obtain⟨es,ks,cc,g1,g2,g3,g4⟩:=Nk hy FT
    exact⟨⟨es,ks,cc,c0,c1,c2⟩,hc,g1,g2,g3,g4⟩
  obtain⟨qs,hl,hlp⟩:=AY hx
  refine⟨qs,⟨.inr ⟨b,off,c,by rw[hl],by omega,h2,fun j u hu=>?_⟩,fun o ho=>?_⟩,by unfold reachBytes at h3;omega⟩
  ·obtain⟨g1,g2⟩:=Xt qs j u hu
   have:=(hlp (j/3) (by omega) default).1 (j%3) u g2
   rwa [AZ]at this
  ·obtain⟨k,hk,rfl⟩:=List.getElem_of_mem ho
   have:=(hlp k (by omega) default).2
   rwa [getD_at default hk]at this
end
theorem Nl {s:Int} (h:(Lit.int .u8 s).wf=true):0≤s∧s≤255:=by
 simp only[Lit.wf,IntKind.min,IntKind.max,IntKind.signed,IntKind.bits]at h
 simpa using h
theorem Xv (w:World) (v:Value) (h:∃qs,pW w v qs∧qs.length≤140737488351232) (s:Int) (hs:(Lit.int .u8 s).wf=true):Calls Tryz.prog 8 #[v, .int .u8 s] w fun e w'=>e= .returned (.bool true)∧aj (fun _=>False) w w':=by
 obtain⟨qs,h1,h2⟩:=h
 exact WV qs s (Nl hs) w v h1 h2
end Go.Proofs.YtlhmbkjdfjoilaaGreat
