/- Words for the law ShardPlays: TreeOpen, CauOpen, ShOpen, ActOpen, Ps23, Ps24. -/
import Derived.Test.YtlhmbkjdfjoilaaGreatShardPlaysG0
import Derived.Test.YtlhmbkjdfjoilaaGreatShardPlaysG10
import Derived.Test.YtlhmbkjdfjoilaaGreatShardPlaysG11
import Derived.Test.YtlhmbkjdfjoilaaGreatShardPlaysG21
import Derived.Test.YtlhmbkjdfjoilaaGreatShardPlaysG24
import Derived.Test.YtlhmbkjdfjoilaaGreatShardPlaysG25
import Derived.Test.YtlhmbkjdfjoilaaGreatShardPlaysG27
import Derived.Test.YtlhmbkjdfjoilaaGreatShardPlaysG33
import Derived.ProofKit
import Derived.OpenShut
import Derived.ChangeSame
import Derived.SizedLaws
set_option linter.unusedSimpArgs false
set_option linter.unusedVariables false
set_option maxHeartbeats 32000000
set_option maxRecDepth 1000000
namespace Go.Proofs.YtlhmbkjdfjoilaaGreat
open Go.RowKit Go.WideShapes
theorem Jg {α:Type} (f:α→List Value) (k:Nat) (hk:0<k) (hf:∀x,(f x).length=k) (d:α):∀(l:List α) (j:Nat) (u:Value),(l.flatMap f)[j]?=some u→j/k<l.length∧(f (l.getD (j/k) d))[j%k]?=some u
 |[],j,u,h=>by simp at h
 |x::l,j,u,h=>by
  rw[List.flatMap_cons]at h
  by_cases hj:j<k
  ·rw[List.getElem?_append_left (by rw[hf];exact hj)]at h
   rw[Nat.div_eq_of_lt hj,Nat.mod_eq_of_lt hj]
   exact⟨Nat.zero_lt_succ _,h⟩
  ·rw[List.getElem?_append_right (by rw[hf];omega),hf]at h
   obtain⟨h1,h2⟩:=Jg f k hk hf d l (j-k) u h
   have e1:j/k=(j-k)/k+1:=by rw[Nat.div_eq_sub_div hk (by omega)]
   have e2:j%k=(j-k)%k:=Nat.mod_eq_sub_mod (by omega)
   rw[e1,e2]
   exact⟨by simpa using h1,by simpa using h2⟩
theorem MO (j k:Nat) (off:Nat):off+j/k*k+j%k=off+j:=by
 have:=Nat.div_add_mod j k
 rw[Nat.mul_comm]at this
 omega
theorem weightsAll_mem {H:Type} {P:Program} {e:TypeId}:∀ {l:List (DataW H)} {y:DataW H},y∈l→∀n∈y.weights P e,n∈DataW.weightsAll P e l
 |d::l,y,h,n,hn=>by
  rw[DataW.weightsAll,List.mem_append]
  rcases List.mem_cons.1 h with rfl|h
  ·exact .inl hn
  ·exact .inr (weightsAll_mem h n hn)
theorem zJ {x:Int} (h:(Lit.int .i64 x).wf=true):-9223372036854775808≤x∧x≤9223372036854775807:=by
 simp only[Lit.wf,IntKind.min,IntKind.max,IntKind.signed,IntKind.bits]at h
 simpa using h
section
variable {H:Type} {enc:TypeId×Value→H} {P:Program} {w:World}
theorem MP {t e sz Z_:Nat} {a0:Option Addr} {len cap:Nat} {x:DataW H×List MemPlace} {fuel:Nat} (ht:P.underlying t=some (.slice e)) (hsz:P.cellsOf e=sz) (hpos:0<sz) (hby:P.bytesOf e=Z_)
 (h:DataW.trod enc P w 0 (fun _=>true) true fuel t [.slice a0 len cap]=some x) (hw:∀n∈x.1.weights P t,n≤reachBytes):
 (len=0∧cap=0)∨∃b off n,a0=some ⟨b,off,none⟩∧len≤cap∧cap≤maxLen∧fuel=n+1∧len*Z_≤reachBytes∧
   ∀k,k<len→∃cs:List Value,cs.length=sz∧(∀j u,cs[j]?=some u→w.cell? ⟨b,off+k*sz+j,none⟩=some u)∧∃y,DataW.trod enc P w 0 (fun _=>true) true n e cs=some y∧∀n∈y.1.weights P e,n≤reachBytes:=by
 rcases open_arr ht hsz hpos (fun _=>rfl) h with h0|⟨b,off,rfl,hl,hm,_⟩
 ·exact .inl h0
 right
 rcases DataW.trod_slice ht h with⟨hcs,_⟩|⟨a,len',cap',elems,rest,n,hfuel,hcs,rfl,_,_,_,hlen,hel,hsp,_⟩
 ·simp at hcs
 simp only[List.cons.injEq,Value.slice.injEq,Option.some.injEq,and_true]at hcs
 obtain⟨rfl,rfl,rfl⟩:=hcs
 subst hsz
 subst hby
 simp only[DataW.weights,ht]at hw
 refine⟨b,off,n,rfl,hl,hm,hfuel,?_,fun k hk=>?_⟩
 ·have h1:=hw _ List.mem_cons_self
  simp only[List.length_map]at h1
  rw[hlen]at h1
  exact Nat.le_trans (Nat.mul_le_mul_right _ (Nat.le_add_right _ _)) h1
 ·have hke:k<elems.length:=by omega
  have h1:=hel k hk
  rw[List.getElem?_eq_getElem hke,Option.bind_eq_some_iff]at h1
  obtain⟨cs',hc,ht'⟩:=h1
  obtain⟨_,hcl,hcells⟩:=World.cells?_some hc
  refine⟨cs',hcl,fun j u hu=>?_,_,ht',fun m hm=>?_⟩
  ·have hj:j<P.cellsOf e:=by rw[←hcl];exact(List.getElem?_eq_some_iff.1 hu).1
   have:=hcells j hj
   rw[addr_add,addr_add]at this
   rw[this,hu]
  ·refine hw m (List.mem_cons_of_mem _ (List.mem_append_left _ (weightsAll_mem (y:=elems[k].1) ?_ m hm)))
   exact List.mem_map.2 ⟨_,List.getElem_mem hke,rfl⟩
theorem TG {t e:Nat} {c:Value} {x:DataW H×List MemPlace} {fuel:Nat} (ht:P.underlying t=some (.slice e)) (h:DataW.trod enc P w 0 (fun _=>true) true fuel t [c]=some x):∃a l k,c= .slice a l k:=by
 rcases DataW.trod_slice ht h with⟨hcs,_⟩|⟨a,len',cap',elems,rest,n,hfuel,hcs,_⟩
 ·simp at hcs;exact⟨_,_,_,hcs⟩
 ·simp at hcs;exact⟨_,_,_,hcs⟩
end
section
variable {H:Type} {enc:TypeId×Value→H} {w:World}
theorem Tryz.cells_entry:Tryz.prog.cellsOf 100=4:=by kernel_rfl
theorem Tryz.bytes_entry:Tryz.prog.bytesOf 100=40:=by kernel_rfl
theorem Tryz.cells_kid:Tryz.prog.cellsOf 52=3:=by kernel_rfl
theorem Tryz.bytes_kid:Tryz.prog.bytesOf 52=64:=by kernel_rfl
theorem Tryz.cells_dot:Tryz.prog.cellsOf 98=2:=by kernel_rfl
theorem Tryz.cells_span:Tryz.prog.cellsOf 92=3:=by kernel_rfl
theorem Tryz.bytes_span:Tryz.prog.bytesOf 92=24:=by kernel_rfl
theorem Tryz.cells_I:Tryz.prog.cellsOf 3=1:=by kernel_rfl
theorem Tryz.cells_I64:Tryz.prog.cellsOf 2=1:=by kernel_rfl
theorem Tryz.cells_S:Tryz.prog.cellsOf 9=1:=by kernel_rfl
instance:Inhabited aQ:=⟨aQ.zero⟩
instance:Inhabited aT:=⟨.nil⟩
theorem aiy (l:List aQ) (j:Nat) (u:Value) (h:(jy l)[j]?=some u):j/4<l.length∧(l.getD (j/4) aQ.zero).cells[j%4]?=some u:=Jg aQ.cells 4 (by decide) (fun _=>rfl) aQ.zero l j u h
theorem aiz {n:Nat} {cs:List Value} {y:DataW H×List MemPlace} (hl:cs.length=4) (h:DataW.trod enc Tryz.prog w 0 (fun _=>true) true n 100 cs=some y):∃e:aQ,cs=e.cells∧e.fits:=by
 obtain⟨c0,c1,c2,c3,rfl⟩:∃c0 c1 c2 c3,cs=[c0,c1,c2,c3]:=by
  match cs,hl with
  |[c0,c1,c2,c3],_=>exact⟨c0,c1,c2,c3,rfl⟩
 obtain⟨y0,y1,y2,m,_,_,g0,g1,g2⟩:=Go.Deep.trod_struct3 Tryz.underlying100 h
 rw[Tryz.cells_dot]at g0
 rw[Tryz.cells_S]at g1
 rw[Tryz.cells_I64]at g2
 obtain⟨z0,z1,m2,_,_,k0,k1⟩:=Go.ChangeShapes.trod_struct2 Tryz.underlying98 g0
 rw[Tryz.cells_I]at k0
 rw[Tryz.cells_I64]at k1
 obtain⟨d,e0,_,w0⟩:=DataW.trod_int Tryz.underlying3 k0
 obtain⟨x,e1,_,w1⟩:=DataW.trod_int Tryz.underlying2 k1
 obtain⟨s,e2,_,hs⟩:=DataW.trod_string Tryz.underlying9 g1
 obtain⟨z,e3,_,w3⟩:=DataW.trod_int Tryz.underlying2 g2
 simp at e0 e1 e2 e3
 subst e0 e1 e2 e3
 exact⟨⟨d,x,s,z⟩,rfl,zJ w0,zJ w1,zJ w3,by simp only[maxLen]at hs;omega⟩
theorem aiA {fuel:Nat} {c:Value} {x:DataW H×List MemPlace} (h:DataW.trod enc Tryz.prog w 0 (fun _=>true) true fuel 25 [c]=some x) (hw:∀n∈x.1.weights Tryz.prog 25,n≤reachBytes):
 ∃es:List aQ,gy (fun _=>True) w c es.length (jy es)∧DN es:=by
 obtain⟨a0,len,cap,rfl⟩:=TG Tryz.underlying25 h
 rcases MP Tryz.underlying25 Tryz.cells_entry (by decide) Tryz.bytes_entry h hw with⟨rfl,rfl⟩|⟨b,off,n,rfl,h1,h2,_,h3,hel⟩
 ·exact⟨[],⟨.inl ⟨a0,rfl,rfl,rfl⟩,fun _ _ _=>trivial⟩,by simp,by simp⟩
 ·have hx:∀k,k<len→∃e:aQ,(∀j u,e.cells[j]?=some u→w.cell? ⟨b,off+k*4+j,none⟩=some u)∧e.fits:=fun k hk=>by
   obtain⟨cs,hl,hc,y,hy,_⟩:=hel k hk
   obtain⟨e,rfl,hf⟩:=aiz hl hy
   exact⟨e,hc,hf⟩
  obtain⟨l,hl,hlp⟩:=MN hx
  have hlen:l.length≤140737488351232:=by unfold reachBytes at h3;omega
  refine⟨l,⟨.inr ⟨b,off,cap,by rw[hl],by omega,h2,fun j u hu=>?_⟩,fun _ _ _=>trivial⟩,hlen,fun e he=>?_⟩
  ·obtain⟨g1,g2⟩:=aiy l j u hu
   have:=(hlp (j/4) (by omega) aQ.zero).1 (j%4) u g2
   rwa [MO]at this
  ·obtain⟨k,hk,rfl⟩:=List.getElem_of_mem he
   have:=(hlp k (by omega) aQ.zero).2
   rwa [getD_at aQ.zero hk]at this
theorem open_tree:∀(fuel:Nat) (ev kv:Value) (x:DataW H×List MemPlace),DataW.trod enc Tryz.prog w 0 (fun _=>true) true fuel 28 [ev,kv]=some x→(∀n∈x.1.weights Tryz.prog 28,n≤reachBytes)→
 ∃es ks,bZ (fun _=>True) w ev kv es ks∧lF es ks:=by
 intro fuel
 induction fuel using Nat.strongRecOn with
 |_ fuel ih=>
  intro ev kv x h hw
  obtain⟨xs,n,hn,rfl,_,hxl,hf⟩:=DataW.trod_struct Tryz.underlying28 h
  obtain⟨y0,y1,rfl⟩:∃y0 y1,xs=[y0,y1]:=by
   match xs,hxl with
   |[y0,y1],_=>exact⟨y0,y1,rfl⟩
  have g0:=hf 0 _ rfl
  have g1:=hf 1 _ rfl
  have g0:DataW.trod enc Tryz.prog w 0 (fun _=>true) true n 25 [ev]=some y0:=g0
  have g1:DataW.trod enc Tryz.prog w 0 (fun _=>true) true n 26 [kv]=some y1:=g1
  have hw2:∀m∈y0.1.weights Tryz.prog 25++(y1.1.weights Tryz.prog 26++ []),m≤reachBytes:=fun m hm=>hw m (by
   simp only[List.map_cons,List.map_nil,DataW.weights,Tryz.underlying28]
   exact hm)
  obtain⟨es,he,hok⟩:=aiA g0 fun m hm=>hw2 m (List.mem_append_left _ hm)
  have hw3:∀m∈y1.1.weights Tryz.prog 26,m≤reachBytes:=fun m hm=>hw2 m (List.mem_append_right _ (List.mem_append_left _ hm))
  obtain⟨a0,len,cap,rfl⟩:=TG Tryz.underlying26 g1
  rcases MP Tryz.underlying26 Tryz.cells_kid (by decide) Tryz.bytes_kid g1 hw3 with⟨rfl,rfl⟩|⟨b,off,n2,rfl,h1,h2,hn2,h3,hel⟩
  ·exact⟨es, .nil,⟨he,[],⟨.inl ⟨a0,rfl,rfl,rfl⟩,fun _ _ _=>trivial⟩,rfl⟩,hok,by decide,trivial⟩
  ·have hx:∀k,k<len→∃q:dh,(∀j u,q.cells[j]?=some u→w.cell? ⟨b,off+k*3+j,none⟩=some u)∧bZ (fun _=>True) w q.ev q.kv q.es q.sub∧q.key.size≤9223372036854775807∧lF q.es q.sub:=fun k hk=>by
    obtain⟨cs,hl,hc,y,hy,TI⟩:=hel k hk
    obtain⟨c0,c1,c2,rfl⟩:∃c0 c1 c2,cs=[c0,c1,c2]:=by
     match cs,hl with
     |[c0,c1,c2],_=>exact⟨c0,c1,c2,rfl⟩
    obtain⟨zs,n3,hn3,rfl,_,hzl,hg⟩:=DataW.trod_struct Tryz.underlying52 hy
    obtain⟨z0,z1,rfl⟩:∃z0 z1,zs=[z0,z1]:=by
     match zs,hzl with
     |[z0,z1],_=>exact⟨z0,z1,rfl⟩
    have k0:=hg 0 _ rfl
    have k1:=hg 1 _ rfl
    have k0:DataW.trod enc Tryz.prog w 0 (fun _=>true) true n3 9 [c0]=some z0:=k0
    have k1:DataW.trod enc Tryz.prog w 0 (fun _=>true) true n3 28 [c1,c2]=some z1:=k1
    have aiB:∀m∈z0.1.weights Tryz.prog 9++(z1.1.weights Tryz.prog 28++ []),m≤reachBytes:=fun m hm=>TI m (by
     simp only[List.map_cons,List.map_nil,DataW.weights,Tryz.underlying52]
     exact hm)
    obtain⟨s,e2,_,hs⟩:=DataW.trod_string Tryz.underlying9 k0
    simp at e2
    subst e2
    obtain⟨es',ks',ht,hok'⟩:=ih n3 (by omega) c1 c2 z1 k1 fun m hm=>aiB m (List.mem_append_right _ (List.mem_append_left _ hm))
    exact⟨⟨s,es',ks',c1,c2⟩,hc,ht,by simp only[maxLen]at hs;show s.size≤_;omega,hok'⟩
   obtain⟨l,hl,hlp⟩:=MN hx
   have hq:∀q∈l,bZ (fun _=>True) w q.ev q.kv q.es q.sub∧q.key.size≤9223372036854775807∧lF q.es q.sub:=fun q hq=>by
    obtain⟨k,hk,rfl⟩:=List.getElem_of_mem hq
    have:=(hlp k (by omega) default).2
    rwa [getD_at default hk]at this
   refine⟨es,mkK l,⟨he,vX l,⟨.inr ⟨b,off,cap,by rw[vY,hl],by rw[vY];omega,h2,fun j u hu=>?_⟩,fun _ _ _=>trivial⟩,Ed fun q h=>(hq q h).1⟩,hok,by rw[vY,hl];unfold reachBytes at h3;omega,Vq fun q h=>(hq q h).2⟩
   rw[BN]at hu
   obtain⟨g1,g2⟩:=Jg dh.cells 3 (by decide) (fun _=>rfl) default l j u hu
   have:=(hlp (j/3) (by omega) default).1 (j%3) u g2
   rwa [MO]at this
theorem aiC (l:bD) (j:Nat) (u:Value) (h:(dY l)[j]?=some u):j/3<l.length∧([.int .i64 (l.getD (j/3) (0,0,0)).1, .int .i64 (l.getD (j/3) (0,0,0)).2.1, .int .i64 (l.getD (j/3) (0,0,0)).2.2]:List Value)[j%3]?=some u:=
 Jg (fun s:Int×Int×Int=> [.int .i64 s.1, .int .i64 s.2.1, .int .i64 s.2.2]) 3 (by decide) (fun _=>rfl) (0,0,0) l j u h
theorem aiD {fuel:Nat} {c:Value} {x:DataW H×List MemPlace} (h:DataW.trod enc Tryz.prog w 0 (fun _=>true) true fuel 30 [c]=some x) (hw:∀n∈x.1.weights Tryz.prog 30,n≤reachBytes):
 ∃l:bD,je w c l∧kU l∧l.length≤140737488351232:=by
 obtain⟨a0,len,cap,rfl⟩:=TG Tryz.underlying30 h
 rcases MP Tryz.underlying30 Tryz.cells_span (by decide) Tryz.bytes_span h hw with⟨rfl,rfl⟩|⟨b,off,n,rfl,h1,h2,_,h3,hel⟩
 ·exact⟨[], .inl ⟨a0,rfl,rfl,rfl⟩,(fun s hs=>by cases hs),Nat.zero_le _⟩
 ·have hx:∀k,k<len→∃s:Int×Int×Int,(∀j u,([.int .i64 s.1, .int .i64 s.2.1, .int .i64 s.2.2]:List Value)[j]?=some u→w.cell? ⟨b,off+k*3+j,none⟩=some u)∧(-9223372036854775808≤s.1∧s.1≤9223372036854775807∧-9223372036854775808≤s.2.1∧s.2.1≤9223372036854775807∧-9223372036854775808≤s.2.2∧s.2.2≤9223372036854775807):=fun k hk=>by
   obtain⟨cs,hl,hc,y,hy,_⟩:=hel k hk
   obtain⟨c0,c1,c2,rfl⟩:∃c0 c1 c2,cs=[c0,c1,c2]:=by
    match cs,hl with
    |[c0,c1,c2],_=>exact⟨c0,c1,c2,rfl⟩
   obtain⟨y0,y1,y2,m,_,_,g0,g1,g2⟩:=Go.Deep.trod_struct3 Tryz.underlying92 hy
   rw[Tryz.cells_I]at g0
   rw[Tryz.cells_I64]at g1 g2
   obtain⟨p,e0,_,w0⟩:=DataW.trod_int Tryz.underlying3 g0
   obtain⟨q,e1,_,w1⟩:=DataW.trod_int Tryz.underlying2 g1
   obtain⟨r,e2,_,w2⟩:=DataW.trod_int Tryz.underlying2 g2
   simp at e0 e1 e2
   subst e0 e1 e2
   exact⟨(p,q,r),hc,(zJ w0).1,(zJ w0).2,(zJ w1).1,(zJ w1).2,(zJ w2).1,(zJ w2).2⟩
  obtain⟨l,hl,hlp⟩:=MN hx
  refine⟨l, .inr ⟨b,off,cap,by rw[hl],by omega,h2,fun j u hu=>?_⟩,fun s hs=>?_,by unfold reachBytes at h3;omega⟩
  ·obtain⟨g1,g2⟩:=aiC l j u hu
   have:=(hlp (j/3) (by omega) (0,0,0)).1 (j%3) u g2
   rwa [MO]at this
  ·obtain⟨k,hk,rfl⟩:=List.getElem_of_mem hs
   have:=(hlp k (by omega) (0,0,0)).2
   rwa [getD_at (0,0,0) hk]at this
end
end Go.Proofs.YtlhmbkjdfjoilaaGreat
namespace Go.Proofs.YtlhmbkjdfjoilaaGreat
open Go.RowKit Go.WideShapes Go.ChangeShapes
theorem aiE {H:Type} {P:Program} {ts us:List TypeId} {ds gs:List (DataW H)} (h:(DataW.weightsEach P (ts++us) (ds++gs)).all (·≤reachBytes)=true) {j:Nat} {t:TypeId} {d:DataW H} (ht:ts[j]?=some t) (hd:ds[j]?=some d):
 ∀n∈d.weights P t,n≤reachBytes:=fun n hn=>by
 have h1:(ts++us)[j]?=some t:=by rw[List.getElem?_append_left (List.getElem?_eq_some_iff.1 ht).1];exact ht
 have h2:(ds++gs)[j]?=some d:=by rw[List.getElem?_append_left (List.getElem?_eq_some_iff.1 hd).1];exact hd
 simpa using List.all_eq_true.1 h n (DataW.weights_mem_each h1 h2 n hn)
section
variable {H:Type} {enc:TypeId×Value→H} {w:World}
theorem aiF {fuel:Nat} {ev kv cv:Value} {x:DataW H×List MemPlace} (h:DataW.trod enc Tryz.prog w 0 (fun _=>true) true fuel 32 [ev,kv,cv]=some x) (hw:∀n∈x.1.weights Tryz.prog 32,n≤reachBytes):
 ∃es ks c,dU (fun _=>True) w ev kv cv es ks c∧lF es ks∧kU c∧c.length≤140737488351232:=by
 obtain⟨xs,n,hn,rfl,_,hxl,hf⟩:=DataW.trod_struct Tryz.underlying32 h
 obtain⟨y0,y1,rfl⟩:∃y0 y1,xs=[y0,y1]:=by
  match xs,hxl with
  |[y0,y1],_=>exact⟨y0,y1,rfl⟩
 have g0:=hf 0 _ rfl
 have g1:=hf 1 _ rfl
 have g0:DataW.trod enc Tryz.prog w 0 (fun _=>true) true n 28 [ev,kv]=some y0:=g0
 have g1:DataW.trod enc Tryz.prog w 0 (fun _=>true) true n 30 [cv]=some y1:=g1
 have hw2:∀m∈y0.1.weights Tryz.prog 28++(y1.1.weights Tryz.prog 30++ []),m≤reachBytes:=fun m hm=>hw m (by
  simp only[List.map_cons,List.map_nil,DataW.weights,Tryz.underlying32]
  exact hm)
 obtain⟨es,ks,h1,h2⟩:=open_tree _ ev kv _ g0 fun m hm=>hw2 m (List.mem_append_left _ hm)
 obtain⟨c,h3,h4,h5⟩:=aiD g1 fun m hm=>hw2 m (List.mem_append_right _ (List.mem_append_left _ hm))
 exact⟨es,ks,c,⟨h1,h3⟩,h2,h4,h5⟩
end
end Go.Proofs.YtlhmbkjdfjoilaaGreat
namespace Go.Proofs.YtlhmbkjdfjoilaaGreat
open Go.RowKit Go.WideShapes Go.ChangeShapes
end Go.Proofs.YtlhmbkjdfjoilaaGreat
namespace Go.Proofs.YtlhmbkjdfjoilaaGreat
open Go.RowKit Go.WideShapes Go.ChangeShapes
structure oK where
 kind:Int
 id:Int
 shard:Int
 q:aU
instance:Inhabited oK:=⟨⟨0,0,0,default⟩⟩
def oK.cells (a:oK):List Value:=[.int .u8 a.kind, .int .i64 a.id, .int .i64 a.shard,a.q.ev,a.q.kv,a.q.cv]
structure oK.ok (w:World) (a:oK):Prop where
 kind:(Lit.int .u8 a.kind).wf=true
 id:(Lit.int .i64 a.id).wf=true
 shard:(Lit.int .i64 a.shard).wf=true
 cau:dU (fun _=>True) w a.q.ev a.q.kv a.q.cv a.q.es a.q.ks a.q.c∧lF a.q.es a.q.ks∧kU a.q.c∧a.q.c.length≤140737488351232
structure Dj (w:World) (v:Value) (l:List oK):Prop where
 rd:Rd w v l.length (l.flatMap oK.cells)
 each:∀a∈l,a.ok w
theorem Dj.aS {w w':World} {v:Value} {l:List oK} (h:Dj w v l) (f:aj aF w w'):Dj w' v l:=
 ⟨h.rd.aS f,fun a ha=>let⟨h1,h2,h3,h4⟩:=h.each a ha;⟨h1,h2,h3,h4.1.aS f,h4.2⟩⟩
theorem Tryz.cells_act:Tryz.prog.cellsOf 68=6:=by kernel_rfl
theorem Tryz.bytes_act:Tryz.prog.bytesOf 68=96:=by kernel_rfl
theorem aiG (l:List oK) (j:Nat) (u:Value) (h:(l.flatMap oK.cells)[j]?=some u):j/6<l.length∧(l.getD (j/6) default).cells[j%6]?=some u:=Jg oK.cells 6 (by decide) (fun _=>rfl) default l j u h
section
variable {H:Type} {enc:TypeId×Value→H} {w:World}
theorem aiH {fuel:Nat} {cs:List Value} {x:DataW H×List MemPlace} (hl:cs.length=6) (h:DataW.trod enc Tryz.prog w 0 (fun _=>true) true fuel 68 cs=some x) (hw:∀n∈x.1.weights Tryz.prog 68,n≤reachBytes):∃a:oK,cs=a.cells∧a.ok w:=by
 obtain⟨c0,c1,c2,c3,c4,c5,rfl⟩:∃c0 c1 c2 c3 c4 c5,cs=[c0,c1,c2,c3,c4,c5]:=by
  match cs,hl with
  |[c0,c1,c2,c3,c4,c5],_=>exact⟨c0,c1,c2,c3,c4,c5,rfl⟩
 obtain⟨xs,n,hn,rfl,_,hxl,hf⟩:=DataW.trod_struct Tryz.underlying68 h
 obtain⟨y0,y1,y2,y3,rfl⟩:∃y0 y1 y2 y3,xs=[y0,y1,y2,y3]:=by
  match xs,hxl with
  |[y0,y1,y2,y3],_=>exact⟨y0,y1,y2,y3,rfl⟩
 have g0:DataW.trod enc Tryz.prog w 0 (fun _=>true) true n 5 [c0]=some y0:=hf 0 _ rfl
 have g1:DataW.trod enc Tryz.prog w 0 (fun _=>true) true n 2 [c1]=some y1:=hf 1 _ rfl
 have g2:DataW.trod enc Tryz.prog w 0 (fun _=>true) true n 3 [c2]=some y2:=hf 2 _ rfl
 have g3:DataW.trod enc Tryz.prog w 0 (fun _=>true) true n 32 [c3,c4,c5]=some y3:=hf 3 _ rfl
 obtain⟨d,e0,_,w0⟩:=DataW.trod_int Tryz.underlying5 g0
 obtain⟨x,e1,_,w1⟩:=DataW.trod_int Tryz.underlying2 g1
 obtain⟨z,e2,_,w2⟩:=DataW.trod_int Tryz.underlying3 g2
 simp at e0 e1 e2
 subst e0 e1 e2
 obtain⟨es,ks,c,k1,k2,k3,k4⟩:=aiF g3 fun m hm=>hw m (by
  simp only[List.map_cons,List.map_nil,DataW.weights,Tryz.underlying68]
  exact List.mem_append_right _ (List.mem_append_right _ (List.mem_append_right _ (List.mem_append_left _ hm))))
 exact⟨⟨d,x,z,⟨es,ks,c,c3,c4,c5⟩⟩,rfl,w0,w1,w2,k1,k2,k3,k4⟩
theorem aiI {base:Nat} {v:Value} {d:DataW H} {ps:List MemPlace} (hv:Value.okWide Tryz.prog w .any base 59 v) (h:DataW.Trod enc Tryz.prog w 0 (fun _=>true) true 59 v d ps)
 (hw:∀n∈d.weights Tryz.prog 59,n≤reachBytes):∃l,Dj w v l∧l.length≤140737488351232:=by
 obtain⟨a,l,c,rfl⟩:=okWide_slice Tryz.underlying59 hv
 obtain⟨fuel,hf⟩:=h
 have hf:DataW.trod enc Tryz.prog w 0 (fun _=>true) true fuel 59 [.slice a l c]=some (d,ps):=hf
 rcases MP Tryz.underlying59 Tryz.cells_act (by decide) Tryz.bytes_act hf hw with⟨rfl,rfl⟩|⟨b,off,n,rfl,h1,h2,_,h3,hel⟩
 ·exact⟨[],⟨.inl ⟨a,rfl,rfl,rfl⟩,fun o ho=>(by cases ho)⟩,Nat.zero_le _⟩
 ·have hx:∀k,k<l→∃q:oK,(∀j u,q.cells[j]?=some u→w.cell? ⟨b,off+k*6+j,none⟩=some u)∧q.ok w:=fun k hk=>by
   obtain⟨cs,hl,hc,y,hy,TI⟩:=hel k hk
   obtain⟨q,rfl,hq⟩:=aiH hl hy TI
   exact⟨q,hc,hq⟩
  obtain⟨qs,hl,hlp⟩:=MN hx
  refine⟨qs,⟨.inr ⟨b,off,c,by rw[hl],by omega,h2,fun j u hu=>?_⟩,fun o ho=>?_⟩,by unfold reachBytes at h3;omega⟩
  ·obtain⟨g1,g2⟩:=aiG qs j u hu
   have:=(hlp (j/6) (by omega) default).1 (j%6) u g2
   rwa [MO]at this
  ·obtain⟨k,hk,rfl⟩:=List.getElem_of_mem ho
   have:=(hlp k (by omega) default).2
   rwa [getD_at default hk]at this
end
open Go.RowKit
section
variable {L:Nat→Prop} {w:World} {b n:Nat} {vv sv:Value} {vis:List bY} {st:List bI}
theorem lM.is (h:lM L w b n vv sv vis st) (hg:mG n vis) (hs:(vis.map dQ).sum≤2000):Calls Tryz.prog 29 #[.pointer (some ⟨b,0,none⟩), .agg #[vv,sv]] w fun e w'=>e= .returned (.bool true)∧aj aF w w':=by
 obtain⟨⟨vb,jo,vs,rs,h1,rfl,e1⟩,vs',rs',h2,e2,e3⟩:=h
 exact ag1 h1 h2 e2.symm hg hs
theorem lM.aiJ (h:lM L w b n vv sv vis st) (x:Int):Calls Tryz.prog 21 #[.pointer (some ⟨b,0,none⟩), .int .i64 x] w fun e w'=>e= .returned (.int .i64 (mZ x st))∧aj aF w w':=by
 obtain⟨⟨vb,jo,vs,rs,h1,e0,rfl⟩,_⟩:=h
 exact XL h1 x
theorem lM.aiK (h:lM L w b n vv sv vis st) (x:Int):Calls Tryz.prog 32 #[.agg #[vv,sv], .int .i64 x] w fun e w'=>e= .returned (.int .i64 (mZ x st))∧aj aF w w':=by
 obtain⟨_,vs',rs',h2,e2,rfl⟩:=h
 exact QL h2 x
end
theorem aiL {Q:Nat→Prop} {w:World} {n p:Nat} (h1:1≤n) (h4:n≤4) (hb:w.heap[p]?=some (.cells ((jm n).flatMap aU.cells).toArray 32 (0,0))) (hQ:Q p):jf Q w n (.slice (some ⟨p,0,none⟩) n n) (.slice none 0 0) (jm n) []:=by
 have hr:oG Q w p n (jm n):=La hb
 have hrd:=hr.rd h4
 rw[hr.len]at hrd
 exact⟨h1,h4,⟨hr.len,⟨hrd,fun _ k hk=>by simp[Value.ownBlock]at hk;subst hk;exact hQ⟩,hr.each⟩,⟨.inl ⟨none,rfl,rfl,rfl⟩,fun hx=>absurd rfl hx⟩,fun r hr=>(by cases hr),List.nodup_nil,Nat.zero_le _⟩
theorem aiM {w w2 w3:World} {n b p vb:Nat} {jo:Value} (hst:dW (newL w) w2 b n vb jo (jm n) []) (hv:(jm n).map aU.g=jd n dD) (f:aj aF w2 w3) (hb:w3.heap[p]?=some (.cells ((jm n).flatMap aU.cells).toArray 32 (0,0))) (hp:¬newL w p):
 lM (newL w) w3 b n (.slice (some ⟨p,0,none⟩) n n) (.slice none 0 0) (jd n dD) []:=
 ⟨⟨vb,jo,jm n,[],hst.aS f,hv,rfl⟩,jm n,[],aiL hst.n1 hst.n4 hb hp,hv,rfl⟩
theorem TJ:∀(l:List oK) (j:Nat),j<l.length→∀c,c<6→(l.flatMap oK.cells)[j*6+c]?=(l.getD j default).cells[c]?
 |[],_,h,_,_=>by cases h
 |q::l,0,_,c,hc=>by
  rw[List.flatMap_cons,Nat.zero_mul,Nat.zero_add,List.getElem?_append_left (by exact hc)]
  rfl
 |q::l,j+1,h,c,hc=>by
  have ih:=TJ l j (by simpa using h) c hc
  rw[List.flatMap_cons,List.getElem?_append_right (by show 6≤_;omega)]
  show(l.flatMap oK.cells)[(j+1)*6+c-6]?=(l.getD j default).cells[c]?
  rw[←ih]
  congr 1
  omega
def Z':Prop:=∀(L:Nat→Prop) (w:World) (b n a:Nat) (vv sv:Value) (vis:List bY) (st:List bI) (A:oK),lM L w b n vv sv vis st→jQ n a vis st→a≤30→(Lit.int .u8 A.kind).wf=true→eF (fun k=>¬L k) w A.q→iD A.q.es A.q.ks A.q.c→dQ A.q.g≤30→A.q.c.length≤30→
 ∃Jh st',jQ n (a+1) Jh st'∧Calls Tryz.prog 31 #[.pointer (some ⟨b,0,none⟩), .agg #[vv,sv], .agg #[.int .u8 A.kind, .int .i64 A.id, .int .i64 A.shard,A.q.ev,A.q.kv,A.q.cv]] w (Bg L w b n Jh st')
open Go.RowKit
theorem aiN {q:aU} (h:EW q=true) (ht:lF q.es q.ks) (hc:kU q.c):iD q.es q.ks q.c∧dQ q.g≤30∧q.c.length≤30:=by
 obtain⟨g1,g2⟩:=af9 h
 exact⟨⟨ht,by omega,hc,by omega⟩,by unfold sizeT at g1;show dM q.ks≤30;omega,g2⟩
theorem aiO (w:World) (k:Int) (m cp:Nat) (a:Option Addr) (h30:30<m):
 Calls Tryz.prog 7 #[.int .i64 k, .slice a m cp] w fun e w'=>e= .returned (.bool true)∧aj (fun _=>False) w w':=by
 have HA:=ah QV
 have h30:(30:Int)<(m:Int):=by omega
 go_enter Tryz.func7,Tryz.ntmps7
 go_wp2_with(first
  |(go_at_call 9;have q9:=dN.out;clear q9;refine(HA.out _).mono ?_;rintro e w2 ⟨rfl,hf2⟩;have HF2:=ah (dN.out.aH hf2);clear hf2)
  |(go_at_call 9;refine(HA.out _).mono ?_;rintro e w1 ⟨rfl,hf1⟩;have dN:=ah hf1;clear hf1))
 go_ret
 exact⟨rfl,HF2.out⟩
theorem aiP (w:World) (k:Int) (m cp:Nat) (a:Option Addr) (h30:¬30<m) (hk:k<1∨4<k):
 Calls Tryz.prog 7 #[.int .i64 k, .slice a m cp] w fun e w'=>e= .returned (.bool true)∧aj (fun _=>False) w w':=by
 have HA:=ah QV
 have HN:=ah (agZ k hk)
 have MQ:=ah (afz k hk)
 have h30:¬(30:Int)<(m:Int):=by omega
 clear hk
 go_enter Tryz.func7,Tryz.ntmps7
 go_wp2_with(first
  |(go_at_call 9;refine(HA.out _).mono ?_;rintro e w1 ⟨rfl,hf1⟩;have dN:=ah hf1;clear hf1)
  |(go_at_call 14;refine(HN.out _).mono ?_;rintro e w2 ⟨rfl,rfl⟩)
  |(go_at_call 28;refine(MQ.out _).mono ?_;rintro e w3 ⟨rfl,hf3⟩;have HF3:=ah (dN.out.aH hf3);clear hf3))
 go_ret
 exact⟨rfl,HF3.out.aH (aj.alloc aF _ _)⟩
theorem aiQ (hact:Z') (w:World) (n:Nat) (hn1:1≤n) (hn4:n≤4) (l:List oK) (v:Value) (h:Dj w v l) (h30:l.length≤30):
 Calls Tryz.prog 7 #[.int .i64 n,v] w fun e w'=>e= .returned (.bool true)∧aj (fun _=>False) w w':=by
 have aiR:=ah hact
 clear hact
 have HA:=ah QV
 have HR:=ah (fun W (f:aj aF w W)=>h.aS f)
 have HN:=ah (fun W=>Yd n hn1 hn4 W)
 have MQ:=ah (fun W=>afA n hn1 hn4 W)
 obtain⟨a,cp,rfl⟩:=h.rd.sl
 have HVP:=ah (fun p off (e:a=some ⟨p,off,none⟩) (hm:0<l.length)=>(show p<w.heap.size from by
  have hac:=TJ l 0 hm 0 (by decide)
  rcases h.rd with⟨ad,he,h0,_⟩|⟨p',off',cc,he,hmc,hcm,hcell⟩
  ·omega
  ·injection he with e1 e2 e3
   subst e1
   injection e with e
   injection e with e4 e5
   subst e4
   exact World.block_lt_of_cell? _ _ (hcell 0 _ hac)))
 clear h
 obtain⟨m,hm⟩:∃m,m=l.length:=⟨_,rfl⟩
 rw[←hm]at h30
 have HM:=ah hm
 rw[←hm]at HR HVP⊢
 clear hm
 have ajW:¬(30:Int)<(m:Int):=by omega
 go_enter Tryz.func7,Tryz.ntmps7
 go_upto_region 7 with(first
  |(go_at_call 9;refine(HA.out _).mono ?_;rintro e w1 ⟨rfl,hf1⟩;have dN:=ah hf1;clear hf1)
  |(go_at_call 14;refine(HN.out _).mono ?_;rintro e w2 ⟨rfl,hst,hv,hf2⟩;have HST:=ah hst;have HV:=ah hv;have HF2:=ah hf2;clear hst hv hf2)
  |(go_at_call 28;refine(MQ.out _).mono ?_;rintro e w3 ⟨rfl,hf3,hb3⟩;have HF3:=ah hf3;have HB3:=ah hb3;clear hf3 hb3))
 have hpl:=aiM HST.out HV.out HF3.out HB3.out (show ¬newL w1 (w2.heap.size+1)from fun e=>by have e:w2.heap.size+1=w1.heap.size+1:=e;have:=HST.out.Ls (w1.heap.size+1) rfl;omega)
 have MR:=ah (fun k (hk:newL w1 k)=>(show w.heap.size≤k∧k<w3.heap.size from by have hk:k=w1.heap.size+1:=hk;have:=HST.out.Ls (w1.heap.size+1) rfl;have:=dN.out.size;have:=HF3.out.size;omega))
 have fa:=aj.alloc aF w3 (.cells #[.slice (some ⟨w2.heap.size+1,0,none⟩) n n, .slice none 0 0] 62)
 have dV:=ah (hpl.aS fa)
 have nI:=ah (heap_alloc_new w3 (.cells #[.slice (some ⟨w2.heap.size+1,0,none⟩) n n, .slice none 0 0] 62))
 have dR:=ah (dN.out.aH (HF2.out.aH (HF3.out.aH fa)))
 have HWP:=ah (Nat.le_trans dN.out.size (Nat.le_trans HF2.out.size HF3.out.size))
 clear hpl fa HN MQ HST HV dN HF2 HF3 HB3
 have Dk:=ah (jQ.first n)
 have HZ:=ah (fun vis (st:List bI) j (g:jQ n j vis st) (hj:j≤31)=>(show(vis.map dQ).sum≤2000 from by have:=g.tot;omega))
 obtain⟨L,hL⟩:∃L,L=newL w1:=⟨_,rfl⟩
 rw[←hL]at dV MR
 clear hL
 obtain⟨b,hb⟩:∃b,b=w1.heap.size+1:=⟨_,rfl⟩
 rw[←hb]at dV⊢
 clear hb
 obtain⟨p1,hp1⟩:∃p1,p1=w2.heap.size+1:=⟨_,rfl⟩
 rw[←hp1]at dV nI dR⊢
 clear hp1
 have hz0:=aG nI.out 0 rfl
 have hz1:=aG nI.out 1 rfl
 obtain⟨W4,FI⟩:∃W4,W4=w3.alloc (.cells #[.slice (some ⟨p1,0,none⟩) n n, .slice none 0 0] 62):=⟨_,rfl⟩
 rw[←FI]at dV nI dR hz0 hz1⊢
 clear FI
 have HIS:=ah (dV.out.is Dk.out.vg (HZ.out _ _ _ Dk.out (by omega)))
 generalize hpw:w3.heap.size=pw at*
 clear hpw
 have hbw:=lt_of_block nI.out
 go_upto_region 9 with(go_at_call 29;refine HIS.out.mono ?_;rintro e w5 ⟨rfl,hf5⟩;have iV:=ah hf5;clear hf5 hz0 hz1 hbw HIS)
 have zK:=ah (fun hl:L pw=>(by have:=(MR.out pw hl).2;omega:False))
 go_wp2
 go_loopw [48] (fun iv W=>∃(j:Nat) (L:Nat→Prop) (vv sv:Value) (vis:List bY) (st:List bI),j≤m∧iv= .int .i64 j∧aj aF w W∧(∀k,L k→w.heap.size≤k)∧¬L pw∧lM L W b n vv sv vis st∧jQ n j vis st∧W.heap[pw]?=some (.cells #[vv,sv] 62 (0,0))) (fun iv _=>m-(intOf iv).toNat)
 case atStart=>exact⟨0,L,_,_,_,_,Nat.zero_le _,rfl,dR.out.aH iV.out,fun k hk=>(MR.out k hk).1,zK.out,dV.out.aS iV.out,Dk.out,iV.out.blk nI.out id⟩
 case round=>
  clear dV MR nI zK Dk dR iV
  clear L
  obtain⟨j,L,vv,sv,vis,st,hj,rfl,hf,hL,hnw,hpl,hpg,hbx⟩:=hrel
  have HF:=ah hf
  have HL:=ah hL
  have zK:=ah hnw
  have dV:=ah hpl
  have Dk:=ah hpg
  obtain⟨a0,c0,a1,c1,rfl,rfl⟩:=hpl.2.shape
  have bW:=ah hbx
  clear hf hL hnw hpl hpg hbx
  by_cases hlt:j<m
  ·have hjl:j<l.length:=by rw[←HM.out];exact hlt
   have hai:=HR.out _ HF.out
   obtain⟨hkd,-,-,q4,q5,q6,q7⟩:=hai.each _ (getD_mem default hjl)
   obtain⟨-,-,-,q0,-⟩:=(HR.out w (aj.refl aF w)).each _ (getD_mem default hjl)
   have hrd:=hai.rd
   have hcc:=TJ l j hjl
   generalize l.getD j default=A at*
   rw[←HM.out]at hrd
   rcases hrd with⟨ad,he,h0,_⟩|⟨p,off,cc,he,hmc,hcm,hcell⟩
   ·omega
   injection he with e1 e2 e3
   subst e1 e3
   clear e2
   have hpw:=HVP.out p off rfl (by omega)
   obtain⟨kind,bf,sh,q⟩:=A
   replace hkd:(Lit.int .u8 kind).wf=true:=hkd
   replace q4:dU (fun _=>True) wr q.ev q.kv q.cv q.es q.ks q.c:=q4
   replace q0:dU (fun _=>True) w q.ev q.kv q.cv q.es q.ks q.c:=q0
   replace q5:lF q.es q.ks:=q5
   replace q6:kU q.c:=q6
   replace q7:q.c.length≤140737488351232:=q7
   obtain⟨b0,d0,b1,d1,b2,d2,k1,k2,k3⟩:=q4.shape
   have y0:wr.cell? ⟨p,off+j*6,none⟩=some (.int .u8 kind):=hcell (j*6) _ (hcc 0 (by decide))
   have y1:wr.cell? ⟨p,off+j*6+1,none⟩=some (.int .i64 bf):=hcell (j*6+1) _ (hcc 1 (by decide))
   have y2:wr.cell? ⟨p,off+j*6+2,none⟩=some (.int .i64 sh):=hcell (j*6+2) _ (hcc 2 (by decide))
   have y3:wr.cell? ⟨p,off+j*6+3,none⟩=some (.slice b0 q.es.length d0):=hcell (j*6+3) _ ((hcc 3 (by decide)).trans (congrArg some k1))
   have y4:wr.cell? ⟨p,off+j*6+4,none⟩=some (.slice b1 q.ks.len d1):=hcell (j*6+4) _ ((hcc 4 (by decide)).trans (congrArg some k2))
   have y5:wr.cell? ⟨p,off+j*6+5,none⟩=some (.slice b2 q.c.length d2):=hcell (j*6+5) _ ((hcc 5 (by decide)).trans (congrArg some k3))
   have hb0:=World.block_lt_of_cell? _ _ y0
   have HNP:=ah (fun(hl:L p)=>(by have:=HL.out p hl;omega:False))
   have TK:=af7 (fun _=>True) q.es q.ks q.c 30 wr _ _ _ q4 q5 q7 (by decide) (by decide)
   rw[k1,k2,k3]at TK
   have lS:=ah (show Calls Tryz.prog 30 #[.agg #[.slice b0 q.es.length d0, .slice b1 q.ks.len d1, .slice b2 q.c.length d2], .int .i64 30] wr fun e w'=>e= .returned (.bool (EW q))∧aj aF wr w' from TK)
   have MS:=ah (fun Y (f:aj aF wr Y) (hs:EW q=true)=>(show ∃Jh st',jQ n (j+1) Jh st'∧Calls Tryz.prog 31 #[.pointer (some ⟨b,0,none⟩), .agg #[.slice a0 n c0, .slice a1 st.length c1], .agg #[.int .u8 kind, .int .i64 bf, .int .i64 sh, .slice b0 q.es.length d0, .slice b1 q.ks.len d1, .slice b2 q.c.length d2]] Y (Bg L Y b n Jh st')from by
    obtain⟨g1,g2,g3⟩:=aiN hs q5 q6
    have:=aiR.out L Y b n j _ _ vis st ⟨kind,bf,sh,q⟩ (dV.out.aS f) Dk.out (by omega) hkd (ags q0 (HF.out.aH f) HL.out) g1 g2 g3
    rw[k1,k2,k3]at this
    exact this))
   generalize EW q=bq at*
   generalize q.es.length=m0 at*
   generalize q.ks.len=m1 at*
   generalize q.c.length=m2 at*
   clear hcc hcell q4 q5 q6 q7 q0 k1 k2 k3 TK hkd hai hjl
   clear q
   have hki:(j:Int)<(m:Int):=by omega
   have hkc:(j:Int)+1≤(cp:Int):=by omega
   have hcx:(cp:Int)≤9223372036854775807:=by simp only[maxLen]at hcm;omega
   cases bq with
   |false=>
    clear MS
    go_wp2_with(go_at_call 30;refine lS.out.mono ?_;rintro e w6 ⟨rfl,jO⟩;have HF6:=ah jO;clear jO)
    go_ret
    exact⟨rfl,HF.out.aH HF6.out⟩
   |true=>
    go_upto_region 14 with(go_at_call 30;refine lS.out.mono ?_;rintro e w6 ⟨rfl,jO⟩;have HF6:=ah jO;have z0:=jO.cell' y0 id;have z1:=jO.cell' y1 id;have z2:=jO.cell' y2 id;have z3:=jO.cell' y3 id;have z4:=jO.cell' y4 id;have z5:=jO.cell' y5 id;clear jO y0 y1 y2 y3 y4 y5 hb0)
    have HY1:=ah z1
    go_cut [10,11] (fun v10 v11 W=>∃(pn:Nat) (L2:Nat→Prop) (mO iQ:Value) (yF:List bY) (st2:List bI),v10= .pointer (some ⟨pn,0,none⟩)∧v11= .bool true∧aj aF w W∧W.cell? ⟨p,off+j*6+1,none⟩=some (.int .i64 bf)∧(∀k,L2 k→w.heap.size≤k)∧¬L2 pw∧pn≠pw∧lM L2 W b n mO iQ yF st2∧jQ n (j+1) yF st2∧W.heap[pn]?=some (.cells #[mO,iQ] 62 (0,0))∧W.heap[pw]?=some (.cells #[.slice a0 n c0, .slice a1 st.length c1] 62 (0,0)))
    case first=>
     have dJ:=ah (fun N Y Y' (f:aj N Y Y') (hn:¬N pw∧¬N p) (hS:Y.cell? ⟨pw,0,none⟩=some (.slice a0 n c0)∧Y.cell? ⟨pw,1,none⟩=some (.slice a1 st.length c1)∧Y.cell? ⟨p,off+j*6,none⟩=some (.int .u8 kind)∧Y.cell? ⟨p,off+j*6+1,none⟩=some (.int .i64 bf)∧Y.cell? ⟨p,off+j*6+2,none⟩=some (.int .i64 sh)∧Y.cell? ⟨p,off+j*6+3,none⟩=some (.slice b0 m0 d0)∧Y.cell? ⟨p,off+j*6+4,none⟩=some (.slice b1 m1 d1)∧Y.cell? ⟨p,off+j*6+5,none⟩=some (.slice b2 m2 d2))=>
      (⟨f.cell' hS.1 hn.1,f.cell' hS.2.1 hn.1,f.cell' hS.2.2.1 hn.2,f.cell' hS.2.2.2.1 hn.2,f.cell' hS.2.2.2.2.1 hn.2,f.cell' hS.2.2.2.2.2.1 hn.2,f.cell' hS.2.2.2.2.2.2.1 hn.2,f.cell' hS.2.2.2.2.2.2.2 hn.2⟩:Y'.cell? ⟨pw,0,none⟩=some (.slice a0 n c0)∧Y'.cell? ⟨pw,1,none⟩=some (.slice a1 st.length c1)∧Y'.cell? ⟨p,off+j*6,none⟩=some (.int .u8 kind)∧Y'.cell? ⟨p,off+j*6+1,none⟩=some (.int .i64 bf)∧Y'.cell? ⟨p,off+j*6+2,none⟩=some (.int .i64 sh)∧Y'.cell? ⟨p,off+j*6+3,none⟩=some (.slice b0 m0 d0)∧Y'.cell? ⟨p,off+j*6+4,none⟩=some (.slice b1 m1 d1)∧Y'.cell? ⟨p,off+j*6+5,none⟩=some (.slice b2 m2 d2)))
     have hbw:=HF6.out.blk bW.out id
     have dH:=dJ.out aF _ _ (aj.drew aF _) ⟨id,id⟩ ⟨aG hbw 0 rfl,aG hbw 1 rfl,z0,z1,z2,z3,z4,z5⟩
     have gX:=ah ((aj.drew aF _).blk hbw id)
     have bJ:=ah (HF6.out.aH (aj.drew aF _))
     clear hbw z0 z1 z2 z3 z4 z5
     refine iq (S:=fun Y=>Y.cell? ⟨pw,0,none⟩=some (.slice a0 n c0)∧Y.cell? ⟨pw,1,none⟩=some (.slice a1 st.length c1)∧Y.cell? ⟨p,off+j*6,none⟩=some (.int .u8 kind)∧Y.cell? ⟨p,off+j*6+1,none⟩=some (.int .i64 bf)∧Y.cell? ⟨p,off+j*6+2,none⟩=some (.int .i64 sh)∧Y.cell? ⟨p,off+j*6+3,none⟩=some (.slice b0 m0 d0)∧Y.cell? ⟨p,off+j*6+4,none⟩=some (.slice b1 m1 d1)∧Y.cell? ⟨p,off+j*6+5,none⟩=some (.slice b2 m2 d2)) 15 (by kernel_rfl) dH ?_
     clear dH
     intro hS
     generalize World.drew _=Y0 at*
     refine aY 0 59 rfl rfl ?_
     refine aY 1 60 rfl rfl ?_
     try simp only[Act.put,aO,aN,aJ]
     refine aY 2 61 rfl rfl ?_
     refine aY 3 62 rfl rfl ?_
     try simp only[Act.put,aO,aN,aJ]
     refine aY 4 63 rfl rfl ?_
     refine aY 5 64 rfl rfl ?_
     try simp only[Act.put,aO,aN,aJ]
     refine nU (i:=6) (j:=10) (by kernel_rfl) rfl rfl (fun K hK=>?_) (fun K hK=>?_)
     ·go_simp
      obtain⟨yF,st2,hg2,hc2⟩:=MS.out _ bJ.out (by trivial)
      refine hc2.mono ?_
      rintro e Y1 ⟨mO,iQ,L2,rfl,ht,hpl⟩
      obtain⟨u0,v0,u1,v1,rfl,rfl⟩:=hpl.2.shape
      have TL:=lt_of_block gX.out
      have HF2:=ah ((HF.out.aH bJ.out).trans ht.aI fun k hk hl=>by have:=HL.out k hl;omega)
      have HL2:=ah (fun k (hk:L2 k)=>(show w.heap.size≤k from(ht.own k hk).elim (HL.out k) fun g=>by have:=HF.out.size;have:=bJ.out.size;omega))
      have TM:=ah (show ¬L2 pw from fun hl=>(ht.own pw hl).elim zK.out fun g=>by omega)
      have wZ:=ah (ht.aI.blk gX.out zK.out)
      have w_:=ah hpl
      have HG2:=ah hg2
      (try(have g:=ht.aI.blk xg.out.1 xg.out.2;have TN:=lt_of_block xg.out.1;have oL:=ah (⟨g,fun hl=>(ht.own _ hl).elim xg.out.2 fun g=>by omega⟩:_∧¬L2 Y0.heap.size);clear g TN xg))
      have hS1:=dJ.out L _ _ ht.aI ⟨zK.out,HNP.out⟩ hS
      refine hK.out _ _ hS1 ?_
      clear hK K hS ht hpl hg2 hc2 TL bJ gX
      have hS:=hS1
      clear hS1
      try simp only[Act.put,aO,aN,aJ]
      refine aY 7 58 rfl rfl ?_
      refine aY 8 66 rfl rfl ?_
      try simp only[Act.put,aO,aN,aJ]
      refine aY 9 67 rfl rfl ?_
      try simp only[Act.put,aO,aN,aJ]
      refine bg (i:=10) (by kernel_rfl) rfl (fun K hK=>?_)
      go_simp
      refine qU _ _ _ (fun Y2 hf2 hb2 hs2=>?_)
      have hS1:=dJ.out aF _ _ hf2 ⟨id,id⟩ hS
      first
       |(have hbl:=lt_of_block wZ.out
         have iE:=ah (⟨by omega,by have:=HF2.out.size;omega⟩:Y1.heap.size≠pw∧w.heap.size≤Y1.heap.size)
         have oL:=ah (⟨hb2,fun hl=>by have:=w_.out.Ls _ hl;omega⟩:_∧¬L2 Y1.heap.size)
         have g1:=w_.out.aS hf2
         have g2:=hf2.blk wZ.out id
         have g3:=HF2.out.aH hf2
         clear w_ wZ HF2
         have w_:=ah g1
         have wZ:=ah g2
         have HF2:=ah g3
         clear g1 g2 g3 hbl)
       |(have hbl:=lt_of_block gX.out
         have iE:=ah (⟨by omega,by have:=HF.out.size;have:=bJ.out.size;omega⟩:Y0.heap.size≠pw∧w.heap.size≤Y0.heap.size)
         have xg:=ah (⟨hb2,fun hl=>by have:=dV.out.Ls _ hl;have:=bJ.out.size;omega⟩:_∧¬L Y0.heap.size)
         have g2:=hf2.blk gX.out id
         have g3:=bJ.out.aH hf2
         clear gX bJ
         have gX:=ah g2
         have bJ:=ah g3
         clear g2 g3 hbl)
      refine hK.out _ _ hS1 ?_
      clear hK K hS hf2 hb2 hs2
      have hS:=hS1
      clear hS1
      try simp only[Act.put,aO,aN,aJ]
      refine bg (i:=11) (by kernel_rfl) rfl (fun K hK=>?_)
      have z0:=aG oL.out.1 0 rfl
      have z1:=aG oL.out.1 1 rfl
      have e0:=aW oL.out.1 0
      have e1:=aW oL.out.1 1
      have hbl:=lt_of_block oL.out.1
      obtain⟨se,sf⟩:=zI oL.out.1 (.slice u0 n v0) (.slice u1 st2.length v1)
      have bH:=ah se
      have bU:=ah sf
      clear se sf
      go_simp
      have hS1:=dJ.out _ _ _ bU.out ⟨fun e=>iE.out.1 e.symm,fun e=>by have:=iE.out.2;omega⟩ hS
      refine hK.out _ _ hS1 ?_
      clear hK K hS z0 z1 e0 e1 hbl
      have hS:=hS1
      clear hS1
      try simp only[Act.put,aO,aN,aJ]
      refine bg (i:=12) (by kernel_rfl) rfl (fun K hK=>?_)
      go_simp
      refine hK.out _ _ hS ?_
      clear hK K
      refine mF (by kernel_rfl) ?_
      go_wp2
      go_meet
      case rel=>exact⟨_,L2,_,_,yF,st2,rfl,rfl,HF2.out.trans bU.out fun k hk e=>(by have:=iE.out.2;omega),hS.2.2.2.1,HL2.out,TM.out,iE.out.1,w_.out.off (ru.of oL.out.1) oL.out.2 bU.out,HG2.out,bH.out,bU.out.blk wZ.out fun e=>iE.out.1 e.symm⟩
     ·go_simp
      refine qU _ _ _ (fun Y2 hf2 hb2 hs2=>?_)
      have hS1:=dJ.out aF _ _ hf2 ⟨id,id⟩ hS
      first
       |(have hbl:=lt_of_block wZ.out
         have iE:=ah (⟨by omega,by have:=HF2.out.size;omega⟩:Y1.heap.size≠pw∧w.heap.size≤Y1.heap.size)
         have oL:=ah (⟨hb2,fun hl=>by have:=w_.out.Ls _ hl;omega⟩:_∧¬L2 Y1.heap.size)
         have g1:=w_.out.aS hf2
         have g2:=hf2.blk wZ.out id
         have g3:=HF2.out.aH hf2
         clear w_ wZ HF2
         have w_:=ah g1
         have wZ:=ah g2
         have HF2:=ah g3
         clear g1 g2 g3 hbl)
       |(have hbl:=lt_of_block gX.out
         have iE:=ah (⟨by omega,by have:=HF.out.size;have:=bJ.out.size;omega⟩:Y0.heap.size≠pw∧w.heap.size≤Y0.heap.size)
         have xg:=ah (⟨hb2,fun hl=>by have:=dV.out.Ls _ hl;have:=bJ.out.size;omega⟩:_∧¬L Y0.heap.size)
         have g2:=hf2.blk gX.out id
         have g3:=bJ.out.aH hf2
         clear gX bJ
         have gX:=ah g2
         have bJ:=ah g3
         clear g2 g3 hbl)
      refine hK.out _ _ hS1 ?_
      clear hK K hS hf2 hb2 hs2
      have hS:=hS1
      clear hS1
      try simp only[Act.put,aO,aN,aJ]
      refine bg (i:=6) (by kernel_rfl) rfl (fun K hK=>?_)
      go_simp
      obtain⟨yF,st2,hg2,hc2⟩:=MS.out _ bJ.out (by trivial)
      refine hc2.mono ?_
      rintro e Y1 ⟨mO,iQ,L2,rfl,ht,hpl⟩
      obtain⟨u0,v0,u1,v1,rfl,rfl⟩:=hpl.2.shape
      have TL:=lt_of_block gX.out
      have HF2:=ah ((HF.out.aH bJ.out).trans ht.aI fun k hk hl=>by have:=HL.out k hl;omega)
      have HL2:=ah (fun k (hk:L2 k)=>(show w.heap.size≤k from(ht.own k hk).elim (HL.out k) fun g=>by have:=HF.out.size;have:=bJ.out.size;omega))
      have TM:=ah (show ¬L2 pw from fun hl=>(ht.own pw hl).elim zK.out fun g=>by omega)
      have wZ:=ah (ht.aI.blk gX.out zK.out)
      have w_:=ah hpl
      have HG2:=ah hg2
      (try(have g:=ht.aI.blk xg.out.1 xg.out.2;have TN:=lt_of_block xg.out.1;have oL:=ah (⟨g,fun hl=>(ht.own _ hl).elim xg.out.2 fun g=>by omega⟩:_∧¬L2 Y0.heap.size);clear g TN xg))
      have hS1:=dJ.out L _ _ ht.aI ⟨zK.out,HNP.out⟩ hS
      refine hK.out _ _ hS1 ?_
      clear hK K hS ht hpl hg2 hc2 TL bJ gX
      have hS:=hS1
      clear hS1
      try simp only[Act.put,aO,aN,aJ]
      refine aY 7 58 rfl rfl ?_
      refine aY 8 66 rfl rfl ?_
      try simp only[Act.put,aO,aN,aJ]
      refine aY 9 67 rfl rfl ?_
      try simp only[Act.put,aO,aN,aJ]
      refine bg (i:=11) (by kernel_rfl) rfl (fun K hK=>?_)
      have z0:=aG oL.out.1 0 rfl
      have z1:=aG oL.out.1 1 rfl
      have e0:=aW oL.out.1 0
      have e1:=aW oL.out.1 1
      have hbl:=lt_of_block oL.out.1
      obtain⟨se,sf⟩:=zI oL.out.1 (.slice u0 n v0) (.slice u1 st2.length v1)
      have bH:=ah se
      have bU:=ah sf
      clear se sf
      go_simp
      have hS1:=dJ.out _ _ _ bU.out ⟨fun e=>iE.out.1 e.symm,fun e=>by have:=iE.out.2;omega⟩ hS
      refine hK.out _ _ hS1 ?_
      clear hK K hS z0 z1 e0 e1 hbl
      have hS:=hS1
      clear hS1
      try simp only[Act.put,aO,aN,aJ]
      refine bg (i:=12) (by kernel_rfl) rfl (fun K hK=>?_)
      go_simp
      refine hK.out _ _ hS ?_
      clear hK K
      refine mF (by kernel_rfl) ?_
      go_wp2
      go_meet
      case rel=>exact⟨_,L2,_,_,yF,st2,rfl,rfl,HF2.out.trans bU.out fun k hk e=>(by have:=iE.out.2;omega),hS.2.2.2.1,HL2.out,TM.out,iE.out.1,w_.out.off (ru.of oL.out.1) oL.out.2 bU.out,HG2.out,bH.out,bU.out.blk wZ.out fun e=>iE.out.1 e.symm⟩
    case rest=>
     obtain⟨pn,L2,mO,iQ,yF,st2,rfl,rfl,gV,hy7,rM,hn7,aag,vS,MV,hb7,hw7⟩:=hcut
     obtain⟨W7,rfl⟩:∃W7,W7=wc:=⟨_,rfl⟩
     clear MS dV Dk bW HF6 z0 z1 z2 z3 z4 z5 lS HY1
     have oJ:=ah gV
     have uM:=ah rM
     have HN7:=ah hn7
     have iE:=ah aag
     have HP7:=ah vS
     have HG7:=ah MV
     have Fz:=ah hb7
     have vw:=ah hw7
     have HY7:=ah hy7
     have HMP:=ah (fun Y (f:aj aF W7 Y)=>(vS.aS f).aiJ bf)
     have HMR:=ah (fun Y (f:aj aF W7 Y)=>(vS.aS f).aiK bf)
     have HIS:=ah (fun Y (f:aj aF W7 Y)=>(vS.aS f).is MV.vg (HZ.out _ _ _ MV (by omega)))
     obtain⟨u0,v0,u1,v1,rfl,rfl⟩:=vS.2.shape
     clear gV hy7 rM hn7 aag vS MV hb7 hw7
     go_upto_region 15 with fail
     go_cut [92] (fun v W=>v= .bool false∧aj aF W7 W)
     case first=>
      have dJ:=ah (fun Y Y' (f:aj aF Y Y') (hS:aj aF W7 Y∧Y.cell? ⟨pn,0,none⟩=some (.slice u0 n v0)∧Y.cell? ⟨pn,1,none⟩=some (.slice u1 st2.length v1)∧Y.cell? ⟨p,off+j*6+1,none⟩=some (.int .i64 bf))=>
       (⟨hS.1.aH f,f.cell' hS.2.1 id,f.cell' hS.2.2.1 id,f.cell' hS.2.2.2 id⟩:aj aF W7 Y'∧Y'.cell? ⟨pn,0,none⟩=some (.slice u0 n v0)∧Y'.cell? ⟨pn,1,none⟩=some (.slice u1 st2.length v1)∧Y'.cell? ⟨p,off+j*6+1,none⟩=some (.int .i64 bf)))
      have dH:=dJ.out _ _ (aj.drew aF _) ⟨aj.refl aF W7,aG Fz.out 0 rfl,aG Fz.out 1 rfl,HY7.out⟩
      refine iq (S:=fun Y=>aj aF W7 Y∧Y.cell? ⟨pn,0,none⟩=some (.slice u0 n v0)∧Y.cell? ⟨pn,1,none⟩=some (.slice u1 st2.length v1)∧Y.cell? ⟨p,off+j*6+1,none⟩=some (.int .i64 bf)) 26 (by kernel_rfl) dH ?_
      clear dH
      intro hS
      generalize World.drew _=Y0 at*
      generalize mZ bf st2=M at*
      refine aY 0 68 rfl rfl ?_
      refine aY 1 69 rfl rfl ?_
      try simp only[Act.put,aO,aN,aJ]
      refine aY 2 70 rfl rfl ?_
      refine aY 3 71 rfl rfl ?_
      try simp only[Act.put,aO,aN,aJ]
      refine aY 4 72 rfl rfl ?_
      refine aY 5 73 rfl rfl ?_
      try simp only[Act.put,aO,aN,aJ]
      refine aY 6 74 rfl rfl ?_
      refine aY 7 75 rfl rfl ?_
      try simp only[Act.put,aO,aN,aJ]
      refine aY 8 76 rfl rfl ?_
      refine aY 10 78 rfl rfl ?_
      try simp only[Act.put,aO,aN,aJ]
      refine aY 11 79 rfl rfl ?_
      refine aY 12 80 rfl rfl ?_
      try simp only[Act.put,aO,aN,aJ]
      refine aY 13 81 rfl rfl ?_
      refine aY 14 82 rfl rfl ?_
      try simp only[Act.put,aO,aN,aJ]
      refine aY 15 83 rfl rfl ?_
      try simp only[Act.put,aO,aN,aJ]
      refine bg (i:=9) (by kernel_rfl) rfl (fun K hK=>?_)
      go_simp
      refine(HMP.out _ hS.1).mono ?_
      rintro e Y1 ⟨rfl,hf1⟩
      have hS1:=dJ.out _ _ hf1 hS
      refine hK.out _ _ hS1 ?_
      clear hK K hS hf1
      have hS:=hS1
      clear hS1
      try simp only[Act.put,aO,aN,aJ]
      refine bg (i:=16) (by kernel_rfl) rfl (fun K hK=>?_)
      go_simp
      refine(HMR.out _ hS.1).mono ?_
      rintro e Y2 ⟨rfl,hf1⟩
      have hS1:=dJ.out _ _ hf1 hS
      refine hK.out _ _ hS1 ?_
      clear hK K hS hf1
      have hS:=hS1
      clear hS1
      try simp only[Act.put,aO,aN,aJ]
      refine aY 17 85 rfl rfl ?_
      refine aY 18 86 rfl rfl ?_
      try simp only[Act.put,aO,aN,aJ]
      refine aY 19 87 rfl rfl ?_
      refine aY 20 88 rfl rfl ?_
      try simp only[Act.put,aO,aN,aJ]
      refine aY 21 89 rfl rfl ?_
      try simp only[Act.put,aO,aN,aJ]
      refine bg (i:=22) (by kernel_rfl) rfl (fun K hK=>?_)
      go_simp
      refine(HIS.out _ hS.1).mono ?_
      rintro e Y3 ⟨rfl,hf1⟩
      have hS1:=dJ.out _ _ hf1 hS
      refine hK.out _ _ hS1 ?_
      clear hK K hS hf1
      have hS:=hS1
      clear hS1
      try simp only[Act.put,aO,aN,aJ]
      refine aY 23 91 rfl rfl ?_
      try simp only[Act.put,aO,aN,aJ]
      refine bg (i:=24) (by kernel_rfl) rfl (fun K hK=>?_)
      go_simp
      refine hK.out _ _ hS ?_
      clear hK K
      refine mF (by kernel_rfl) ?_
      go_wp2
      go_meet
      case rel=>exact⟨rfl,hS.1⟩
     case rest=>
      obtain⟨rfl,hfr⟩:=hcut
      obtain⟨W8,rfl⟩:∃W8,W8=wc:=⟨_,rfl⟩
      clear HMP HMR HIS
      have iU:=ah hfr
      have hbn:=hfr.blk Fz.out id
      have hbw:=hfr.blk vw.out id
      have z0:=aG hbn 0 rfl
      have z1:=aG hbn 1 rfl
      have w0:=aG hbw 0 rfl
      have w1:=aG hbw 1 rfl
      have e0:=aW hbw 0
      have e1:=aW hbw 1
      have hl0:=lt_of_block hbn
      have hl1:=lt_of_block hbw
      obtain⟨se,sf⟩:=zI hbw (.slice u0 n v0) (.slice u1 st2.length v1)
      have nI:=ah hbw
      have bH:=ah se
      have bU:=ah sf
      clear se sf hbn hbw hfr
      go_wp2
      go_roundw
      case rel=>exact⟨j+1,L2,_,_,yF,st2,by omega,by go_num,(oJ.out.aH iU.out).trans bU.out fun k hk e=>(by have:=HWP.out;omega),uM.out,HN7.out,(HP7.out.aS iU.out).off (ru.of nI.out) HN7.out bU.out,HG7.out,bH.out⟩
      case measure=>simp[intOf];omega
  ·have hjm:¬(j:Int)<(m:Int):=by omega
   go_wp2
   go_ret
   exact⟨rfl,HF.out⟩
end Go.Proofs.YtlhmbkjdfjoilaaGreat
