/- Words for the law ShardPlays: Pj1, Pj2, Pj4, Pj5. -/
import Derived.Test.YtlhmbkjdfjoilaaGreatShardPlaysG0
import Derived.Test.YtlhmbkjdfjoilaaGreatShardPlaysG3
import Derived.Test.YtlhmbkjdfjoilaaGreatShardPlaysG4
import Derived.Test.YtlhmbkjdfjoilaaGreatShardPlaysG6
import Derived.Test.YtlhmbkjdfjoilaaGreatShardPlaysG9
import Derived.Test.YtlhmbkjdfjoilaaGreatShardPlaysG13
import Derived.Test.YtlhmbkjdfjoilaaGreatShardPlaysG15
import Derived.Test.YtlhmbkjdfjoilaaGreatShardPlaysG19
import Derived.Test.YtlhmbkjdfjoilaaGreatShardPlaysG23
set_option linter.unusedSimpArgs false
set_option linter.unusedVariables false
set_option maxHeartbeats 32000000
set_option maxRecDepth 1000000
namespace Go.Proofs.YtlhmbkjdfjoilaaGreat
abbrev Tr:=List aQ×aT
def tu:List ByteArray→Tr→List aQ
 |[],t=>t.1
 |k::p,t=>tu p (t.2.find k)
theorem LK:∀p:List ByteArray,tu p ([], .nil)=[]
 |[]=>rfl
 |_::p=>LK p
theorem agB {k:ByteArray} {p:List ByteArray} {e:aQ} {L:List Lf}:(p,e)∈kX k L↔(k::p,e)∈L:=by
 unfold kX
 rw[List.mem_flatMap]
 constructor
 ·rintro⟨⟨q,f⟩,h1,h2⟩
  unfold wF at h2
  cases q with
  |nil=>cases h2
  |cons k' q=>
   simp only at h2
   split at h2
   ·next h=>simp at h2;obtain⟨rfl,rfl⟩:=h2;subst h;exact h1
   ·cases h2
 ·intro h
  exact⟨_,h,by simp[wF]⟩
theorem AV {d:Nat} {es:List aQ} {ks:aT} (h:bM d es ks=true):∃d',d=d'+1:=by
 simp only[bM,Bool.and_eq_true,decide_eq_true_eq]at h
 exact⟨d-1,by have:=h.1.1;omega⟩
theorem Yx:∀(p:List ByteArray) (d:Nat) (es:List aQ) (ks:aT),bM d es ks=true→∀e,((p,e)∈dI es ks↔e∈tu p (es,ks))
 |[],d,es,ks,h,e=>by
  unfold dI
  rw[List.mem_append]
  constructor
  ·rintro(h|h)
   ·obtain⟨x,hx,he⟩:=List.mem_map.1 h
    injection he with _ he
    subst he
    exact hx
   ·exact absurd rfl (Hl h)
  ·exact fun h=> .inl (List.mem_map.2 ⟨e,h,rfl⟩)
 |k::p,d,es,ks,h,e=>by
  obtain⟨d,rfl⟩:=AV h
  obtain⟨_,h2⟩:=oZ h
  have o:=(qO _ _ _ h2).1
  have h0:((k::p,e)∈dI es ks↔(k::p,e)∈fZ ks):=by
   unfold dI
   rw[List.mem_append]
   exact⟨fun h=>h.elim (fun h=>by obtain⟨x,hx,he⟩:=List.mem_map.1 h;cases he) id, .inr⟩
  rw[h0,←agB]
  show _↔e∈tu p (ks.find k)
  by_cases hm:k∈ks.keys
  ·rw[PZ o hm]
   exact Yx p d _ _ (xW h2 (xX h2 hm)) e
  ·rw[PY hm,(uZ _ _ _ k h2).2 hm,LK]
   simp
theorem agC {t:Tr} (h:isNil t.1 t.2=true):t=([], .nil):=by
 obtain⟨es,ks⟩:=t
 cases es<;>cases ks<;>simp[isNil,aT.len]at h⊢
theorem Rk (f:ByteArray→Tr) (k:ByteArray):∀M:List ByteArray,(k∈M→(gQ f M).find k=f k)∧(k∉M→(gQ f M).find k=([], .nil))
 |[]=>⟨fun h=>(by cases h),fun _=>rfl⟩
 |x::M=>by
  obtain⟨i1,i2⟩:=Rk f k M
  show(k∈x::M→(lZ x (f x) (gQ f M)).find k=f k)∧(k∉x::M→(lZ x (f x) (gQ f M)).find k=([], .nil))
  unfold lZ
  split
  ·next hn=>
   refine⟨fun h=>?_,fun h=>i2 fun g=>h (List.mem_cons_of_mem _ g)⟩
   by_cases g:k∈M
   ·exact i1 g
   ·rcases List.mem_cons.1 h with e|e
    ·rw[i2 g,e,agC hn]
    ·exact absurd e g
  ·show(k∈x::M→(if x=k then((f x).1,(f x).2)else(gQ f M).find k)=f k)∧(k∉x::M→(if x=k then((f x).1,(f x).2)else(gQ f M).find k)=([], .nil))
   by_cases e:x=k
   ·subst e
    exact⟨fun _=>if_pos rfl,fun h=>absurd (List.mem_cons_self ..) h⟩
   ·rw[if_neg e]
    refine⟨fun h=>i1 ?_,fun h=>i2 fun g=>h (List.mem_cons_of_mem _ g)⟩
    rcases List.mem_cons.1 h with g|g
    ·exact absurd g.symm e
    ·exact g
theorem agD (ha hb:Int→Int→Bool):iG ha hb [] []=[]:=by rw[iG]
theorem Yy (ha hb:Int→Int→Bool):∀(p:List ByteArray) (n d:Nat) (a b:Tr),d≤n→bM d a.1 a.2=true→bM d b.1 b.2=true→tu p (jM ha hb n a b)=iG ha hb (tu p a) (tu p b)
 |p,0,d,a,b,hd,h,_=>by obtain⟨d,rfl⟩:=AV h;omega
 |[],n+1,d,a,b,hd,_,_=>rfl
 |k::p,n+1,d,a,b,hd,h1,h2=>by
  obtain⟨d,rfl⟩:=AV h1
  obtain⟨_,k1⟩:=oZ h1
  obtain⟨_,k2⟩:=oZ h2
  show tu p ((gQ (fun k=>jM ha hb n (a.2.find k) (b.2.find k)) (kW a.2.keys b.2.keys)).find k)=iG ha hb (tu p (a.2.find k)) (tu p (b.2.find k))
  by_cases hm:k∈kW a.2.keys b.2.keys
  ·rw[(Rk _ k _).1 hm]
   have hd1:1≤d:=by
    rcases(uq _ _ _).1 hm with g|g
    ·exact xX k1 g
    ·exact xX k2 g
   exact Yy ha hb p n d _ _ (by omega) (xW k1 hd1) (xW k2 hd1)
  ·rw[(Rk _ k _).2 hm]
   have hm1:k∉a.2.keys:=fun g=>hm ((uq _ _ _).2 (.inl g))
   have hm2:k∉b.2.keys:=fun g=>hm ((uq _ _ _).2 (.inr g))
   rw[(uZ _ _ _ k k1).2 hm1,(uZ _ _ _ k k2).2 hm2,LK,agD]
def mM (x y:aQ):Prop:=x.dc=y.dc∧x.n=y.n
instance (x y:aQ):Decidable (mM x y):=inferInstanceAs (Decidable (_∧_))
def nK (ha hb:Int→Int→Bool) (A B:List aQ) (e:aQ):Prop:=
 (∃x∈A,∃y∈B,mM x y∧e=nX x y)∨(e∈A∧(∀y∈B,¬mM e y)∧hb e.dc e.n=false)∨(e∈B∧(∀x∈A,¬mM x e)∧ha e.dc e.n=false)
theorem Iw {x y:aQ} (h:ltD x y=true):¬mM x y:=fun g=>by rw[uo]at h;have h1:=g.1;have h2:=g.2;omega
theorem LM {x y:aQ} (h:ltD x y=true):¬mM y x:=fun g=>by rw[uo]at h;have h1:=g.1;have h2:=g.2;omega
theorem Iy {x y:aQ} (h:mM x y):mM y x:=⟨h.1.symm,h.2.symm⟩
theorem nK.Yz {ha hb:Int→Int→Bool} {x:aQ} {A B:List aQ} {e:aQ} (h:∀z∈B,¬mM x z):nK ha hb (x::A) B e↔(e=x∧hb x.dc x.n=false)∨nK ha hb A B e:=by
 unfold nK
 constructor
 ·rintro(⟨u,hu,y,hy,g1,g2⟩|⟨hu,g1,g2⟩|⟨hu,g1,g2⟩)
  ·rcases List.mem_cons.1 hu with rfl|hu
   ·exact absurd g1 (h y hy)
   ·exact .inr (.inl ⟨u,hu,y,hy,g1,g2⟩)
  ·rcases List.mem_cons.1 hu with rfl|hu
   ·exact .inl ⟨rfl,g2⟩
   ·exact .inr (.inr (.inl ⟨hu,g1,g2⟩))
  ·exact .inr (.inr (.inr ⟨hu,fun z hz=>g1 z (List.mem_cons_of_mem _ hz),g2⟩))
 ·rintro(⟨rfl,g⟩|⟨u,hu,y,hy,g1,g2⟩|⟨hu,g1,g2⟩|⟨hu,g1,g2⟩)
  ·exact .inr (.inl ⟨List.mem_cons_self ..,h,g⟩)
  ·exact .inl ⟨u,List.mem_cons_of_mem _ hu,y,hy,g1,g2⟩
  ·exact .inr (.inl ⟨List.mem_cons_of_mem _ hu,g1,g2⟩)
  ·refine .inr (.inr ⟨hu,fun z hz=>?_,g2⟩)
   rcases List.mem_cons.1 hz with rfl|hz
   ·exact h e hu
   ·exact g1 z hz
theorem nK.YA {ha hb:Int→Int→Bool} {y:aQ} {A B:List aQ} {e:aQ} (h:∀z∈A,¬mM z y):nK ha hb A (y::B) e↔(e=y∧ha y.dc y.n=false)∨nK ha hb A B e:=by
 unfold nK
 constructor
 ·rintro(⟨u,hu,z,hz,g1,g2⟩|⟨hu,g1,g2⟩|⟨hu,g1,g2⟩)
  ·rcases List.mem_cons.1 hz with rfl|hz
   ·exact absurd g1 (h u hu)
   ·exact .inr (.inl ⟨u,hu,z,hz,g1,g2⟩)
  ·exact .inr (.inr (.inl ⟨hu,fun z hz=>g1 z (List.mem_cons_of_mem _ hz),g2⟩))
  ·rcases List.mem_cons.1 hu with rfl|hu
   ·exact .inl ⟨rfl,g2⟩
   ·exact .inr (.inr (.inr ⟨hu,g1,g2⟩))
 ·rintro(⟨rfl,g⟩|⟨u,hu,z,hz,g1,g2⟩|⟨hu,g1,g2⟩|⟨hu,g1,g2⟩)
  ·exact .inr (.inr ⟨List.mem_cons_self ..,h,g⟩)
  ·exact .inl ⟨u,hu,z,List.mem_cons_of_mem _ hz,g1,g2⟩
  ·refine .inr (.inl ⟨hu,fun z hz=>?_,g2⟩)
   rcases List.mem_cons.1 hz with rfl|hz
   ·exact h e hu
   ·exact g1 z hz
  ·exact .inr (.inr ⟨List.mem_cons_of_mem _ hu,g1,g2⟩)
theorem nK.both {ha hb:Int→Int→Bool} {x y:aQ} {A B:List aQ} {e:aQ} (hd:mM x y) (h1:∀z∈B,¬mM x z) (h2:∀z∈A,¬mM z y):nK ha hb (x::A) (y::B) e↔e=nX x y∨nK ha hb A B e:=by
 unfold nK
 constructor
 ·rintro(⟨u,hu,z,hz,g1,g2⟩|⟨hu,g1,g2⟩|⟨hu,g1,g2⟩)
  ·rcases List.mem_cons.1 hu with rfl|hu
   ·rcases List.mem_cons.1 hz with rfl|hz
    ·exact .inl g2
    ·exact absurd g1 (h1 z hz)
   ·rcases List.mem_cons.1 hz with rfl|hz
    ·exact absurd g1 (h2 u hu)
    ·exact .inr (.inl ⟨u,hu,z,hz,g1,g2⟩)
  ·rcases List.mem_cons.1 hu with rfl|hu
   ·exact absurd hd (g1 y (List.mem_cons_self ..))
   ·exact .inr (.inr (.inl ⟨hu,fun z hz=>g1 z (List.mem_cons_of_mem _ hz),g2⟩))
  ·rcases List.mem_cons.1 hu with rfl|hu
   ·exact absurd hd (g1 x (List.mem_cons_self ..))
   ·exact .inr (.inr (.inr ⟨hu,fun z hz=>g1 z (List.mem_cons_of_mem _ hz),g2⟩))
 ·rintro(rfl|⟨u,hu,z,hz,g1,g2⟩|⟨hu,g1,g2⟩|⟨hu,g1,g2⟩)
  ·exact .inl ⟨x,List.mem_cons_self ..,y,List.mem_cons_self ..,hd,rfl⟩
  ·exact .inl ⟨u,List.mem_cons_of_mem _ hu,z,List.mem_cons_of_mem _ hz,g1,g2⟩
  ·refine .inr (.inl ⟨List.mem_cons_of_mem _ hu,fun z hz=>?_,g2⟩)
   rcases List.mem_cons.1 hz with rfl|hz
   ·exact h2 e hu
   ·exact g1 z hz
  ·refine .inr (.inr ⟨List.mem_cons_of_mem _ hu,fun z hz=>?_,g2⟩)
   rcases List.mem_cons.1 hz with rfl|hz
   ·exact h1 e hu
   ·exact g1 z hz
theorem LP {h:Int→Int→Bool} {x e:aQ}:e∈oC h x↔e=x∧h x.dc x.n=false:=by
 unfold oC
 cases h x.dc x.n<;>simp
theorem agE {ha hb:Int→Int→Bool} {A B:List aQ} (oa:A.Pairwise fun x y=>ltD x y=true) (ob:B.Pairwise fun x y=>ltD x y=true) (e:aQ):e∈iG ha hb A B↔nK ha hb A B e:=by
 fun_induction iG ha hb A B with
 |case1=>simp[nK]
 |case2 x a ih=>
  rw[List.mem_append,LP,ih (List.pairwise_cons.1 oa).2 ob,nK.Yz (fun z hz=>(by cases hz))]
 |case3 y b ih=>
  rw[List.mem_append,LP,ih oa (List.pairwise_cons.1 ob).2,nK.YA (fun z hz=>(by cases hz))]
 |case4 x a y b h ih=>
  rw[List.mem_append,LP,ih (List.pairwise_cons.1 oa).2 ob,nK.Yz (fun z hz=>?_)]
  rcases List.mem_cons.1 hz with rfl|hz
  ·exact Iw h
  ·exact Iw (Ku h ((List.pairwise_cons.1 ob).1 z hz))
 |case5 x a y b h h' ih=>
  rw[List.mem_append,LP,ih oa (List.pairwise_cons.1 ob).2,nK.YA (fun z hz=>?_)]
  rcases List.mem_cons.1 hz with rfl|hz
  ·exact LM h'
  ·exact LM (Ku h' ((List.pairwise_cons.1 oa).1 z hz))
 |case6 x a y b h h' ih=>
  have hd:mM x y:=by
   have h1:ltD x y=false:=by simpa using h
   have h2:ltD y x=false:=by simpa using h'
   rw[Ej]at h1 h2
   exact⟨by omega,by omega⟩
  have e1:∀z,ltD y z=true→ltD x z=true:=fun z g=>by rw[uo]at g⊢;have:=hd.1;have:=hd.2;omega
  have e2:∀z,ltD x z=true→ltD y z=true:=fun z g=>by rw[uo]at g⊢;have:=hd.1;have:=hd.2;omega
  rw[List.mem_cons,ih (List.pairwise_cons.1 oa).2 (List.pairwise_cons.1 ob).2,nK.both hd (fun z hz=>Iw (e1 z ((List.pairwise_cons.1 ob).1 z hz))) (fun z hz=>LM (e2 z ((List.pairwise_cons.1 oa).1 z hz)))]
end Go.Proofs.YtlhmbkjdfjoilaaGreat
namespace Go.Proofs.YtlhmbkjdfjoilaaGreat
def nZ (y x:Lf):Bool:=decide (mM y.2 x.2)&&decide (y.1=x.1)
theorem Fh {y x:Lf}:nZ y x=true↔mM y.2 x.2∧y.1=x.1:=by unfold nZ;simp
def lK (l:List Lf) (x:Lf):Option Lf:=l.find? fun y=>nZ y x
theorem Rl {l:List Lf} {x y:Lf} (h:lK l x=some y):y∈l∧mM y.2 x.2∧y.1=x.1:=
 ⟨List.mem_of_find?_eq_some h,Fh.1 (List.find?_some (p:=fun y=>nZ y x) (show List.find? (fun y=>nZ y x) l=some y from h))⟩
theorem CV {l:List Lf} {x:Lf}:lK l x=none↔∀y∈l,¬(mM y.2 x.2∧y.1=x.1):=by
 unfold lK
 rw[List.find?_eq_none]
 exact⟨fun h y hy g=>h y hy (Fh.2 g),fun h y hy g=>h y hy (Fh.1 g)⟩
def ni (hb:Int→Int→Bool) (q:List Lf) (x:Lf):List Lf:=match lK q x with
 |some y=> [if nV x.2 y.2=true then y else x]
 |none=>if hb x.2.dc x.2.n=true then []else [x]
def pF (ha:Int→Int→Bool) (p:List Lf) (x:Lf):List Lf:=match lK p x with
 |some _=> []
 |none=>if ha x.2.dc x.2.n=true then []else [x]
def Fj (ha hb:Int→Int→Bool) (p q:List Lf):List Lf:=p.flatMap (ni hb q)++q.flatMap (pF ha p)
structure Iz (L:List Lf) (E:List ByteArray→List aQ):Prop where
 mem:∀p e,(p,e)∈L↔e∈E p
 ord:∀p,(E p).Pairwise fun x y=>ltD x y=true
theorem YB:∀ {A:List aQ},(A.Pairwise fun x y=>ltD x y=true)→∀ {x y:aQ},x∈A→y∈A→mM x y→x=y
 |[],_,_,_,h,_,_=>by cases h
 |z::A,o,x,y,hx,hy,e=>by
  obtain⟨o1,o2⟩:=List.pairwise_cons.1 o
  rcases List.mem_cons.1 hx with rfl|hx'<;>rcases List.mem_cons.1 hy with rfl|hy'
  ·rfl
  ·exact absurd e (Iw (o1 y hy'))
  ·exact absurd e (LM (o1 x hx'))
  ·exact YB o2 hx' hy' e
theorem Iz.one {L:List Lf} {E:List ByteArray→List aQ} (h:Iz L E) {x y:Lf} (hx:x∈L) (hy:y∈L) (hp:x.1=y.1) (hd:mM x.2 y.2):x=y:=by
 obtain⟨p,e⟩:=x
 obtain⟨q,f⟩:=y
 have hp:p=q:=hp
 subst hp
 rw[YB (h.ord p) ((h.mem p e).1 hx) ((h.mem p f).1 hy) hd]
theorem agF {ha hb:Int→Int→Bool} {p q:List Lf} {EA EB:List ByteArray→List aQ} (hp:Iz p EA) (hq:Iz q EB) (c:List ByteArray) (e:aQ):(c,e)∈Fj ha hb p q↔nK ha hb (EA c) (EB c) e:=by
 unfold Fj nK
 rw[List.mem_append,List.mem_flatMap,List.mem_flatMap]
 constructor
 ·rintro(⟨⟨c',a⟩,hx,hz⟩|⟨⟨c',b⟩,hx,hz⟩)
  ·unfold ni at hz
   cases hf:lK q (c',a)with
   |some y=>
    obtain⟨c2,b⟩:=y
    obtain⟨g1,g2,g3⟩:=Rl hf
    have g3:c2=c':=g3
    subst g3
    rw[hf]at hz
    have hz:(c,e)∈ [if nV a b=true then(c2,b)else(c2,a)]:=hz
    refine .inl ?_
    rw[List.mem_singleton]at hz
    by_cases hg:nV a b=true
    ·rw[if_pos hg]at hz
     injection hz with e1 e2
     subst e1 e2
     exact⟨a,(hp.mem _ _).1 hx,e,(hq.mem _ _).1 g1,Iy g2,by unfold nX;rw[if_pos hg]⟩
    ·rw[if_neg hg]at hz
     injection hz with e1 e2
     subst e1 e2
     exact⟨e,(hp.mem _ _).1 hx,b,(hq.mem _ _).1 g1,Iy g2,by unfold nX;rw[if_neg hg]⟩
   |none=>
    rw[hf]at hz
    have hz:(c,e)∈if hb a.dc a.n=true then []else [((c',a):Lf)]:=hz
    cases hh:hb a.dc a.n with
    |true=>rw[hh,if_pos rfl]at hz;cases hz
    |false=>
     rw[hh,if_neg (by decide),List.mem_singleton]at hz
     injection hz with e1 e2
     subst e1 e2
     exact .inr (.inl ⟨(hp.mem _ _).1 hx,fun y hy g=>CV.1 hf (c,y) ((hq.mem _ _).2 hy) ⟨Iy g,rfl⟩,hh⟩)
  ·unfold pF at hz
   cases hf:lK p (c',b)with
   |some y=>rw[hf]at hz;cases hz
   |none=>
    rw[hf]at hz
    have hz:(c,e)∈if ha b.dc b.n=true then []else [((c',b):Lf)]:=hz
    cases hh:ha b.dc b.n with
    |true=>rw[hh,if_pos rfl]at hz;cases hz
    |false=>
     rw[hh,if_neg (by decide),List.mem_singleton]at hz
     injection hz with e1 e2
     subst e1 e2
     exact .inr (.inr ⟨(hq.mem _ _).1 hx,fun y hy g=>CV.1 hf (c,y) ((hp.mem _ _).2 hy) ⟨g,rfl⟩,hh⟩)
 ·rintro(⟨a,hA,b,hB,g1,rfl⟩|⟨hA,g1,g2⟩|⟨hB,g1,g2⟩)
  ·refine .inl ⟨(c,a),(hp.mem _ _).2 hA,?_⟩
   unfold ni
   cases hf:lK q (c,a)with
   |none=>exact absurd ⟨Iy g1,rfl⟩ (CV.1 hf (c,b) ((hq.mem _ _).2 hB))
   |some y=>
    obtain⟨h1,h2,h3⟩:=Rl hf
    have hy:y=(c,b):=hq.one h1 ((hq.mem _ _).2 hB) h3 ⟨h2.1.trans g1.1,h2.2.trans g1.2⟩
    subst hy
    show(c,nX a b)∈ [if nV a b=true then((c,b):Lf)else(c,a)]
    unfold nX
    rw[List.mem_singleton]
    split<;>rfl
  ·refine .inl ⟨(c,e),(hp.mem _ _).2 hA,?_⟩
   have hf:lK q (c,e)=none:=CV.2 fun y hy g=>by
    obtain⟨c2,b⟩:=y
    have h3:c2=c:=g.2
    subst h3
    exact g1 b ((hq.mem _ _).1 hy) (Iy g.1)
   unfold ni
   rw[hf]
   show(c,e)∈if hb e.dc e.n=true then []else [((c,e):Lf)]
   rw[g2]
   simp
  ·refine .inr ⟨(c,e),(hq.mem _ _).2 hB,?_⟩
   have hf:lK p (c,e)=none:=CV.2 fun y hy g=>by
    obtain⟨c2,b⟩:=y
    have h3:c2=c:=g.2
    subst h3
    exact g1 b ((hp.mem _ _).1 hy) g.1
   unfold pF
   rw[hf]
   show(c,e)∈if ha e.dc e.n=true then []else [((c,e):Lf)]
   rw[g2]
   simp
def PW (L:List Lf):Prop:=L.Pairwise fun x y=>¬(mM x.2 y.2∧x.1=y.1)
theorem PW.nodup {L:List Lf} (h:PW L):L.Nodup:=List.Pairwise.imp (fun {x y} g (e:x=y)=>g (by subst e;exact⟨⟨rfl,rfl⟩,rfl⟩)) h
theorem Rn {hb:Int→Int→Bool} {q:List Lf} {x z:Lf} (h:z∈ni hb q x):mM z.2 x.2∧z.1=x.1:=by
 unfold ni at h
 cases hf:lK q x with
 |some y=>
  rw[hf]at h
  have h:z∈ [if nV x.2 y.2=true then y else x]:=h
  rw[List.mem_singleton]at h
  split at h
  ·subst h;exact(Rl hf).2
  ·subst h;exact⟨⟨rfl,rfl⟩,rfl⟩
 |none=>
  rw[hf]at h
  have h:z∈if hb x.2.dc x.2.n=true then []else [x]:=h
  split at h
  ·cases h
  ·rw[List.mem_singleton]at h;subst h;exact⟨⟨rfl,rfl⟩,rfl⟩
theorem agG (hb:Int→Int→Bool) (q:List Lf) (x:Lf):PW (ni hb q x):=by
 unfold ni PW
 split
 ·exact List.pairwise_singleton _ _
 ·split
  ·exact List.Pairwise.nil
  ·exact List.pairwise_singleton _ _
theorem Ro {ha:Int→Int→Bool} {p:List Lf} {x z:Lf} (h:z∈pF ha p x):z=x∧lK p x=none:=by
 unfold pF at h
 cases hf:lK p x with
 |some y=>rw[hf]at h;cases h
 |none=>
  rw[hf]at h
  have h:z∈if ha x.2.dc x.2.n=true then []else [x]:=h
  split at h
  ·cases h
  ·exact⟨List.mem_singleton.1 h,rfl⟩
theorem agH (ha:Int→Int→Bool) (p:List Lf) (x:Lf):PW (pF ha p x):=by
 unfold pF PW
 split
 ·exact List.Pairwise.nil
 ·split
  ·exact List.Pairwise.nil
  ·exact List.pairwise_singleton _ _
theorem agI {ha hb:Int→Int→Bool} {p q:List Lf} (hp:PW p) (hq:PW q):PW (Fj ha hb p q):=by
 unfold PW Fj
 rw[List.pairwise_append]
 refine⟨?_,?_,?_⟩
 ·rw[List.pairwise_flatMap]
  refine⟨fun x _=>agG hb q x,List.Pairwise.imp (fun {x y} g u hu v hv e=>g ?_) hp⟩
  obtain⟨⟨a1,a2⟩,a3⟩:=Rn hu
  obtain⟨⟨b1,b2⟩,b3⟩:=Rn hv
  exact⟨⟨a1.symm.trans (e.1.1.trans b1),a2.symm.trans (e.1.2.trans b2)⟩,a3.symm.trans (e.2.trans b3)⟩
 ·rw[List.pairwise_flatMap]
  refine⟨fun x _=>agH ha p x,List.Pairwise.imp (fun {x y} g u hu v hv e=>g ?_) hq⟩
  obtain⟨rfl,_⟩:=Ro hu
  obtain⟨rfl,_⟩:=Ro hv
  exact e
 ·intro u hu v hv e
  obtain⟨x,hx,hu⟩:=List.mem_flatMap.1 hu
  obtain⟨y,hy,hv⟩:=List.mem_flatMap.1 hv
  obtain⟨⟨a1,a2⟩,a3⟩:=Rn hu
  obtain⟨rfl,hn⟩:=Ro hv
  exact CV.1 hn x hx ⟨⟨a1.symm.trans e.1.1,a2.symm.trans e.1.2⟩,a3.symm.trans e.2⟩
theorem YC:∀ {ks:aT} {x:Lf},x∈fZ ks→∃k p,x.1=k::p∧k∈ks.keys
 | .cons k es sub rest,x,h=>by
   have h:x∈(lI es++fZ sub).map (fun x=>(k::x.1,x.2))++fZ rest:=h
   rcases List.mem_append.1 h with h|h
   ·obtain⟨y,_,rfl⟩:=List.mem_map.1 h
    exact⟨k,y.1,rfl,List.mem_cons_self ..⟩
   ·obtain⟨k',p,h1,h2⟩:=YC h
    exact⟨k',p,h1,List.mem_cons_of_mem _ h2⟩
theorem YD {es:List aQ} {ks:aT} (h:jg none es=true) (hk:PW (fZ ks)):PW (lI es++fZ ks):=by
 unfold PW
 rw[List.pairwise_append]
 refine⟨?_,hk,fun x hx y hy e=>?_⟩
 ·unfold lI
  rw[List.pairwise_map]
  refine(GN.1 h).2.imp fun {x y} g e=>?_
  exact Iw g e.1
 ·obtain⟨z,_,rfl⟩:=List.mem_map.1 hx
  exact Hl hy e.2.symm
theorem Rq:∀(ks:aT) (d:Nat) (p:Option ByteArray),jh ks d p=true→PW (fZ ks)
 | .nil,_,_,_=>List.Pairwise.nil
 | .cons key es sub rest,d,p,h=>by
   have o:=(qO _ _ _ h).1
   rw[qI]at h
   simp only[Bool.and_eq_true]at h
   have hr:=h.1.2
   obtain⟨d,rfl⟩:=AV hr
   obtain⟨h1,h2⟩:=oZ hr
   show PW ((lI es++fZ sub).map (fun x=>(key::x.1,x.2))++fZ rest)
   unfold PW
   rw[List.pairwise_append]
   refine⟨?_,Rq rest _ _ h.2,fun x hx y hy e=>?_⟩
   ·rw[List.pairwise_map]
    exact(YD h1 (Rq sub d none h2)).imp fun {x y} g e=>g ⟨e.1,by have:=e.2;simpa using this⟩
   ·obtain⟨z,_,rfl⟩:=List.mem_map.1 hx
    obtain⟨k',q,g1,g2⟩:=YC hy
    have e2:key::z.1=y.1:=e.2
    rw[g1]at e2
    injection e2 with e2
    subst e2
    have:=(List.pairwise_cons.1 (show(key::rest.keys).Pairwise _ from o)).1 key g2
    rw[nH]at this
    cases this
theorem Rt {d:Nat} {es:List aQ} {ks:aT} (h:bM d es ks=true):PW (dI es ks):=by
 obtain⟨d,rfl⟩:=AV h
 obtain⟨h1,h2⟩:=oZ h
 exact YD h1 (Rq ks d none h2)
theorem LQ:∀(p:List ByteArray) (d:Nat) (t:Tr),bM d t.1 t.2=true→(tu p t).Pairwise fun x y=>ltD x y=true
 |[],d,t,h=>by
  obtain⟨d,rfl⟩:=AV h
  exact(GN.1 (oZ h).1).2
 |k::p,d,t,h=>by
  obtain⟨d,rfl⟩:=AV h
  obtain⟨_,h2⟩:=oZ h
  show(tu p (t.2.find k)).Pairwise _
  by_cases hm:k∈t.2.keys
  ·exact LQ p d _ (xW h2 (xX h2 hm))
  ·rw[(uZ _ _ _ k h2).2 hm,LK]
   exact List.Pairwise.nil
theorem Ru {d:Nat} {t:Tr} (h:bM d t.1 t.2=true):Iz (dI t.1 t.2) fun p=>tu p t:=⟨fun p e=>Yx p d t.1 t.2 h e,fun p=>LQ p d t h⟩
theorem agJ (ha hb:Int→Int→Bool) {d n:Nat} {a b:Tr} (hd:d≤n) (h1:bM d a.1 a.2=true) (h2:bM d b.1 b.2=true):
 (Fj ha hb (dI a.1 a.2) (dI b.1 b.2)).Perm (dI (jM ha hb n a b).1 (jM ha hb n a b).2):=by
 have h3:=OX ha hb n d a b hd h1 h2
 refine(List.perm_ext_iff_of_nodup (agI (Rt h1) (Rt h2)).nodup (Rt h3).nodup).2 fun x=>?_
 obtain⟨c,e⟩:=x
 rw[agF (Ru h1) (Ru h2),(Ru h3).mem c e]
 show _↔e∈tu c (jM ha hb n a b)
 rw[Yy ha hb c n d a b hd h1 h2,agE (LQ c d a h1) (LQ c d b h2)]
open Go.RowKit
theorem agK {p q:List ByteArray} {n:Nat} (hp:p.length=n) (hq:q.length=n) (h:∀j,j<n→p.getD j ByteArray.empty=q.getD j ByteArray.empty):p=q:=by
 refine List.ext_getElem (hp.trans hq.symm) fun i h1 h2=>?_
 have:=h i (by omega)
 rwa [getD_at _ h1,getD_at _ h2]at this
theorem Rw {p q:List ByteArray} {a b:aQ} (h:¬(mM a b∧p=q)):nZ (p,a) (q,b)=false:=by
 cases hb:nZ (p,a) (q,b)with
 |false=>rfl
 |true=>exact absurd (Fh.1 hb) h
theorem Rx {w:World} {g o c n:Nat} {p:List ByteArray} (h:Rd w (.slice (some ⟨g,o,none⟩) n c) n (fA p)) (k:Nat) (hk:k<p.length):w.cell? ⟨g,o+k,none⟩=some (.string (p.getD k ByteArray.empty)):=
 h.cell k _ (by unfold fA;rw[List.getElem?_map,List.getElem?_eq_getElem hk,getD_at _ hk];rfl)
theorem agL (p q:List ByteArray) (v u:Value) (a b:aQ) (w:World) (h1:Rd w v p.length (fA p)) (h2:Rd w u q.length (fA q)) (l1:p.length≤100000) (l2:q.length≤100000):
 Calls Tryz.prog 158 #[.agg #[v, .int .i64 a.dc, .int .i64 a.n, .string a.s, .int .i64 a.k], .agg #[u, .int .i64 b.dc, .int .i64 b.n, .string b.s, .int .i64 b.k]] w fun e w'=>e= .returned (.bool (nZ (p,a) (q,b)))∧aj aF w w':=by
 obtain⟨a1,c1,rfl⟩:=h1.sl
 obtain⟨a2,c2,rfl⟩:=h2.sl
 by_cases hl:p.length=q.length
 rotate_left 1
 ·rw[Rw fun h=>hl (by rw[h.2])]
  clear h1 h2
  generalize p.length=n at*
  generalize q.length=m at*
  have hz:((n:Int)==(m:Int))=false:=by simp;omega
  have HF:=ah ((aj.alloc aF w (.cells #[.slice a1 n c1, .int .i64 a.dc, .int .i64 a.n, .string a.s, .int .i64 a.k] 103)).alloc1 (o:= .cells #[.slice a2 m c2, .int .i64 b.dc, .int .i64 b.n, .string b.s, .int .i64 b.k] 103))
  by_cases hd:a.dc=b.dc
  ·by_cases hn:a.n=b.n
   ·rw[hd,hn]at*
    go_enter Tryz.func158,Tryz.ntmps158
    go_wp2
    go_ret
    exact⟨rfl,(aj.alloc aF _ _).alloc1⟩
   ·have hnb:(a.n==b.n)=false:=by simpa using hn
    rw[hd]at*
    go_enter Tryz.func158,Tryz.ntmps158
    go_wp2
    go_ret
    exact⟨rfl,(aj.alloc aF _ _).alloc1⟩
  ·have hdb:(a.dc==b.dc)=false:=by simpa using hd
   go_enter Tryz.func158,Tryz.ntmps158
   go_wp2
   go_ret
   exact⟨rfl,(aj.alloc aF _ _).alloc1⟩
 by_cases hd:mM a b
 rotate_left 1
 ·rw[Rw fun h=>hd h.1]
  clear h1 h2
  generalize p.length=n at*
  generalize q.length=m at*
  have HF:=ah ((aj.alloc aF w (.cells #[.slice a1 n c1, .int .i64 a.dc, .int .i64 a.n, .string a.s, .int .i64 a.k] 103)).alloc1 (o:= .cells #[.slice a2 m c2, .int .i64 b.dc, .int .i64 b.n, .string b.s, .int .i64 b.k] 103))
  by_cases hd2:a.dc=b.dc
  ·have hn:a.n≠b.n:=fun h=>hd ⟨hd2,h⟩
   have hnb:(a.n==b.n)=false:=by simpa using hn
   rw[hd2]at*
   go_enter Tryz.func158,Tryz.ntmps158
   go_wp2
   go_ret
   exact⟨rfl,(aj.alloc aF _ _).alloc1⟩
  ·have hdb:(a.dc==b.dc)=false:=by simpa using hd2
   go_enter Tryz.func158,Tryz.ntmps158
   go_wp2
   go_ret
   exact⟨rfl,(aj.alloc aF _ _).alloc1⟩
 have HR1:=ah h1
 have HR2:=ah (show Rd w (.slice a2 p.length c2) p.length (fA q) by rw[hl];exact h2)
 rw[←hl]
 have lQ:=ah (fun(h:p≠q)=>(Rw (a:=a) (b:=b) fun g=>h g.2).symm)
 have AL:=ah (fun(h:p=q)=>(Fh (y:=(p,a)) (x:=(q,b))).2 ⟨hd,h⟩)
 have HD:=ah hd
 generalize nZ (p,a) (q,b)=pb at*
 obtain⟨n,hn⟩:∃n,n=p.length:=⟨_,rfl⟩
 rw[←hn]at hl HR1 HR2 l1⊢
 have HN:=ah hn.symm
 have HM:=ah hl.symm
 clear h1 h2 hn hl l2
 obtain⟨d1,m1,s1,k1⟩:=a
 obtain⟨d2,m2,s2,k2⟩:=b
 obtain⟨rfl,rfl⟩:d1=d2∧m1=m2:=⟨hd.1,hd.2⟩
 clear hd
 dsimp only
 have HF:=ah ((aj.alloc aF w (.cells #[.slice a1 n c1, .int .i64 d1, .int .i64 m1, .string s1, .int .i64 k1] 103)).alloc1 (o:= .cells #[.slice a2 n c2, .int .i64 d1, .int .i64 m1, .string s2, .int .i64 k2] 103))
 obtain⟨hb1,-,-⟩:=lY w (.cells #[.slice a1 n c1, .int .i64 d1, .int .i64 m1, .string s1, .int .i64 k1] 103) #[.slice a2 n c2, .int .i64 d1, .int .i64 m1, .string s2, .int .i64 k2] 103
 have hb0:=(aj.alloc aF (w.alloc (.cells #[.slice a1 n c1, .int .i64 d1, .int .i64 m1, .string s1, .int .i64 k1] 103)) (.cells #[.slice a2 n c2, .int .i64 d1, .int .i64 m1, .string s2, .int .i64 k2] 103)).blk (heap_alloc_new w _) id
 have HB0:=ah hb0
 have HB1:=ah hb1
 clear hb0 hb1
 go_enter Tryz.func158,Tryz.ntmps158
 go_wp2
 go_loopw [25] (fun i ww=>∃k:Nat,k≤n∧i= .int .i64 k∧(∀j,j<k→p.getD j ByteArray.empty=q.getD j ByteArray.empty)∧aj aF ((w.alloc (.cells #[.slice a1 n c1, .int .i64 d1, .int .i64 m1, .string s1, .int .i64 k1] 103)).alloc (.cells #[.slice a2 n c2, .int .i64 d1, .int .i64 m1, .string s2, .int .i64 k2] 103)) ww) (fun i _=>n-(intOf i).toNat)
 case atStart=>exact⟨0,Nat.zero_le _,rfl,(fun j hj=>absurd hj (Nat.not_lt_zero _)),aj.refl _ _⟩
 case round=>
  obtain⟨k,hk,rfl,hlk,hw⟩:=hrel
  have Ip:=ah hlk;clear hlk
  have HW:=ah hw;clear hw
  have b0:=aG (HW.out.blk HB0.out id) 0 rfl
  have b1:=aG (HW.out.blk HB1.out id) 0 rfl
  have hlb:=lt_of_block (HW.out.blk HB1.out id)
  by_cases hlt:k<n
  ·rcases Rd.shape HR1.out with⟨ad,he,h0⟩|⟨e1,off1,GZ,he,hmax⟩
   ·exfalso;omega
   rcases Rd.shape HR2.out with⟨ad,he2,h0⟩|⟨e2,off2,lg,he2,zY⟩
   ·exfalso;omega
   injection he with g1 g2 g3
   injection he2 with g4 g5 g6
   subst g1 g3 g4 g6
   clear g2 g5
   have hfw:=HF.out.aH HW.out
   have p0:=hfw.cell' (Rx HR1.out k (by rw[HN.out];exact hlt)) id
   have q0:=hfw.cell' (Rx HR2.out k (by rw[HM.out];exact hlt)) id
   clear hfw
   have HST:=ah (show p.getD k ByteArray.empty=q.getD k ByteArray.empty→∀j,j<k+1→p.getD j ByteArray.empty=q.getD j ByteArray.empty from fun h j hj=>by
    rcases Nat.lt_or_ge j k with g|g
    ·exact Ip.out j g
    ·rw[show j=k by omega];exact h)
   have iE:=ah (show p.getD k ByteArray.empty≠q.getD k ByteArray.empty→p≠q from fun h e=>h (by rw[e]))
   generalize p.getD k ByteArray.empty=s at*
   generalize q.getD k ByteArray.empty=t at*
   by_cases hst:s=t
   ·subst hst
    go_wp2_with fail
    go_quiet (fail)
    go_wp2
    go_roundw
    case rel=>exact⟨k+1,by omega,by go_num,HST.out (by trivial),HW.out.iy⟩
    case measure=>simp[intOf];omega
   ·have gb:(s.toList==t.toList)=false:=by simpa using Cb hst
    have fM:=ah (lQ.out (iE.out hst))
    clear hst
    go_wp2_with fail
    go_quiet (fail)
    go_wp2
    go_ret
    exact⟨dF fM.out,HF.out.aH HW.out.iy⟩
  ·obtain rfl:n=k:=by omega
   have fM:=ah (AL.out (agK HN.out HM.out Ip.out)).symm
   go_wp2
   go_ret
   exact⟨dF fM.out,HF.out.aH HW.out⟩
open Go.RowKit
theorem agM (w:World) (va vb:Value) (a b:bD) (ha:je w va a) (hb:je w vb b) (ra:eP a) (rb:eP b) (la:a.length≤10000) (lb:b.length≤10000):
 Calls Tryz.prog 119 #[va,vb] w fun e w'=>∃v' c,e= .returned v'∧OwnAt w w' 92 3 v' c.length (dY c)∧kZ 0 a b c∧c.length≤160000:=by
 have HU:=ah (aa2 w va vb a b ha hb ra rb la lb)
 obtain⟨aA,cA,rfl⟩:=ha.sl
 obtain⟨aB,cB,rfl⟩:=hb.sl
 clear ha hb
 generalize a.length=n at*
 generalize b.length=m at*
 go_enter Tryz.func119,Tryz.ntmps119
 go_wp2_with(go_at_call 87;refine HU.out.mono ?_;rintro e w1 ⟨v',c,rfl,ho,hby,hlc⟩;obtain⟨a9,c9,rfl⟩:=ho.shape;have HO:=ah ho;have gX:=ah hby;have OA:=ah hlc;clear ho hby hlc)
 go_ret
 exact⟨_,c,rfl,HO.out,gX.out,OA.out⟩
theorem agN (p:List ByteArray) (s:ByteArray) (w:World) (v:Value) (h:Rd w v p.length (fA p)) (hl:p.length≤100000):
 Calls Tryz.prog 157 #[v, .string s] w fun e w'=>e= .returned (.bool (p.any fun k=>decide (k=s)))∧aj aF w w':=by
 rcases Rd.shape h with⟨ad,rfl,h0⟩|⟨g,off,c,rfl,hmax⟩
 ·obtain rfl:=List.eq_nil_of_length_eq_zero h0
  clear h h0
  go_enter Tryz.func157,Tryz.ntmps157
  go_wp2
  go_loopw [8] (fun i W=>i= .int .i64 0∧W=w) (fun _ _=>0)
  case atStart=>exact⟨rfl,rfl⟩
  case round=>
   obtain⟨rfl,rfl⟩:=hrel
   go_wp2
   go_ret
   exact⟨rfl,aj.refl _ _⟩
 ·have HH:=ah h;clear h
  obtain⟨A,hA⟩:∃A,A=p.any fun k=>decide (k=s):=⟨_,rfl⟩
  have HA:=ah hA
  rw[←hA]
  clear hA
  generalize hn:p.length=m at*
  have HN:=ah hn;clear hn
  go_enter Tryz.func157,Tryz.ntmps157
  go_wp2
  go_loopw [8] (fun i W=>∃k:Nat,k≤m∧i= .int .i64 k∧(p.take k).any (fun k=>decide (k=s))=false∧W=w) (fun i _=>m-(intOf i).toNat)
  case atStart=>exact⟨0,Nat.zero_le _,rfl,by simp,rfl⟩
  case round=>
   obtain⟨k,hk,rfl,ha,hw⟩:=hrel
   subst hw
   have qN:=ah ha;clear ha
   by_cases hlt:k<m
   ·have hlk:k<p.length:=by rw[HN.out];exact hlt
    have q0:=Rx HH.out k hlk
    have HT:=ah (JZ (p:=fun k=>decide (k=s)) ByteArray.empty hlk)
    have HE:=ah (fun h=>HA.out.trans (List.any_eq_true.2 ⟨_,getD_mem ByteArray.empty hlk,decide_eq_true h⟩):p.getD k ByteArray.empty=s→A=true)
    generalize p.getD k ByteArray.empty=t at*
    clear hlk
    by_cases h1:t=s
    ·subst h1
     have HEX:=ah (HE.out rfl)
     clear HE HT
     go_wp2
     go_ret
     exact⟨dF HEX.out.symm,aj.refl _ _⟩
    ·have gb:(t.toList==s.toList)=false:=by simpa using Cb h1
     have HY:=ah (decide_eq_false h1)
     clear HE h1
     go_wp2
     go_roundw
     case rel=>exact⟨k+1,by omega,by go_num,by rw[HT.out,qN.out];exact HY.out,by trivial⟩
     case measure=>simp[intOf];omega
   ·obtain rfl:m=k:=by omega
    have hfull:p.take m=p:=List.take_of_length_le (by rw[HN.out];exact Nat.le_refl _)
    have HEX:=ah (show false=A by rw[HA.out,←hfull];exact qN.out.symm)
    clear hfull
    go_wp2
    go_ret
    exact⟨dF HEX.out,aj.refl _ _⟩
theorem YE (c:bD) (w:World) (v:Value) (hv:je w v c) (hl:c.length≤100000) (d n:Int):
 Calls Tryz.prog 118 #[v, .agg #[.int .i64 d, .int .i64 n]] w fun e w'=>e= .returned (.bool (eU c d n))∧aj aF w w':=by
 obtain⟨aA,cA,rfl⟩:=hv.sl
 have HP:=ah (fun W (f:aj aF w W)=>JD W _ c d (Rd.aS hv f) hl)
 have HD:=ah (fun W=>Nq d n W)
 have HLP:=ah (Nat.le_trans (BD c d) hl)
 clear hv hl
 generalize c.length=m at*
 unfold eU
 cases hd:qC d n with
 |false=>
  rw[hd]at HD
  clear hd
  obtain⟨α,hne,K,hK1,hK0,hK2⟩:=worlds (w.alloc (.cells #[.int .i64 d, .int .i64 n] 98))
  have dS:=ah (fun s=>(aj.alloc aF w (.cells #[.int .i64 d, .int .i64 n] 98)).aH (hK1 s))
  have k0:∀s,(K s).cell? ⟨w.heap.size,0,none⟩=some (.int .i64 d):=fun s=>(hK1 s).cell' (aG (heap_alloc_new w _) 0 rfl) id
  have k1:∀s,(K s).cell? ⟨w.heap.size,1,none⟩=some (.int .i64 n):=fun s=>(hK1 s).cell' (aG (heap_alloc_new w _) 1 rfl) id
  clear hK1
  go_enter Tryz.func118,Tryz.ntmps118
  go_upto_region 1 with fail
  refine dX K (by kernel_rfl) (by kernel_rfl) hK0 ?_
  repeat(go_big_quiet_step ((go_at_call 159;exact Calls.bT hK2 (HD.out _))))
  refine wpQuiet_nil ?_
  intro w' hw'
  obtain⟨s,rfl⟩:=hw'
  go_wp2
  go_ret
  exact⟨rfl,dS.out s⟩
 |true=>
  rw[hd]at HD
  clear hd
  have BL:=ah (show tf (bK (dA c d) n)=(true&&tf (kS c d n))from rfl)
  generalize (true&&tf (kS c d n))=y at*
  have dJ:=ah (fun Y Y' (f:aj aF Y Y') (hS:aj aF w Y∧Y.cell? ⟨w.heap.size,0,none⟩=some (.int .i64 d)∧Y.cell? ⟨w.heap.size,1,none⟩=some (.int .i64 n))=>(⟨hS.1.aH f,f.cell' hS.2.1 id,f.cell' hS.2.2 id⟩:aj aF w Y'∧Y'.cell? ⟨w.heap.size,0,none⟩=some (.int .i64 d)∧Y'.cell? ⟨w.heap.size,1,none⟩=some (.int .i64 n)))
  have ba:=heap_alloc_new w (.cells #[.int .i64 d, .int .i64 n] 98)
  have dH:=dJ.out _ _ (aj.drew aF _) ⟨aj.alloc aF w _,aG ba 0 rfl,aG ba 1 rfl⟩
  clear ba
  go_enter Tryz.func118,Tryz.ntmps118
  go_upto_region 1 with fail
  refine iq (S:=fun Y=>aj aF w Y∧Y.cell? ⟨w.heap.size,0,none⟩=some (.int .i64 d)∧Y.cell? ⟨w.heap.size,1,none⟩=some (.int .i64 n)) 12 (by kernel_rfl) dH ?_
  clear dH
  intro hS
  generalize World.drew _=Y0 at*
  refine aY 0 5 rfl rfl ?_
  try simp only[Act.put,aO,aN,aJ]
  refine bg (i:=1) (by kernel_rfl) rfl (fun K hK=>?_)
  go_simp
  refine(HD.out _).mono ?_
  rintro e Y1 ⟨rfl,hf1⟩
  have hS1:=dJ.out _ _ hf1 hS
  refine hK.out _ _ hS1 ?_
  clear hK K hS hf1
  have hS:=hS1
  clear hS1
  try simp only[Act.put,aO,aN,aJ]
  refine aY 2 7 rfl rfl ?_
  refine aY 3 8 rfl rfl ?_
  try simp only[Act.put,aO,aN,aJ]
  refine aY 4 9 rfl rfl ?_
  refine aY 5 10 rfl rfl ?_
  try simp only[Act.put,aO,aN,aJ]
  refine aY 7 12 rfl rfl ?_
  refine aY 8 13 rfl rfl ?_
  try simp only[Act.put,aO,aN,aJ]
  refine bg (i:=6) (by kernel_rfl) rfl (fun K hK=>?_)
  go_simp
  refine(HP.out _ hS.1).mono ?_
  rintro e Y2 ⟨v2,rfl,ho2⟩
  obtain⟨a2,c2,rfl⟩:=ho2.shape
  have HR2:=ah ho2.rd
  have hS1:=dJ.out _ _ ho2.aI hS
  refine hK.out _ _ hS1 ?_
  clear hK K hS ho2
  have hS:=hS1
  clear hS1
  try simp only[Act.put,aO,aN,aJ]
  refine bg (i:=9) (by kernel_rfl) rfl (fun K hK=>?_)
  go_simp
  refine(FW _ _ (dA c d) n HR2.out).mono ?_
  rintro e Y3 ⟨rfl,hf3⟩
  subst hf3
  have hS1:=hS
  refine hK.out _ _ hS1 ?_
  clear hK K hS
  have hS:=hS1
  clear hS1
  try simp only[Act.put,aO,aN,aJ]
  refine aY 10 15 rfl rfl ?_
  try simp only[Act.put,aO,aN,aJ]
  refine bg (i:=11) (by kernel_rfl) rfl (fun K hK=>?_)
  go_simp
  refine hK.out _ _ hS ?_
  clear hK K
  refine mF (by kernel_rfl) ?_
  go_wp2
  go_ret
  exact⟨dF BL.out,hS.1⟩
end Go.Proofs.YtlhmbkjdfjoilaaGreat
