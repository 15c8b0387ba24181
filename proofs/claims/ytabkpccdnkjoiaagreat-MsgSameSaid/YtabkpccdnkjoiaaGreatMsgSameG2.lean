/- Words for the law MsgSame: Ctx, BSmall, Reg, BDot, RunAt, R6, SpRight. -/
import Derived.Test.YtabkpccdnkjoiaaGreatMsgSameG0
import Derived.Test.YtabkpccdnkjoiaaGreatMsgSameG1
import Derived.Test.YtabkpccdnkjoiaaGreatChecked
import Derived.Deep.RegionHeld
import Derived.Deep.RegionHeld3
import Derived.Deep.DeepCutAuto
import Derived.Deep.RegionWith
set_option linter.unusedSimpArgs false
set_option linter.unusedVariables false
set_option maxHeartbeats 32000000
set_option maxRecDepth 1000000
namespace Go.Proofs.YtabkpccdnkjoiaaGreat
noncomputable def tf (p:Prop):Bool:=@decide p (Classical.propDecidable p)
theorem bZ {p:Prop} (h:p):tf p=true:=by unfold tf;exact @decide_eq_true p (Classical.propDecidable p) h
theorem aZ {p:Prop} (h:¬p):tf p=false:=by unfold tf;exact @decide_eq_false p (Classical.propDecidable p) h
theorem sG {p:Prop}:tf p=true↔p:=⟨fun h=>Classical.byContradiction fun hn=>(by rw[aZ hn]at h;cases h),bZ⟩
theorem yB {p:Prop}:tf p=false↔¬p:=⟨fun h hp=>(by rw[bZ hp]at h;cases h),aZ⟩
theorem kT {p q:Prop} (h:p↔q):tf p=tf q:=by rw[propext h]
theorem Bf {b:Bool} {p:Prop} (h:b=true↔p):b=tf p:=by
 cases b with
 |true=>exact(bZ (h.1 rfl)).symm
 |false=>exact(aZ fun hp=>by cases h.2 hp).symm
def dA (l:aX):Prop:=gQ 1 l∧∀r∈l,r.2≤1099511627776
theorem mY:∀ {l:aX} {lo:Int},gQ lo l→∀r∈l,lo≤r.1∧r.1≤r.2
 |[],_,_,r,hr=>by cases hr
 |y::l,lo,h,r,hr=>by
  rcases List.mem_cons.1 hr with rfl|hr
  ·exact⟨h.1,h.2.1⟩
  ·have:=mY h.2.2 r hr
   have:=h.1
   have:=h.2.1
   omega
theorem dA.Ej {l:aX} (h:dA l) {n:Int} (hn:bU l n):1≤n∧n≤1099511627776:=by
 obtain⟨r,hr,h1,h2⟩:=hn
 have:=mY h.1 r hr
 have:=h.2 r hr
 omega
theorem dA.of {l:aX} (h:gQ 1 l) (hn:∀n,bU l n→n≤1099511627776):dA l:=
 ⟨h,fun r hr=>hn r.2 ⟨r,hr,(mY h r hr).2,Int.le_refl _⟩⟩
theorem wS:dA []:=⟨trivial,fun r hr=>by cases hr⟩
theorem dA.Hg {l:aX} (h:dA l):l=[]↔∀n,¬bU l n:=by
 constructor
 ·rintro rfl n;exact lD n
 ·intro hn
  cases l with
  |nil=>rfl
  |cons r l=>exact absurd ⟨r,List.mem_cons_self,Int.le_refl _,h.1.2.1⟩ (hn r.1)
abbrev aW:=List (Int×Int×Int)
def bI (c:aW) (d:Int):aX:=(c.filter fun s=>s.1==d).map (·.2)
def jQ (c:aW) (d n:Int):Prop:=bU (bI c d) n
def g_:Int→aW→Prop
 |_,[]=>True
 |lo,s::c=>lo≤s.1∧s.1<4∧g_ s.1 c
def dw (c:aW):Prop:=g_ 0 c∧∀d,0≤d→d<4→dA (bI c d)
def dP (d:Int) (l:aX):aW:=l.map fun r=>(d,r.1,r.2)
def lF (p:Int→aX):aW:=dP 0 (p 0)++(dP 1 (p 1)++(dP 2 (p 2)++dP 3 (p 3)))
theorem Em (d:Int):bI [] d=[]:=rfl
theorem Bg (a b:aW) (d:Int):bI (a++b) d=bI a d++bI b d:=by simp[bI]
theorem En (s:Int×Int×Int) (c:aW):bI (s::c) s.1=s.2::bI c s.1:=by simp[bI]
theorem Bh (s:Int×Int×Int) (c:aW) {d:Int} (h:s.1≠d):bI (s::c) d=bI c d:=by simp[bI,h]
theorem Bj (d:Int) (l:aX):bI (dP d l) d=l:=by
 unfold bI dP
 rw[List.filter_eq_self.2 (by intro s hs;simp at hs;obtain⟨a,b,_,rfl⟩:=hs;simp),List.map_map]
 exact List.map_id l
theorem qE {d d':Int} (l:aX) (h:d≠d'):bI (dP d l) d'=[]:=by
 unfold bI dP
 rw[List.filter_eq_nil_iff.2 (by intro s hs;simp at hs;obtain⟨a,b,_,rfl⟩:=hs;simpa using h)]
 rfl
theorem four {d:Int} (h0:0≤d) (h4:d<4):d=0∨d=1∨d=2∨d=3:=by omega
theorem Bl (p:Int→aX) {d:Int} (h0:0≤d) (h4:d<4):bI (lF p) d=p d:=by
 unfold lF
 rw[Bg,Bg,Bg]
 rcases four h0 h4 with rfl|rfl|rfl|rfl
 ·rw[Bj,qE (d:=1) _ (by decide),qE (d:=2) _ (by decide),qE (d:=3) _ (by decide)];simp
 ·rw[Bj,qE (d:=0) _ (by decide),qE (d:=2) _ (by decide),qE (d:=3) _ (by decide)];simp
 ·rw[Bj,qE (d:=0) _ (by decide),qE (d:=1) _ (by decide),qE (d:=3) _ (by decide)];simp
 ·rw[Bj,qE (d:=0) _ (by decide),qE (d:=1) _ (by decide),qE (d:=2) _ (by decide)];simp
theorem g_.mono {lo lo':Int} {c:aW} (h:g_ lo c) (hl:lo'≤lo):g_ lo' c:=by
 cases c with
 |nil=>trivial
 |cons s c=>exact⟨Int.le_trans hl h.1,h.2⟩
theorem zG {d lo:Int} (h:lo≤d) (h4:d<4):∀(l:aX) {c:aW},g_ d c→g_ lo (dP d l++c)
 |[],_,hc=>hc.mono h
 |_::l,_,hc=>⟨h,h4,zG (Int.le_refl _) h4 l hc⟩
theorem Uc (p:Int→aX):g_ 0 (lF p):=by
 have h3:g_ 3 (dP 3 (p 3)):=by
  have:=zG (lo:=3) (d:=3) (by decide) (by decide) (p 3) (c:=[]) trivial
  rwa [List.append_nil]at this
 exact zG (d:=0) (by decide) (by decide) _ ((zG (d:=1) (lo:=1) (by decide) (by decide) _ ((zG (d:=2) (lo:=2) (by decide) (by decide) _ (h3.mono (by decide))).mono (by decide))).mono (by decide))
theorem Hl {p:Int→aX} (h:∀d,0≤d→d<4→dA (p d)):dw (lF p):=
 ⟨Uc p,fun d h0 h4=>by rw[Bl p h0 h4];exact h d h0 h4⟩
theorem qF:∀ {c:aW} {lo d:Int},g_ lo c→d<lo→bI c d=[]
 |[],_,_,_,_=>rfl
 |s::c,lo,d,h,hd=>by
  have:=h.1
  rw[Bh s c (by omega),qF h.2.2 (by omega)]
theorem zH:∀ {c:aW} {lo:Int},0≤lo→g_ lo c→lF (bI c)=c
 |[],_,_,_=>rfl
 |s::c,lo,hl,h=>by
  have h1:=h.1
  have h2:=h.2.1
  have ih:=zH (by omega) h.2.2
  obtain⟨k,r⟩:=s
  simp only at h1 h2
  have hk:=four (d:=k) (by omega) h2
  have hd:=h.2.2
  simp only at hd ih
  have e:∀d,k≠d→bI ((k,r)::c) d=bI c d:=fun d hd=>Bh _ _ hd
  have e0:bI ((k,r)::c) k=r::bI c k:=En (k,r) c
  unfold lF at ih⊢
  rcases hk with rfl|rfl|rfl|rfl
  ·rw[e0,e 1 (by decide),e 2 (by decide),e 3 (by decide)]
   show(0,r)::(dP 0 (bI c 0)++_)=_
   rw[ih]
  ·rw[e0,e 0 (by decide),e 2 (by decide),e 3 (by decide),qF hd (by decide)]
   rw[qF hd (by decide)]at ih
   show(1,r)::(dP 0 []++(dP 1 (bI c 1)++_))=_
   rw[ih]
  ·rw[e0,e 0 (by decide),e 1 (by decide),e 3 (by decide),qF (d:=0) hd (by decide),qF (d:=1) hd (by decide)]
   rw[qF (d:=0) hd (by decide),qF (d:=1) hd (by decide)]at ih
   show(2,r)::(dP 0 []++(dP 1 []++(dP 2 (bI c 2)++_)))=_
   rw[ih]
  ·rw[e0,e 0 (by decide),e 1 (by decide),e 2 (by decide),qF (d:=0) hd (by decide),qF (d:=1) hd (by decide),qF (d:=2) hd (by decide)]
   rw[qF (d:=0) hd (by decide),qF (d:=1) hd (by decide),qF (d:=2) hd (by decide)]at ih
   show(3,r)::(dP 0 []++(dP 1 []++(dP 2 []++dP 3 (bI c 3))))=_
   rw[ih]
theorem Ud {d:Int} {l:aX}:dP d l=[]↔l=[]:=by simp[dP]
theorem Ue {p:Int→aX}:lF p=[]↔∀d,0≤d→d<4→p d=[]:=by
 unfold lF
 simp only[List.append_eq_nil_iff,Ud]
 constructor
 ·rintro⟨h0,h1,h2,h3⟩ d hd hd4
  rcases four hd hd4 with rfl|rfl|rfl|rfl<;>assumption
 ·exact fun h=>⟨h 0 (by decide) (by decide),h 1 (by decide) (by decide),h 2 (by decide) (by decide),h 3 (by decide) (by decide)⟩
def jr (a b:aW):Prop:=∀d n,0≤d→d<4→jQ a d n→jQ b d n
structure oW (how:Int) (a b c:aW):Prop where
 right:dw c
 mem:∀d n,0≤d→d<4→(jQ c d n↔gG how (jQ a d n) (jQ b d n))
theorem oW.whole {how:Int} {a b:aW} {p:Int→aX} (hp:∀d,0≤d→d<4→dA (p d)) (hm:∀d n,0≤d→d<4→(bU (p d) n↔gG how (jQ a d n) (jQ b d n))):oW how a b (lF p):=
 ⟨Hl hp,fun d n h0 h4=>by unfold jQ;rw[Bl p h0 h4];exact hm d n h0 h4⟩
theorem dw.Hg {c:aW} (h:dw c):c=[]↔∀d n,0≤d→d<4→¬jQ c d n:=by
 constructor
 ·rintro rfl d n _ _ hn
  exact lD n hn
 ·intro hn
  rw[←zH (Int.le_refl 0) h.1,Ue]
  exact fun d h0 h4=>(h.2 d h0 h4).Hg.2 fun n=>hn d n h0 h4
theorem oW.MS {a b c:aW} (h:oW 2 a b c):c=[]↔jr a b:=by
 rw[h.right.Hg]
 constructor
 ·intro hn d n h0 h4 hi
  exact Classical.byContradiction fun hb=>hn d n h0 h4 ((h.mem d n h0 h4).2 (by unfold gG;rw[if_pos rfl];exact⟨hi,hb⟩))
 ·intro hl d n h0 h4 hi
  have:=(h.mem d n h0 h4).1 hi
  unfold gG at this
  rw[if_pos rfl]at this
  exact this.2 (hl d n h0 h4 this.1)
def jR (n:Int):aX:=if 0<n then [(1,n)]else []
def eU (v:Int→Int):aW:=lF fun d=>jR (v d)
theorem Uf (m n:Int):bU (jR m) n↔1≤n∧n≤m:=by
 unfold jR
 split
 ·rw[zC]
 ·exact⟨fun h=>absurd h (lD n),fun h=>by omega⟩
theorem Ug {m:Int} (h:m≤1099511627776):dA (jR m):=by
 unfold jR
 split
 ·exact⟨⟨Int.le_refl _,by omega,trivial⟩,fun r hr=>by simp at hr;subst hr;exact h⟩
 ·exact wS
theorem Eo (v:Int→Int) {d:Int} (n:Int) (h0:0≤d) (h4:d<4):jQ (eU v) d n↔1≤n∧n≤v d:=by
 unfold jQ eU
 rw[Bl _ h0 h4,Uf]
theorem MV {v:Int→Int} (h:∀d,0≤d→d<4→v d≤1099511627776):dw (eU v):=Hl fun d h0 h4=>Ug (h d h0 h4)
theorem Uh (d a b d' n:Int):jQ [(d,a,b)] d' n↔d'=d∧a≤n∧n≤b:=by
 unfold jQ
 by_cases h:d=d'
 ·subst h
  rw[En (d,a,b) [],Em,zC]
  exact⟨fun h=>⟨rfl,h⟩,fun h=>h.2⟩
 ·rw[Bh (d,a,b) [] h,Em]
  exact⟨fun h=>absurd h (lD n),fun h1=>absurd h1.1.symm h⟩
theorem Ui {d a b:Int} (h0:0≤d) (h4:d<4) (ha:1≤a) (hab:a≤b) (hb:b≤1099511627776):dw [(d,a,b)]:=by
 refine⟨⟨h0,h4,trivial⟩,fun d' _ _=>?_⟩
 by_cases h:d=d'
 ·subst h
  rw[En (d,a,b) [],Em]
  exact⟨⟨ha,hab,trivial⟩,fun r hr=>by simp at hr;subst hr;exact hb⟩
 ·rw[Bh (d,a,b) [] h,Em]
  exact wS
theorem Ho:dw []:=⟨trivial,fun _ _ _=>wS⟩
structure og (l:List (Int×Int)) (c:aW):Prop where
 right:dw c
 mem:∀d n,0≤d→d<4→(jQ c d n↔(d,n)∈l)
open Go.RowKit
abbrev ay:Nat→Prop:=fun _=>False
def uJ (n:Int):Bool:=decide (1≤n∧n≤1099511627776)
def nJ (d n:Int):Bool:=decide (0≤d∧d<4∧1≤n∧n≤1099511627776)
theorem yC (n:Int) (w:World):Calls Tryz.prog 267 #[.int .i64 n] w fun e w'=>e= .returned (.bool (uJ n))∧w'=w:=by
 go_enter Tryz.func267,Tryz.ntmps267
 go_wp2
 all_goals
  go_ret
  refine⟨bP ?_,rfl⟩
  rw[Bool.eq_iff_iff]
  simp[uJ]<;>omega
theorem zI (d n:Int) (w:World):Calls Tryz.prog 236 #[.agg #[.int .i64 d, .int .i64 n]] w fun e w'=>e= .returned (.bool (nJ d n))∧aj ay w w':=by
 go_enter Tryz.func236,Tryz.ntmps236
 go_wp2
 all_goals
  go_ret
  refine⟨bP ?_,aj.alloc _ _ _⟩
  rw[Bool.eq_iff_iff]
  simp[nJ]<;>omega
theorem MW (d n:Int) (w:World):Calls Tryz.prog 263 #[.agg #[.int .i64 d, .int .i64 n]] w fun e w'=>e= .returned (.bool (nJ d n))∧aj ay w w':=by
 go_enter Tryz.func263,Tryz.ntmps263
 go_wp2
 all_goals
  go_ret
  refine⟨bP ?_,aj.alloc _ _ _⟩
  rw[Bool.eq_iff_iff]
  simp[nJ]<;>omega
def rE (s:ByteArray):Bool:=decide (1≤s.size∧s.size≤30)
theorem vI (s:ByteArray) (w:World) (h:s.size≤9223372036854775807):Calls Tryz.prog 250 #[.string s] w fun e w'=>e= .returned (.bool (rE s))∧w'=w:=by
 go_enter Tryz.func250,Tryz.ntmps250
 go_wp2
 all_goals
  go_ret
  refine⟨bP ?_,rfl⟩
  rw[Bool.eq_iff_iff]
  simp[rE]<;>omega
theorem vJ (s:ByteArray) (w:World) (h:s.size≤9223372036854775807):Calls Tryz.prog 240 #[.string s] w fun e w'=>e= .returned (.bool (rE s))∧w'=w:=by
 go_enter Tryz.func240,Tryz.ntmps240
 go_wp2
 all_goals
  go_ret
  refine⟨bP ?_,rfl⟩
  rw[Bool.eq_iff_iff]
  simp[rE]<;>omega
theorem empty_any (a b:Option Addr) (n m c d:Nat) (w:World):Calls Tryz.prog 200 #[.agg #[.slice a n c, .slice b m d]] w fun e w'=>e= .returned (.bool (decide (n=0∧m=0)))∧aj ay w w':=by
 go_enter Tryz.func200,Tryz.ntmps200
 go_wp2
 all_goals
  go_ret
  refine⟨bP ?_,aj.alloc _ _ _⟩
  rw[Bool.eq_iff_iff]
  simp<;>omega
def vK (d n e m:Int):Bool:=decide (d<e∨d=e∧n<m)
theorem Bo (d n e m:Int) (w:World):Calls Tryz.prog 109 #[.agg #[.int .i64 d, .int .i64 n], .agg #[.int .i64 e, .int .i64 m]] w fun x w'=>x= .returned (.bool (vK d n e m))∧aj ay w w':=by
 by_cases h:d=e
 ·subst h
  go_enter Tryz.func109,Tryz.ntmps109
  go_wp2
  go_ret
  refine⟨bP ?_,(aj.alloc _ _ _).trans (aj.alloc _ _ _) (fun _ _ h=>h)⟩
  rw[Bool.eq_iff_iff]
  simp[vK]
 ·have h1:((d:Int)==e)=false:=by simpa using h
  go_enter Tryz.func109,Tryz.ntmps109
  go_wp2
  go_ret
  refine⟨bP ?_,(aj.alloc _ _ _).trans (aj.alloc _ _ _) (fun _ _ h=>h)⟩
  rw[Bool.eq_iff_iff]
  simp[vK]<;>omega
theorem Uj (a:Int) (w:World):Calls Tryz.prog 266 #[.int .i64 a] w fun e w'=>e= .returned (.bool false)∧w'=w:=by
 go_enter Tryz.func266,Tryz.ntmps266
 go_wp2
 go_ret
 exact⟨rfl,rfl⟩
theorem Uk (a:Int) (w:World):Calls Tryz.prog 293 #[.int .i64 a] w fun e w'=>e= .returned (.bool false)∧w'=w:=by
 go_enter Tryz.func293,Tryz.ntmps293
 go_wp2
 go_ret
 exact⟨rfl,rfl⟩
def sH (a b:Int):Int:=if a<b then-1 else if b<a then 1 else 0
theorem MX (a b:Int) (w:World):Calls Tryz.prog 234 #[.int .i64 a, .int .i64 b] w fun e w'=>e= .returned (.int .i64 (sH a b))∧w'=w:=by
 go_enter Tryz.func234,Tryz.ntmps234
 go_wp2_with(go_at_call 266;refine(Uj _ _).mono ?_;rintro e w' ⟨rfl,rfl⟩)
 all_goals
  go_ret
  refine⟨zB ?_,rfl⟩
  unfold sH
  split
  ·omega
  ·first|omega|(split<;>omega)
theorem Ul (a b:Int) (w:World):Calls Tryz.prog 270 #[.int .i64 a, .int .i64 b] w fun e w'=>e= .returned (.int .i64 (sH a b))∧w'=w:=by
 go_enter Tryz.func270,Tryz.ntmps270
 go_wp2_with(go_at_call 293;refine(Uk _ _).mono ?_;rintro e w' ⟨rfl,rfl⟩)
 all_goals
  go_ret
  refine⟨zB ?_,rfl⟩
  unfold sH
  split
  ·omega
  ·first|omega|(split<;>omega)
open Go.RowKit
def Ep (x y:Int):Int:=if x=0 then y else x
theorem Um (b c:Nat) (x y:Int) (w:World) (hx:w.cell? ⟨b,0,none⟩=some (.int .i64 x)) (hy:w.cell? ⟨b,1,none⟩=some (.int .i64 y)):
 Calls Tryz.prog 269 #[.slice (some ⟨b,0,none⟩) 2 c] w fun e w'=>e= .returned (.int .i64 (Ep x y))∧w'=w:=by
 by_cases h0:x=0
 ·subst h0
  by_cases h1:y=0
  ·subst h1
   go_enter Tryz.func269,Tryz.ntmps269
   go_wp2
   go_loop [8] (fun i=>∃k:Nat,k≤2∧i= .int .i64 k) (fun i=>2-(intOf i).toNat)
   case atStart=>exact⟨0,by omega,rfl⟩
   case round=>
    obtain⟨k,hk,rfl⟩:=hrel
    rcases(by omega:k=0∨k=1∨k=2)with rfl|rfl|rfl
    ·go_wp2
     go_round
     case rel=>exact⟨1,by omega,rfl⟩
     case measure=>simp[intOf]
    ·go_wp2
     go_round
     case rel=>exact⟨2,by omega,rfl⟩
     case measure=>simp[intOf]
    ·go_wp2
     go_ret
     exact⟨rfl,rfl⟩
  ·have h2:((y:Int)==0)=false:=by simpa using h1
   go_enter Tryz.func269,Tryz.ntmps269
   go_wp2
   go_loop [8] (fun i=>∃k:Nat,k≤1∧i= .int .i64 k) (fun i=>2-(intOf i).toNat)
   case atStart=>exact⟨0,by omega,rfl⟩
   case round=>
    obtain⟨k,hk,rfl⟩:=hrel
    rcases(by omega:k=0∨k=1)with rfl|rfl
    ·go_wp2
     go_round
     case rel=>exact⟨1,by omega,rfl⟩
     case measure=>simp[intOf]
    ·go_wp2
     go_ret
     exact⟨rfl,rfl⟩
 ·have h2:((x:Int)==0)=false:=by simpa using h0
  go_enter Tryz.func269,Tryz.ntmps269
  go_wp2
  go_loop [8] (fun i=>i= .int .i64 0) (fun i=>2-(intOf i).toNat)
  case atStart=>rfl
  case round=>
   obtain rfl:=hrel
   go_wp2
   go_ret
   exact⟨zB (by simp[Ep,h0]),rfl⟩
def wU (d n e m:Int):Int:=Ep (sH d e) (sH n m)
theorem Un (d n e m:Int):decide (wU d n e m<0)=vK d n e m:=by
 rw[Bool.eq_iff_iff]
 simp only[wU,vK,decide_eq_true_eq]
 unfold Ep sH
 by_cases h1:d<e
 ·simp[h1]
 ·by_cases h2:e<d
  ·simp[h1,h2];omega
  ·have:d=e:=by omega
   subst this
   by_cases h3:n<m
   ·simp[h3]
   ·by_cases h4:m<n<;>simp[h3,h4]<;>omega
theorem uK (d n e m:Int) (w:World):Calls Tryz.prog 241 #[.agg #[.int .i64 d, .int .i64 n], .agg #[.int .i64 e, .int .i64 m]] w fun x w'=>x= .returned (.int .i64 (wU d n e m))∧aj ay w w':=by
 go_enter Tryz.func241,Tryz.ntmps241
 go_wp2_with fail
 go_region_held3 (fun w'=>w'.cell? ⟨w.heap.size,0,none⟩=some (.int .i64 d)∧w'.cell? ⟨w.heap.size,1,none⟩=some (.int .i64 n)∧w'.cell? ⟨w.heap.size+1,0,none⟩=some (.int .i64 e)∧w'.cell? ⟨w.heap.size+1,1,none⟩=some (.int .i64 m))
  (go_keep)
  (first
    |(go_at_call 270;refine(Ul _ _ _).mono ?_;rintro e w' ⟨rfl,rfl⟩)
    |(go_at_call 234;refine(MX _ _ _).mono ?_;rintro e w' ⟨rfl,rfl⟩)
    |(go_at_call 269;refine(Um _ _ (sH d e) (sH n m) _ (by go_simp) (by go_simp)).mono ?_;rintro e w' ⟨rfl,rfl⟩))
 all_goals
  go_wp2
  go_ret
  exact⟨rfl,by repeat(first|exact aj.refl _ _|refine aj.alloc1 ?_|refine aj.vG ?_)⟩
open Go.RowKit
def dU (l:aX):List Value:=l.flatMap fun r=> [.int .i64 r.1, .int .i64 r.2]
def nK (l:List Int):List Value:=l.map fun n=> .int .i64 n
def eu (c:aW):List Value:=c.flatMap fun s=> [.int .i64 s.1, .int .i64 s.2.1, .int .i64 s.2.2]
theorem oZ (a b:aX):dU (a++b)=dU a++dU b:=by simp[dU]
theorem Es (a b:List Int):nK (a++b)=nK a++nK b:=by simp[nK]
theorem yD (a b:aW):eu (a++b)=eu a++eu b:=by simp[eu]
theorem wV:∀l:aX,(dU l).length=l.length*2
 |[]=>rfl
 |r::l=>by
  have e:dU (r::l)=[.int .i64 r.1, .int .i64 r.2]++dU l:=rfl
  rw[e,List.length_append,wV l];simp;omega
theorem Et:∀c:aW,(eu c).length=c.length*3
 |[]=>rfl
 |s::c=>by
  have e:eu (s::c)=[.int .i64 s.1, .int .i64 s.2.1, .int .i64 s.2.2]++eu c:=rfl
  rw[e,List.length_append,Et c];simp;omega
@[simp] theorem acy (l:List Int):(nK l).length=l.length:=by simp[nK]
theorem Uo (l:aX):∀v∈dU l,v.oneCell'=true:=by
 intro v hv
 simp only[dU,List.mem_flatMap]at hv
 obtain⟨r,_,hv⟩:=hv
 simp at hv
 rcases hv with rfl|rfl<;>rfl
theorem Hq (c:aW):∀v∈eu c,v.oneCell'=true:=by
 intro v hv
 simp only[eu,List.mem_flatMap]at hv
 obtain⟨r,_,hv⟩:=hv
 simp at hv
 rcases hv with rfl|rfl|rfl<;>rfl
theorem Ur (l:List Int):∀v∈nK l,v.oneCell'=true:=by
 intro v hv
 simp only[nK,List.mem_map]at hv
 obtain⟨r,_,rfl⟩:=hv
 rfl
theorem Eu:∀(l:aX) (k:Nat),k<l.length→(dU l)[k*2]?=some (.int .i64 (l.getD k (0,0)).1)∧(dU l)[k*2+1]?=some (.int .i64 (l.getD k (0,0)).2)
 |[],_,h=>by cases h
 |r::l,0,_=>⟨rfl,rfl⟩
 |r::l,k+1,h=>by
  obtain⟨h1,h2⟩:=Eu l k (by simpa using h)
  have e:dU (r::l)= .int .i64 r.1:: .int .i64 r.2::dU l:=rfl
  rw[e,show(k+1)*2=k*2+1+1 by omega,show k*2+1+1+1=(k*2+1)+1+1 by omega]
  exact⟨h1,h2⟩
theorem MZ:∀(c:aW) (k:Nat),k<c.length→(eu c)[k*3]?=some (.int .i64 (c.getD k (0,0,0)).1)∧(eu c)[k*3+1]?=some (.int .i64 (c.getD k (0,0,0)).2.1)∧(eu c)[k*3+2]?=some (.int .i64 (c.getD k (0,0,0)).2.2)
 |[],_,h=>by cases h
 |r::l,0,_=>⟨rfl,rfl,rfl⟩
 |r::l,k+1,h=>by
  obtain⟨h1,h2,h3⟩:=MZ l k (by simpa using h)
  have e:eu (r::l)= .int .i64 r.1:: .int .i64 r.2.1:: .int .i64 r.2.2::eu l:=rfl
  rw[e,show(k+1)*3=k*3+1+1+1 by omega,show k*3+1+1+1+1=(k*3+1)+1+1+1 by omega,show k*3+1+1+1+2=(k*3+2)+1+1+1 by omega]
  exact⟨h1,h2,h3⟩
def ku (w:World) (v:Value) (l:aX):Prop:=Rd w v l.length (dU l)
def fZ (w:World) (v:Value) (c:aW):Prop:=Rd w v c.length (eu c)
def Ew (w:World) (v:Value) (l:List Int):Prop:=Rd w v l.length (nK l)
theorem Rd.aO {w w':World} {v:Value} {n:Nat} {xs:List Value} (h:Rd w v n xs) (f:aj ay w w'):Rd w' v n xs:=h.keep f fun _ _ h=>h
theorem Rd.shape {w:World} {v:Value} {n:Nat} {xs:List Value} (h:Rd w v n xs):(∃ad,v= .slice ad 0 0∧n=0)∨∃b off c,v= .slice (some ⟨b,off,none⟩) n c∧(n:Int)≤9223372036854775807:=by
 rcases h with⟨ad,h1,h2,_⟩|⟨b,off,c,h1,h2,h3,_⟩
 ·exact .inl ⟨ad,h1,h2⟩
 ·exact .inr ⟨b,off,c,h1,by simp only[maxLen]at h3;omega⟩
theorem Rd.sl {w:World} {v:Value} {n:Nat} {xs:List Value} (h:Rd w v n xs):∃a c,v= .slice a n c:=by
 rcases h with⟨ad,h1,h2,_⟩|⟨b,off,c,h1,_⟩
 ·exact⟨ad,0,by rw[h1,h2]⟩
 ·exact⟨_,c,h1⟩
theorem Rd.cell {w:World} {b off c n:Nat} {xs:List Value} (h:Rd w (.slice (some ⟨b,off,none⟩) n c) n xs) (j:Nat) (u:Value) (hu:xs[j]?=some u):w.cell? ⟨b,off+j,none⟩=some u:=by
 rcases h with⟨ad,h1,h2,h3⟩|⟨b',off',c',h1,_,_,h4⟩
 ·subst h3;simp at hu
 ·injection h1 with e1 e2 e3
  injection e1 with e1
  injection e1 with e4 e5
  subst e4 e5
  exact h4 j u hu
theorem nM {w:World} {b off c n:Nat} {l:aX} (h:ku w (.slice (some ⟨b,off,none⟩) n c) l) (hn:n=l.length) (k:Nat) (hk:k<l.length):
 w.cell? ⟨b,off+k*2,none⟩=some (.int .i64 (l.getD k (0,0)).1)∧w.cell? ⟨b,off+k*2+1,none⟩=some (.int .i64 (l.getD k (0,0)).2):=by
 subst hn
 exact⟨h.cell _ _ (Eu l k hk).1,h.cell (k*2+1) _ (Eu l k hk).2⟩
theorem vM {w:World} {b off c n:Nat} {l:aW} (h:fZ w (.slice (some ⟨b,off,none⟩) n c) l) (hn:n=l.length) (k:Nat) (hk:k<l.length):
 w.cell? ⟨b,off+k*3,none⟩=some (.int .i64 (l.getD k (0,0,0)).1)∧w.cell? ⟨b,off+k*3+1,none⟩=some (.int .i64 (l.getD k (0,0,0)).2.1)∧w.cell? ⟨b,off+k*3+2,none⟩=some (.int .i64 (l.getD k (0,0,0)).2.2):=by
 subst hn
 obtain⟨h1,h2,h3⟩:=MZ l k hk
 exact⟨h.cell _ _ h1,h.cell (k*3+1) _ h2,h.cell (k*3+2) _ h3⟩
theorem M_ {w:World} {b off c n:Nat} {l:List Int} (h:Ew w (.slice (some ⟨b,off,none⟩) n c) l) (hn:n=l.length) (k:Nat) (hk:k<l.length):w.cell? ⟨b,off+k,none⟩=some (.int .i64 (l.getD k 0)):=by
 subst hn
 exact h.cell _ _ (by simp[nK,List.getD,hk])
theorem getD_at {α:Type} {l:List α} {k:Nat} (d:α) (h:k<l.length):l.getD k d=l[k]:=by simp[List.getD,h]
theorem getD_mem {α:Type} {l:List α} {k:Nat} (d:α) (h:k<l.length):l.getD k d∈l:=by rw[getD_at d h];exact List.getElem_mem h
theorem take_succ {α:Type} {l:List α} {k:Nat} (d:α) (h:k<l.length):l.take (k+1)=l.take k++ [l.getD k d]:=by rw[List.take_succ_eq_append_getElem h,getD_at d h]
theorem Na:∀ {a b:aX} {lo:Int},gQ lo (a++b)→gQ lo a
 |[],_,_,_=>trivial
 |_::_,_,_,h=>⟨h.1,h.2.1,Na h.2.2⟩
theorem dA.take {l:aX} (h:dA l) (k:Nat):dA (l.take k):=by
 refine⟨Na (b:=l.drop k) (by rw[List.take_append_drop];exact h.1),fun r hr=>h.2 r (List.mem_of_mem_take hr)⟩
theorem Hr {l:aX} {k:Nat} (h:dA (l.take k)) (hk:k<l.length):
 dA (l.take (k+1))↔1≤(l.getD k (0,0)).1∧(l.getD k (0,0)).2≤1099511627776∧(l.getD k (0,0)).1≤(l.getD k (0,0)).2∧(0<k→(l.getD (k-1) (0,0)).2+2≤(l.getD k (0,0)).1):=by
 rw[take_succ (0,0) hk]
 generalize l.getD k (0,0)=r
 unfold dA
 rw[zF]
 constructor
 ·rintro⟨⟨_,h2,h3,h4⟩,h5⟩
  refine⟨h2,h5 r (by simp),h3,fun h0=>h4 _ ?_⟩
  obtain⟨j,rfl⟩:∃j,k=j+1:=⟨k-1,by omega⟩
  rw[take_succ (0,0) (by omega)]
  simp
 ·rintro⟨h1,h2,h3,h4⟩
  refine⟨⟨h.1,h1,h3,fun x hx=>?_⟩,fun x hx=>?_⟩
  ·rcases Nat.eq_zero_or_pos k with rfl|h0
   ·simp at hx
   ·have h5:=h4 h0
    obtain⟨j,rfl⟩:∃j,k=j+1:=⟨k-1,by omega⟩
    have h6:=h.1
    rw[take_succ (0,0) (by omega)]at hx h6
    obtain⟨_,_,h8,h9⟩:=zF.1 h6
    rw[show j+1-1=j by omega]at h5
    rcases List.mem_append.1 hx with hx|hx
    ·have:=h9 x hx;omega
    ·simp only[List.mem_singleton]at hx;subst hx;exact h5
  ·rcases List.mem_append.1 hx with hx|hx
   ·exact h.2 x hx
   ·simp only[List.mem_singleton]at hx;subst hx;exact h2
theorem Nb {l:aX} {k:Nat} (h:dA (l.take k)) (hk:k<l.length)
 (hn:¬(1≤(l.getD k (0,0)).1∧(l.getD k (0,0)).2≤1099511627776∧(l.getD k (0,0)).1≤(l.getD k (0,0)).2∧(0<k→(l.getD (k-1) (0,0)).2+2≤(l.getD k (0,0)).1))):¬dA l:=
 fun hl=>hn ((Hr h hk).1 (hl.take (k+1)))
def Fits (l:aX):Prop:=∀r∈l,-9223372036854775808≤r.1∧r.1≤9223372036854775807∧-9223372036854775808≤r.2∧r.2≤9223372036854775807
theorem dA.fits {l:aX} (h:dA l):Fits l:=fun r hr=>by
 have:=mY h.1 r hr
 have:=h.2 r hr
 omega
open Go.RowKit
theorem Ht (w:World) (v:Value) (l:aX) (hv:ku w v l) (hf:Fits l):
 Calls Tryz.prog 190 #[v] w fun e w'=>e= .returned (.bool (tf (dA l)))∧aj ay w w':=by
 rcases Rd.shape hv with⟨ad,rfl,h0⟩|⟨b,off,c,rfl,hmax⟩
 ·obtain rfl:l=[]:=List.eq_nil_of_length_eq_zero h0
  rw[bZ wS]
  clear hv hf
  go_enter Tryz.func190,Tryz.ntmps190
  go_wp2
  go_loop [6] (fun i=>i= .int .i64 0) (fun _=>0)
  case atStart=>rfl
  case round=>
   obtain rfl:=hrel
   go_wp2
   go_ret
   exact⟨rfl,aj.refl _ _⟩
 ·have HH:=ah hv;clear hv
  have HF:=ah hf;clear hf
  generalize hn:l.length=n at*
  have HN:=ah hn;clear hn
  go_enter Tryz.func190,Tryz.ntmps190
  go_wp2
  go_loopw [6] (fun i ww=>∃k:Nat,k≤n∧i= .int .i64 k∧dA (l.take k)∧∃q,ww=w.drewN q) (fun i _=>n-(intOf i).toNat)
  case atStart=>exact⟨0,Nat.zero_le _,rfl,wS,0,rfl⟩
  case round=>
   obtain⟨k,hk,rfl,hr,q,rfl⟩:=hrel
   have HR:=ah hr;clear hr
   by_cases hlt:k<n
   ·obtain⟨q1,q2⟩:=nM HH.out HN.out.symm k (by rw[HN.out];exact hlt)
    have hfit:=HF.out _ (getD_mem (0,0) (show k<l.length by rw[HN.out];exact hlt))
    have HS:=ah (Hr HR.out (show k<l.length by rw[HN.out];exact hlt))
    have HX:=ah (Nb HR.out (show k<l.length by rw[HN.out];exact hlt))
    generalize l.getD k (0,0)=r at*
    by_cases c1:r.1<1
    ·go_wp2_with fail
     go_big_quiet (fail)
     go_wp2
     go_ret
     exact⟨bP (aZ (HX.out (by omega))).symm,(aj.drewN _ _ _).iH⟩
    ·have d1:decide (r.1<1)=false:=by simpa using c1
     by_cases c2:1099511627776<r.2
     ·go_wp2_with fail
      go_big_quiet (fail)
      go_wp2
      go_ret
      exact⟨bP (aZ (HX.out (by omega))).symm,(aj.drewN _ _ _).iH⟩
     ·have d2:decide (1099511627776<r.2)=false:=by simpa using c2
      by_cases c3:r.2<r.1
      ·go_wp2_with fail
       go_big_quiet (fail)
       go_wp2
       go_ret
       exact⟨bP (aZ (HX.out (by omega))).symm,(aj.drewN _ _ _).iH⟩
      ·have d3:decide (r.2<r.1)=false:=by simpa using c3
       rcases Nat.eq_zero_or_pos k with rfl|hk0
       ·simp only[Nat.zero_mul,Nat.add_zero]at q1 q2
        go_wp2_with fail
        go_big_quiet (fail)
        go_wp2
        go_roundw
        case rel=>exact⟨0+1,by omega,by go_num,HS.out.2 ⟨by omega,by omega,by omega,by omega⟩,q+nq,by first|rfl|rw[World.drewN_drewN]⟩
        case measure=>simp[intOf];omega
       ·obtain⟨j,rfl⟩:∃j,k=j+1:=⟨k-1,by omega⟩
        obtain⟨-,p2⟩:=nM HH.out HN.out.symm j (by rw[HN.out];omega)
        have Us:=HF.out _ (getD_mem (0,0) (show j<l.length by rw[HN.out];omega))
        rw[show j+1-1=j by omega]at HS HX
        have Ut:1≤(l.getD j (0,0)).2∧(l.getD j (0,0)).2≤1099511627776:=by
         have hm:=getD_mem (0,0) (show j<(l.take (j+1)).length by rw[List.length_take,HN.out];omega)
         have he:(l.take (j+1)).getD j (0,0)=l.getD j (0,0):=by simp[List.getD]
         rw[he]at hm
         have:=mY HR.out.1 _ hm
         have:=HR.out.2 _ hm
         omega
        generalize l.getD j (0,0)=p at*
        have hd:wrap64 (j:Int)=j:=by unfold wrap64;omega
        by_cases c4:r.1-p.2<2
        ·go_wp2_with fail
         go_big_quiet (fail)
         go_wp2
         go_ret
         exact⟨bP (aZ (HX.out (by omega))).symm,(aj.drewN _ _ _).iH⟩
        ·go_wp2_with fail
         go_big_quiet (fail)
         go_wp2
         go_roundw
         case rel=>exact⟨j+1+1,by omega,by go_num,HS.out.2 ⟨by omega,by omega,by omega,by omega⟩,q+nq,by first|rfl|rw[World.drewN_drewN]⟩
         case measure=>simp[intOf];omega
   ·obtain rfl:k=n:=by omega
    have hall:dA l:=by
     have:=HR.out
     rwa [List.take_of_length_le (by rw[HN.out];exact Nat.le_refl _)]at this
    have HA:=ah hall;clear hall
    go_wp2
    go_ret
    exact⟨bP (bZ HA.out).symm,aj.drewN _ _ _⟩
open Go.RowKit
theorem Ey (w:World) (v:Value) (l:aX) (hv:ku w v l) (hf:Fits l):
 Calls Tryz.prog 251 #[v] w fun e w'=>e= .returned (.bool (tf (dA l)))∧aj ay w w':=by
 rcases Rd.shape hv with⟨ad,rfl,h0⟩|⟨b,off,c,rfl,hmax⟩
 ·obtain rfl:l=[]:=List.eq_nil_of_length_eq_zero h0
  rw[bZ wS]
  clear hv hf
  go_enter Tryz.func251,Tryz.ntmps251
  go_wp2
  go_loop [7] (fun i=>i= .int .i64 0) (fun _=>0)
  case atStart=>rfl
  case round=>
   obtain rfl:=hrel
   go_wp2
   go_ret
   exact⟨rfl,aj.refl _ _⟩
 ·have HH:=ah hv;clear hv
  have HF:=ah hf;clear hf
  generalize hn:l.length=n at*
  have HN:=ah hn;clear hn
  go_enter Tryz.func251,Tryz.ntmps251
  go_wp2
  go_loopw [7] (fun i ww=>∃k:Nat,k≤n∧i= .int .i64 k∧dA (l.take k)∧aj ay w ww) (fun i _=>n-(intOf i).toNat)
  case atStart=>exact⟨0,Nat.zero_le _,rfl,wS,aj.refl _ _⟩
  case round=>
   obtain⟨k,hk,rfl,hr,hw⟩:=hrel
   have HR:=ah hr;clear hr
   have HW:=ah hw;clear hw
   by_cases hlt:k<n
   ·obtain⟨q1,q2⟩:=nM (HH.out.aO HW.out) HN.out.symm k (by rw[HN.out];exact hlt)
    have hbl:=World.block_lt_of_cell? _ _ q1
    have hbl:b<wr.heap.size:=hbl
    have hfit:=HF.out _ (getD_mem (0,0) (show k<l.length by rw[HN.out];exact hlt))
    have HS:=ah (Hr HR.out (show k<l.length by rw[HN.out];exact hlt))
    have HX:=ah (Nb HR.out (show k<l.length by rw[HN.out];exact hlt))
    generalize l.getD k (0,0)=r at*
    cases n1:uJ r.1 with
    |false=>
     go_wp2_with fail
     go_big_quiet ((go_at_call 267;exact Calls.quiet_of_same (yC _ _)))
     go_wp2
     go_ret
     exact⟨bP (aZ (HX.out (by unfold uJ at n1;simp at n1;omega))).symm,HW.out.alloc1.iH⟩
    |true=>
     cases n2:uJ r.2 with
     |false=>
      go_wp2_with fail
      go_big_quiet ((go_at_call 267;exact Calls.quiet_of_same (yC _ _)))
      go_wp2
      go_ret
      exact⟨bP (aZ (HX.out (by unfold uJ at n1 n2;simp at n1 n2;omega))).symm,HW.out.alloc1.iH⟩
     |true=>
      by_cases c3:r.2<r.1
      ·go_wp2_with fail
       go_big_quiet ((go_at_call 267;exact Calls.quiet_of_same (yC _ _)))
       go_wp2
       go_ret
       exact⟨bP (aZ (HX.out (by omega))).symm,HW.out.alloc1.iH⟩
      ·have d3:decide (r.2<r.1)=false:=by simpa using c3
       rcases Nat.eq_zero_or_pos k with rfl|hk0
       ·simp only[Nat.zero_mul,Nat.add_zero]at q1 q2
        go_wp2_with fail
        go_big_quiet ((go_at_call 267;exact Calls.quiet_of_same (yC _ _)))
        go_wp2
        go_roundw
        case rel=>exact⟨0+1,by omega,by go_num,HS.out.2 (by unfold uJ at n1 n2;simp at n1 n2;omega),HW.out.alloc1.iH⟩
        case measure=>simp[intOf];omega
       ·obtain⟨j,rfl⟩:∃j,k=j+1:=⟨k-1,by omega⟩
        obtain⟨-,p2⟩:=nM (HH.out.aO HW.out) HN.out.symm j (by rw[HN.out];omega)
        have Us:=HF.out _ (getD_mem (0,0) (show j<l.length by rw[HN.out];omega))
        rw[show j+1-1=j by omega]at HS HX
        have Ut:1≤(l.getD j (0,0)).2∧(l.getD j (0,0)).2≤1099511627776:=by
         have hm:=getD_mem (0,0) (show j<(l.take (j+1)).length by rw[List.length_take,HN.out];omega)
         have he:(l.take (j+1)).getD j (0,0)=l.getD j (0,0):=by simp[List.getD]
         rw[he]at hm
         have:=mY HR.out.1 _ hm
         have:=HR.out.2 _ hm
         omega
        generalize l.getD j (0,0)=p at*
        have hd:wrap64 (j:Int)=j:=by unfold wrap64;omega
        by_cases c4:r.1≤p.2+1
        ·go_wp2_with fail
         go_big_quiet ((go_at_call 267;exact Calls.quiet_of_same (yC _ _)))
         go_wp2
         go_ret
         exact⟨bP (aZ (HX.out (by omega))).symm,HW.out.alloc1.iH⟩
        ·go_wp2_with fail
         go_big_quiet ((go_at_call 267;exact Calls.quiet_of_same (yC _ _)))
         go_wp2
         go_roundw
         case rel=>exact⟨j+1+1,by omega,by go_num,HS.out.2 (by unfold uJ at n1 n2;simp at n1 n2;omega),HW.out.alloc1.iH⟩
         case measure=>simp[intOf];omega
   ·obtain rfl:k=n:=by omega
    have hall:dA l:=by
     have:=HR.out
     rwa [List.take_of_length_le (by rw[HN.out];exact Nat.le_refl _)]at this
    have HA:=ah hall;clear hall
    go_wp2
    go_ret
    exact⟨bP (bZ HA.out).symm,HW.out⟩
end Go.Proofs.YtabkpccdnkjoiaaGreat
