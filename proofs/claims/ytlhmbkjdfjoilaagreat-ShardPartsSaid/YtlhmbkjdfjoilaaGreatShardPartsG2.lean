/- Words for the law ShardParts: Ctx, BSmall, Reg, BDot, RunAt, R6, SpRight. -/
import Derived.Test.YtlhmbkjdfjoilaaGreatShardPartsG0
import Derived.Test.YtlhmbkjdfjoilaaGreatShardPartsG1
import Derived.Test.YtlhmbkjdfjoilaaGreatChecked
import Derived.Deep.RegionHeld
import Derived.Deep.RegionHeld3
import Derived.Deep.DeepCutAuto
import Derived.Deep.RegionWith
set_option linter.unusedSimpArgs false
set_option linter.unusedVariables false
set_option maxHeartbeats 32000000
set_option maxRecDepth 1000000
namespace Go.Proofs.YtlhmbkjdfjoilaaGreat
noncomputable def tf (p:Prop):Bool:=@decide p (Classical.propDecidable p)
theorem dD {p:Prop} (h:p):tf p=true:=by unfold tf;exact @decide_eq_true p (Classical.propDecidable p) h
theorem bW {p:Prop} (h:¬p):tf p=false:=by unfold tf;exact @decide_eq_false p (Classical.propDecidable p) h
theorem vP {p:Prop}:tf p=true↔p:=⟨fun h=>Classical.byContradiction fun hn=>(by rw[bW hn]at h;cases h),dD⟩
theorem vS {p:Prop}:tf p=false↔¬p:=⟨fun h hp=>(by rw[dD hp]at h;cases h),bW⟩
theorem vT {p q:Prop} (h:p↔q):tf p=tf q:=by rw[propext h]
theorem vU {b:Bool} {p:Prop} (h:b=true↔p):b=tf p:=by
 cases b with
 |true=>exact(dD (h.1 rfl)).symm
 |false=>exact(bW fun hp=>by cases h.2 hp).symm
def bP (l:aS):Prop:=dW 1 l∧∀r∈l,r.2≤1099511627776
theorem jm:∀ {l:aS} {lo:Int},dW lo l→∀r∈l,lo≤r.1∧r.1≤r.2
 |[],_,_,r,hr=>by cases hr
 |y::l,lo,h,r,hr=>by
  rcases List.mem_cons.1 hr with rfl|hr
  ·exact⟨h.1,h.2.1⟩
  ·have:=jm h.2.2 r hr
   have:=h.1
   have:=h.2.1
   omega
theorem bP.Dk {l:aS} (h:bP l) {n:Int} (hn:aV l n):1≤n∧n≤1099511627776:=by
 obtain⟨r,hr,h1,h2⟩:=hn
 have:=jm h.1 r hr
 have:=h.2 r hr
 omega
theorem bP.of {l:aS} (h:dW 1 l) (hn:∀n,aV l n→n≤1099511627776):bP l:=
 ⟨h,fun r hr=>hn r.2 ⟨r,hr,(jm h r hr).2,Int.le_refl _⟩⟩
theorem vV:bP []:=⟨trivial,fun r hr=>by cases hr⟩
theorem OO {l l':aS} (h:bP l) (h':bP l') (he:∀n,aV l n↔aV l' n):l=l':=Ik h.1 h'.1 he
theorem bP.Dl {l:aS} (h:bP l):l=[]↔∀n,¬aV l n:=by
 constructor
 ·rintro rfl n;exact jE n
 ·intro hn
  cases l with
  |nil=>rfl
  |cons r l=>exact absurd ⟨r,List.mem_cons_self,Int.le_refl _,h.1.2.1⟩ (hn r.1)
abbrev aU:=List (Int×Int×Int)
def bC (c:aU) (d:Int):aS:=(c.filter fun s=>s.1==d).map (·.2)
def iM (c:aU) (d n:Int):Prop:=aV (bC c d) n
def fD:Int→aU→Prop
 |_,[]=>True
 |lo,s::c=>lo≤s.1∧s.1<4∧fD s.1 c
def bZ (c:aU):Prop:=fD 0 c∧∀d,0≤d→d<4→bP (bC c d)
def dS (d:Int) (l:aS):aU:=l.map fun r=>(d,r.1,r.2)
def jF (p:Int→aS):aU:=dS 0 (p 0)++(dS 1 (p 1)++(dS 2 (p 2)++dS 3 (p 3)))
theorem xY (a b:aU) (d:Int):bC (a++b) d=bC a d++bC b d:=by simp[bC]
theorem Iy (s:Int×Int×Int) (c:aU):bC (s::c) s.1=s.2::bC c s.1:=by simp[bC]
theorem Dn (s:Int×Int×Int) (c:aU) {d:Int} (h:s.1≠d):bC (s::c) d=bC c d:=by simp[bC,h]
theorem xZ (d:Int) (l:aS):bC (dS d l) d=l:=by
 unfold bC dS
 rw[List.filter_eq_self.2 (by intro s hs;simp at hs;obtain⟨a,b,_,rfl⟩:=hs;simp),List.map_map]
 exact List.map_id l
theorem mZ {d d':Int} (l:aS) (h:d≠d'):bC (dS d l) d'=[]:=by
 unfold bC dS
 rw[List.filter_eq_nil_iff.2 (by intro s hs;simp at hs;obtain⟨a,b,_,rfl⟩:=hs;simpa using h)]
 rfl
theorem four {d:Int} (h0:0≤d) (h4:d<4):d=0∨d=1∨d=2∨d=3:=by omega
theorem Dp (p:Int→aS) {d:Int} (h0:0≤d) (h4:d<4):bC (jF p) d=p d:=by
 unfold jF
 rw[xY,xY,xY]
 rcases four h0 h4 with rfl|rfl|rfl|rfl
 ·rw[xZ,mZ (d:=1) _ (by decide),mZ (d:=2) _ (by decide),mZ (d:=3) _ (by decide)];simp
 ·rw[xZ,mZ (d:=0) _ (by decide),mZ (d:=2) _ (by decide),mZ (d:=3) _ (by decide)];simp
 ·rw[xZ,mZ (d:=0) _ (by decide),mZ (d:=1) _ (by decide),mZ (d:=3) _ (by decide)];simp
 ·rw[xZ,mZ (d:=0) _ (by decide),mZ (d:=1) _ (by decide),mZ (d:=2) _ (by decide)];simp
theorem fD.mono {lo lo':Int} {c:aU} (h:fD lo c) (hl:lo'≤lo):fD lo' c:=by
 cases c with
 |nil=>trivial
 |cons s c=>exact⟨Int.le_trans hl h.1,h.2⟩
theorem vW {d lo:Int} (h:lo≤d) (h4:d<4):∀(l:aS) {c:aU},fD d c→fD lo (dS d l++c)
 |[],_,hc=>hc.mono h
 |_::l,_,hc=>⟨h,h4,vW (Int.le_refl _) h4 l hc⟩
theorem OQ (p:Int→aS):fD 0 (jF p):=by
 have h3:fD 3 (dS 3 (p 3)):=by
  have:=vW (lo:=3) (d:=3) (by decide) (by decide) (p 3) (c:=[]) trivial
  rwa [List.append_nil]at this
 exact vW (d:=0) (by decide) (by decide) _ ((vW (d:=1) (lo:=1) (by decide) (by decide) _ ((vW (d:=2) (lo:=2) (by decide) (by decide) _ (h3.mono (by decide))).mono (by decide))).mono (by decide))
theorem Iz {p:Int→aS} (h:∀d,0≤d→d<4→bP (p d)):bZ (jF p):=
 ⟨OQ p,fun d h0 h4=>by rw[Dp p h0 h4];exact h d h0 h4⟩
theorem m_:∀ {c:aU} {lo d:Int},fD lo c→d<lo→bC c d=[]
 |[],_,_,_,_=>rfl
 |s::c,lo,d,h,hd=>by
  have:=h.1
  rw[Dn s c (by omega),m_ h.2.2 (by omega)]
theorem uq:∀ {c:aU} {lo:Int},0≤lo→fD lo c→jF (bC c)=c
 |[],_,_,_=>rfl
 |s::c,lo,hl,h=>by
  have h1:=h.1
  have h2:=h.2.1
  have ih:=uq (by omega) h.2.2
  obtain⟨k,r⟩:=s
  simp only at h1 h2
  have hk:=four (d:=k) (by omega) h2
  have hd:=h.2.2
  simp only at hd ih
  have e:∀d,k≠d→bC ((k,r)::c) d=bC c d:=fun d hd=>Dn _ _ hd
  have e0:bC ((k,r)::c) k=r::bC c k:=Iy (k,r) c
  unfold jF at ih⊢
  rcases hk with rfl|rfl|rfl|rfl
  ·rw[e0,e 1 (by decide),e 2 (by decide),e 3 (by decide)]
   show(0,r)::(dS 0 (bC c 0)++_)=_
   rw[ih]
  ·rw[e0,e 0 (by decide),e 2 (by decide),e 3 (by decide),m_ hd (by decide)]
   rw[m_ hd (by decide)]at ih
   show(1,r)::(dS 0 []++(dS 1 (bC c 1)++_))=_
   rw[ih]
  ·rw[e0,e 0 (by decide),e 1 (by decide),e 3 (by decide),m_ (d:=0) hd (by decide),m_ (d:=1) hd (by decide)]
   rw[m_ (d:=0) hd (by decide),m_ (d:=1) hd (by decide)]at ih
   show(2,r)::(dS 0 []++(dS 1 []++(dS 2 (bC c 2)++_)))=_
   rw[ih]
  ·rw[e0,e 0 (by decide),e 1 (by decide),e 2 (by decide),m_ (d:=0) hd (by decide),m_ (d:=1) hd (by decide),m_ (d:=2) hd (by decide)]
   rw[m_ (d:=0) hd (by decide),m_ (d:=1) hd (by decide),m_ (d:=2) hd (by decide)]at ih
   show(3,r)::(dS 0 []++(dS 1 []++(dS 2 []++dS 3 (bC c 3))))=_
   rw[ih]
theorem OT {a b:aU} (ha:bZ a) (hb:bZ b) (h:∀d n,0≤d→d<4→(iM a d n↔iM b d n)):a=b:=by
 have hp:∀d,0≤d→d<4→bC a d=bC b d:=fun d h0 h4=>OO (ha.2 d h0 h4) (hb.2 d h0 h4) fun n=>h d n h0 h4
 rw[←uq (Int.le_refl 0) ha.1,←uq (Int.le_refl 0) hb.1]
 unfold jF
 rw[hp 0 (by decide) (by decide),hp 1 (by decide) (by decide),hp 2 (by decide) (by decide),hp 3 (by decide) (by decide)]
theorem OU {d:Int} {l:aS}:dS d l=[]↔l=[]:=by simp[dS]
theorem OV {p:Int→aS}:jF p=[]↔∀d,0≤d→d<4→p d=[]:=by
 unfold jF
 simp only[List.append_eq_nil_iff,OU]
 constructor
 ·rintro⟨h0,h1,h2,h3⟩ d hd hd4
  rcases four hd hd4 with rfl|rfl|rfl|rfl<;>assumption
 ·exact fun h=>⟨h 0 (by decide) (by decide),h 1 (by decide) (by decide),h 2 (by decide) (by decide),h 3 (by decide) (by decide)⟩
def sG (a b:aU):Prop:=∀d n,0≤d→d<4→iM a d n→iM b d n
structure iO (how:Int) (a b c:aU):Prop where
 right:bZ c
 mem:∀d n,0≤d→d<4→(iM c d n↔dQ how (iM a d n) (iM b d n))
theorem iO.one {how:Int} {a b c c':aU} (h:iO how a b c) (h':iO how a b c'):c=c':=
 OT h.right h'.right fun d n h0 h4=>(h.mem d n h0 h4).trans (h'.mem d n h0 h4).symm
theorem iO.whole {how:Int} {a b:aU} {p:Int→aS} (hp:∀d,0≤d→d<4→bP (p d)) (hm:∀d n,0≤d→d<4→(aV (p d) n↔dQ how (iM a d n) (iM b d n))):iO how a b (jF p):=
 ⟨Iz hp,fun d n h0 h4=>by unfold iM;rw[Dp p h0 h4];exact hm d n h0 h4⟩
theorem bZ.Dl {c:aU} (h:bZ c):c=[]↔∀d n,0≤d→d<4→¬iM c d n:=by
 constructor
 ·rintro rfl d n _ _ hn
  exact jE n hn
 ·intro hn
  rw[←uq (Int.le_refl 0) h.1,OV]
  exact fun d h0 h4=>(h.2 d h0 h4).Dl.2 fun n=>hn d n h0 h4
theorem iO.IB {a b c:aU} (h:iO 2 a b c):c=[]↔sG a b:=by
 rw[h.right.Dl]
 constructor
 ·intro hn d n h0 h4 hi
  exact Classical.byContradiction fun hb=>hn d n h0 h4 ((h.mem d n h0 h4).2 (by unfold dQ;rw[if_pos rfl];exact⟨hi,hb⟩))
 ·intro hl d n h0 h4 hi
  have:=(h.mem d n h0 h4).1 hi
  unfold dQ at this
  rw[if_pos rfl]at this
  exact this.2 (hl d n h0 h4 this.1)
theorem OX:bZ []:=⟨trivial,fun _ _ _=>vV⟩
structure ng (l:List (Int×Int)) (c:aU):Prop where
 right:bZ c
 mem:∀d n,0≤d→d<4→(iM c d n↔(d,n)∈l)
open Go.RowKit
abbrev au:Nat→Prop:=fun _=>False
def qw (n:Int):Bool:=decide (1≤n∧n≤1099511627776)
def lI (d n:Int):Bool:=decide (0≤d∧d<4∧1≤n∧n≤1099511627776)
theorem uw (n:Int) (w:World):Calls Tryz.prog 165 #[.int .i64 n] w fun e w'=>e= .returned (.bool (qw n))∧w'=w:=by
 go_enter Tryz.func165,Tryz.ntmps165
 go_wp2
 all_goals
  go_ret
  refine⟨bI ?_,rfl⟩
  rw[Bool.eq_iff_iff]
  simp[qw]<;>omega
theorem vX (d n:Int) (w:World):Calls Tryz.prog 126 #[.agg #[.int .i64 d, .int .i64 n]] w fun e w'=>e= .returned (.bool (lI d n))∧aj au w w':=by
 go_enter Tryz.func126,Tryz.ntmps126
 go_wp2
 all_goals
  go_ret
  refine⟨bI ?_,aj.alloc _ _ _⟩
  rw[Bool.eq_iff_iff]
  simp[lI]<;>omega
theorem IC (d n:Int) (w:World):Calls Tryz.prog 159 #[.agg #[.int .i64 d, .int .i64 n]] w fun e w'=>e= .returned (.bool (lI d n))∧aj au w w':=by
 go_enter Tryz.func159,Tryz.ntmps159
 go_wp2
 all_goals
  go_ret
  refine⟨bI ?_,aj.alloc _ _ _⟩
  rw[Bool.eq_iff_iff]
  simp[lI]<;>omega
def lJ (s:ByteArray):Bool:=decide (1≤s.size∧s.size≤30)
theorem qV (s:ByteArray) (w:World) (h:s.size≤9223372036854775807):Calls Tryz.prog 164 #[.string s] w fun e w'=>e= .returned (.bool (lJ s))∧w'=w:=by
 go_enter Tryz.func164,Tryz.ntmps164
 go_wp2
 all_goals
  go_ret
  refine⟨bI ?_,rfl⟩
  rw[Bool.eq_iff_iff]
  simp[lJ]<;>omega
theorem qW (s:ByteArray) (w:World) (h:s.size≤9223372036854775807):Calls Tryz.prog 121 #[.string s] w fun e w'=>e= .returned (.bool (lJ s))∧w'=w:=by
 go_enter Tryz.func121,Tryz.ntmps121
 go_wp2
 all_goals
  go_ret
  refine⟨bI ?_,rfl⟩
  rw[Bool.eq_iff_iff]
  simp[lJ]<;>omega
theorem empty_any (a b:Option Addr) (n m c d:Nat) (w:World):Calls Tryz.prog 113 #[.agg #[.slice a n c, .slice b m d]] w fun e w'=>e= .returned (.bool (decide (n=0∧m=0)))∧aj au w w':=by
 go_enter Tryz.func113,Tryz.ntmps113
 go_wp2
 all_goals
  go_ret
  refine⟨bI ?_,aj.alloc _ _ _⟩
  rw[Bool.eq_iff_iff]
  simp<;>omega
def kX (d n e m:Int):Bool:=decide (d<e∨d=e∧n<m)
theorem sH (d n e m:Int) (w:World):Calls Tryz.prog 51 #[.agg #[.int .i64 d, .int .i64 n], .agg #[.int .i64 e, .int .i64 m]] w fun x w'=>x= .returned (.bool (kX d n e m))∧aj au w w':=by
 by_cases h:d=e
 ·subst h
  go_enter Tryz.func51,Tryz.ntmps51
  go_wp2
  go_ret
  refine⟨bI ?_,(aj.alloc _ _ _).trans (aj.alloc _ _ _) (fun _ _ h=>h)⟩
  rw[Bool.eq_iff_iff]
  simp[kX]
 ·have h1:((d:Int)==e)=false:=by simpa using h
  go_enter Tryz.func51,Tryz.ntmps51
  go_wp2
  go_ret
  refine⟨bI ?_,(aj.alloc _ _ _).trans (aj.alloc _ _ _) (fun _ _ h=>h)⟩
  rw[Bool.eq_iff_iff]
  simp[kX]<;>omega
theorem OY (a:Int) (w:World):Calls Tryz.prog 186 #[.int .i64 a] w fun e w'=>e= .returned (.bool false)∧w'=w:=by
 go_enter Tryz.func186,Tryz.ntmps186
 go_wp2
 go_ret
 exact⟨rfl,rfl⟩
theorem OZ (a:Int) (w:World):Calls Tryz.prog 187 #[.int .i64 a] w fun e w'=>e= .returned (.bool false)∧w'=w:=by
 go_enter Tryz.func187,Tryz.ntmps187
 go_wp2
 go_ret
 exact⟨rfl,rfl⟩
def jQ (a b:Int):Int:=if a<b then-1 else if b<a then 1 else 0
theorem yc (a b:Int) (w:World):Calls Tryz.prog 155 #[.int .i64 a, .int .i64 b] w fun e w'=>e= .returned (.int .i64 (jQ a b))∧w'=w:=by
 go_enter Tryz.func155,Tryz.ntmps155
 go_wp2_with(go_at_call 186;refine(OY _ _).mono ?_;rintro e w' ⟨rfl,rfl⟩)
 all_goals
  go_ret
  refine⟨vJ ?_,rfl⟩
  unfold jQ
  split
  ·omega
  ·first|omega|(split<;>omega)
theorem O_ (a b:Int) (w:World):Calls Tryz.prog 172 #[.int .i64 a, .int .i64 b] w fun e w'=>e= .returned (.int .i64 (jQ a b))∧w'=w:=by
 go_enter Tryz.func172,Tryz.ntmps172
 go_wp2_with(go_at_call 187;refine(OZ _ _).mono ?_;rintro e w' ⟨rfl,rfl⟩)
 all_goals
  go_ret
  refine⟨vJ ?_,rfl⟩
  unfold jQ
  split
  ·omega
  ·first|omega|(split<;>omega)
open Go.RowKit
def qx (x y:Int):Int:=if x=0 then y else x
theorem Dq (b c:Nat) (x y:Int) (w:World) (hx:w.cell? ⟨b,0,none⟩=some (.int .i64 x)) (hy:w.cell? ⟨b,1,none⟩=some (.int .i64 y)):
 Calls Tryz.prog 171 #[.slice (some ⟨b,0,none⟩) 2 c] w fun e w'=>e= .returned (.int .i64 (qx x y))∧w'=w:=by
 by_cases h0:x=0
 ·subst h0
  by_cases h1:y=0
  ·subst h1
   go_enter Tryz.func171,Tryz.ntmps171
   go_wp2
   go_loop [8] (fun i=>∃k:Nat,k≤2∧i= .int .i64 k) (fun i=>2-(intOf i).toNat)
   case atStart=>exact⟨0,by omega,rfl⟩
   case round=>
    obtain⟨k,hk,rfl⟩:=hrel
    rcases(by omega:k=0∨k=1∨k=2)with rfl|rfl|rfl
    ·go_wp2
     go_round
     case rel=>exact⟨1,by omega,rfl⟩
     case measure=>simp[intOf]
    ·go_wp2
     go_round
     case rel=>exact⟨2,by omega,rfl⟩
     case measure=>simp[intOf]
    ·go_wp2
     go_ret
     exact⟨rfl,rfl⟩
  ·have h2:((y:Int)==0)=false:=by simpa using h1
   go_enter Tryz.func171,Tryz.ntmps171
   go_wp2
   go_loop [8] (fun i=>∃k:Nat,k≤1∧i= .int .i64 k) (fun i=>2-(intOf i).toNat)
   case atStart=>exact⟨0,by omega,rfl⟩
   case round=>
    obtain⟨k,hk,rfl⟩:=hrel
    rcases(by omega:k=0∨k=1)with rfl|rfl
    ·go_wp2
     go_round
     case rel=>exact⟨1,by omega,rfl⟩
     case measure=>simp[intOf]
    ·go_wp2
     go_ret
     exact⟨rfl,rfl⟩
 ·have h2:((x:Int)==0)=false:=by simpa using h0
  go_enter Tryz.func171,Tryz.ntmps171
  go_wp2
  go_loop [8] (fun i=>i= .int .i64 0) (fun i=>2-(intOf i).toNat)
  case atStart=>rfl
  case round=>
   obtain rfl:=hrel
   go_wp2
   go_ret
   exact⟨vJ (by simp[qx,h0]),rfl⟩
def nX (d n e m:Int):Int:=qx (jQ d e) (jQ n m)
theorem IE (d n e m:Int):decide (nX d n e m<0)=kX d n e m:=by
 rw[Bool.eq_iff_iff]
 simp only[nX,kX,decide_eq_true_eq]
 unfold qx jQ
 by_cases h1:d<e
 ·simp[h1]
 ·by_cases h2:e<d
  ·simp[h1,h2];omega
  ·have:d=e:=by omega
   subst this
   by_cases h3:n<m
   ·simp[h3]
   ·by_cases h4:m<n<;>simp[h3,h4]<;>omega
theorem oM (d n e m:Int) (w:World):Calls Tryz.prog 143 #[.agg #[.int .i64 d, .int .i64 n], .agg #[.int .i64 e, .int .i64 m]] w fun x w'=>x= .returned (.int .i64 (nX d n e m))∧aj au w w':=by
 go_enter Tryz.func143,Tryz.ntmps143
 go_wp2_with fail
 go_region_held3 (fun w'=>w'.cell? ⟨w.heap.size,0,none⟩=some (.int .i64 d)∧w'.cell? ⟨w.heap.size,1,none⟩=some (.int .i64 n)∧w'.cell? ⟨w.heap.size+1,0,none⟩=some (.int .i64 e)∧w'.cell? ⟨w.heap.size+1,1,none⟩=some (.int .i64 m))
  (go_keep)
  (first
    |(go_at_call 172;refine(O_ _ _ _).mono ?_;rintro e w' ⟨rfl,rfl⟩)
    |(go_at_call 155;refine(yc _ _ _).mono ?_;rintro e w' ⟨rfl,rfl⟩)
    |(go_at_call 171;refine(Dq _ _ (jQ d e) (jQ n m) _ (by go_simp) (by go_simp)).mono ?_;rintro e w' ⟨rfl,rfl⟩))
 all_goals
  go_wp2
  go_ret
  exact⟨rfl,by repeat(first|exact aj.refl _ _|refine aj.alloc1 ?_|refine aj.sF ?_)⟩
open Go.RowKit
def b_ (l:aS):List Value:=l.flatMap fun r=> [.int .i64 r.1, .int .i64 r.2]
def kY (l:List Int):List Value:=l.map fun n=> .int .i64 n
def cO (c:aU):List Value:=c.flatMap fun s=> [.int .i64 s.1, .int .i64 s.2.1, .int .i64 s.2.2]
theorem lK (a b:aS):b_ (a++b)=b_ a++b_ b:=by simp[b_]
theorem Ad (a b:List Int):kY (a++b)=kY a++kY b:=by simp[kY]
theorem Ae (a b:aU):cO (a++b)=cO a++cO b:=by simp[cO]
theorem qy:∀l:aS,(b_ l).length=l.length*2
 |[]=>rfl
 |r::l=>by
  have e:b_ (r::l)=[.int .i64 r.1, .int .i64 r.2]++b_ l:=rfl
  rw[e,List.length_append,qy l];simp;omega
theorem Af:∀c:aU,(cO c).length=c.length*3
 |[]=>rfl
 |s::c=>by
  have e:cO (s::c)=[.int .i64 s.1, .int .i64 s.2.1, .int .i64 s.2.2]++cO c:=rfl
  rw[e,List.length_append,Af c];simp;omega
@[simp] theorem Zf (l:List Int):(kY l).length=l.length:=by simp[kY]
theorem Dt (l:aS):∀v∈b_ l,v.oneCell'=true:=by
 intro v hv
 simp only[b_,List.mem_flatMap]at hv
 obtain⟨r,_,hv⟩:=hv
 simp at hv
 rcases hv with rfl|rfl<;>rfl
theorem Du (c:aU):∀v∈cO c,v.oneCell'=true:=by
 intro v hv
 simp only[cO,List.mem_flatMap]at hv
 obtain⟨r,_,hv⟩:=hv
 simp at hv
 rcases hv with rfl|rfl|rfl<;>rfl
theorem Pg (l:List Int):∀v∈kY l,v.oneCell'=true:=by
 intro v hv
 simp only[kY,List.mem_map]at hv
 obtain⟨r,_,rfl⟩:=hv
 rfl
theorem Ag:∀(l:aS) (k:Nat),k<l.length→(b_ l)[k*2]?=some (.int .i64 (l.getD k (0,0)).1)∧(b_ l)[k*2+1]?=some (.int .i64 (l.getD k (0,0)).2)
 |[],_,h=>by cases h
 |r::l,0,_=>⟨rfl,rfl⟩
 |r::l,k+1,h=>by
  obtain⟨h1,h2⟩:=Ag l k (by simpa using h)
  have e:b_ (r::l)= .int .i64 r.1:: .int .i64 r.2::b_ l:=rfl
  rw[e,show(k+1)*2=k*2+1+1 by omega,show k*2+1+1+1=(k*2+1)+1+1 by omega]
  exact⟨h1,h2⟩
theorem IG:∀(c:aU) (k:Nat),k<c.length→(cO c)[k*3]?=some (.int .i64 (c.getD k (0,0,0)).1)∧(cO c)[k*3+1]?=some (.int .i64 (c.getD k (0,0,0)).2.1)∧(cO c)[k*3+2]?=some (.int .i64 (c.getD k (0,0,0)).2.2)
 |[],_,h=>by cases h
 |r::l,0,_=>⟨rfl,rfl,rfl⟩
 |r::l,k+1,h=>by
  obtain⟨h1,h2,h3⟩:=IG l k (by simpa using h)
  have e:cO (r::l)= .int .i64 r.1:: .int .i64 r.2.1:: .int .i64 r.2.2::cO l:=rfl
  rw[e,show(k+1)*3=k*3+1+1+1 by omega,show k*3+1+1+1+1=(k*3+1)+1+1+1 by omega,show k*3+1+1+1+2=(k*3+2)+1+1+1 by omega]
  exact⟨h1,h2,h3⟩
def iF (w:World) (v:Value) (l:aS):Prop:=Rd w v l.length (b_ l)
def eY (w:World) (v:Value) (c:aU):Prop:=Rd w v c.length (cO c)
def Ah (w:World) (v:Value) (l:List Int):Prop:=Rd w v l.length (kY l)
theorem Rd.aN {w w':World} {v:Value} {n:Nat} {xs:List Value} (h:Rd w v n xs) (f:aj au w w'):Rd w' v n xs:=h.keep f fun _ _ h=>h
theorem Rd.shape {w:World} {v:Value} {n:Nat} {xs:List Value} (h:Rd w v n xs):(∃ad,v= .slice ad 0 0∧n=0)∨∃b off c,v= .slice (some ⟨b,off,none⟩) n c∧(n:Int)≤9223372036854775807:=by
 rcases h with⟨ad,h1,h2,_⟩|⟨b,off,c,h1,h2,h3,_⟩
 ·exact .inl ⟨ad,h1,h2⟩
 ·exact .inr ⟨b,off,c,h1,by simp only[maxLen]at h3;omega⟩
theorem Rd.sl {w:World} {v:Value} {n:Nat} {xs:List Value} (h:Rd w v n xs):∃a c,v= .slice a n c:=by
 rcases h with⟨ad,h1,h2,_⟩|⟨b,off,c,h1,_⟩
 ·exact⟨ad,0,by rw[h1,h2]⟩
 ·exact⟨_,c,h1⟩
theorem Rd.cell {w:World} {b off c n:Nat} {xs:List Value} (h:Rd w (.slice (some ⟨b,off,none⟩) n c) n xs) (j:Nat) (u:Value) (hu:xs[j]?=some u):w.cell? ⟨b,off+j,none⟩=some u:=by
 rcases h with⟨ad,h1,h2,h3⟩|⟨b',off',c',h1,_,_,h4⟩
 ·subst h3;simp at hu
 ·injection h1 with e1 e2 e3
  injection e1 with e1
  injection e1 with e4 e5
  subst e4 e5
  exact h4 j u hu
theorem lY {w:World} {b off c n:Nat} {l:aS} (h:iF w (.slice (some ⟨b,off,none⟩) n c) l) (hn:n=l.length) (k:Nat) (hk:k<l.length):
 w.cell? ⟨b,off+k*2,none⟩=some (.int .i64 (l.getD k (0,0)).1)∧w.cell? ⟨b,off+k*2+1,none⟩=some (.int .i64 (l.getD k (0,0)).2):=by
 subst hn
 exact⟨h.cell _ _ (Ag l k hk).1,h.cell (k*2+1) _ (Ag l k hk).2⟩
theorem sJ {w:World} {b off c n:Nat} {l:aU} (h:eY w (.slice (some ⟨b,off,none⟩) n c) l) (hn:n=l.length) (k:Nat) (hk:k<l.length):
 w.cell? ⟨b,off+k*3,none⟩=some (.int .i64 (l.getD k (0,0,0)).1)∧w.cell? ⟨b,off+k*3+1,none⟩=some (.int .i64 (l.getD k (0,0,0)).2.1)∧w.cell? ⟨b,off+k*3+2,none⟩=some (.int .i64 (l.getD k (0,0,0)).2.2):=by
 subst hn
 obtain⟨h1,h2,h3⟩:=IG l k hk
 exact⟨h.cell _ _ h1,h.cell (k*3+1) _ h2,h.cell (k*3+2) _ h3⟩
theorem II {w:World} {b off c n:Nat} {l:List Int} (h:Ah w (.slice (some ⟨b,off,none⟩) n c) l) (hn:n=l.length) (k:Nat) (hk:k<l.length):w.cell? ⟨b,off+k,none⟩=some (.int .i64 (l.getD k 0)):=by
 subst hn
 exact h.cell _ _ (by simp[kY,List.getD,hk])
theorem getD_at {α:Type} {l:List α} {k:Nat} (d:α) (h:k<l.length):l.getD k d=l[k]:=by simp[List.getD,h]
theorem getD_mem {α:Type} {l:List α} {k:Nat} (d:α) (h:k<l.length):l.getD k d∈l:=by rw[getD_at d h];exact List.getElem_mem h
theorem take_succ {α:Type} {l:List α} {k:Nat} (d:α) (h:k<l.length):l.take (k+1)=l.take k++ [l.getD k d]:=by rw[List.take_succ_eq_append_getElem h,getD_at d h]
theorem IJ:∀ {a b:aS} {lo:Int},dW lo (a++b)→dW lo a
 |[],_,_,_=>trivial
 |_::_,_,_,h=>⟨h.1,h.2.1,IJ h.2.2⟩
theorem bP.take {l:aS} (h:bP l) (k:Nat):bP (l.take k):=by
 refine⟨IJ (b:=l.drop k) (by rw[List.take_append_drop];exact h.1),fun r hr=>h.2 r (List.mem_of_mem_take hr)⟩
theorem Dv {l:aS} {k:Nat} (h:bP (l.take k)) (hk:k<l.length):
 bP (l.take (k+1))↔1≤(l.getD k (0,0)).1∧(l.getD k (0,0)).2≤1099511627776∧(l.getD k (0,0)).1≤(l.getD k (0,0)).2∧(0<k→(l.getD (k-1) (0,0)).2+2≤(l.getD k (0,0)).1):=by
 rw[take_succ (0,0) hk]
 generalize l.getD k (0,0)=r
 unfold bP
 rw[vO]
 constructor
 ·rintro⟨⟨_,h2,h3,h4⟩,h5⟩
  refine⟨h2,h5 r (by simp),h3,fun h0=>h4 _ ?_⟩
  obtain⟨j,rfl⟩:∃j,k=j+1:=⟨k-1,by omega⟩
  rw[take_succ (0,0) (by omega)]
  simp
 ·rintro⟨h1,h2,h3,h4⟩
  refine⟨⟨h.1,h1,h3,fun x hx=>?_⟩,fun x hx=>?_⟩
  ·rcases Nat.eq_zero_or_pos k with rfl|h0
   ·simp at hx
   ·have h5:=h4 h0
    obtain⟨j,rfl⟩:∃j,k=j+1:=⟨k-1,by omega⟩
    have h6:=h.1
    rw[take_succ (0,0) (by omega)]at hx h6
    obtain⟨_,_,h8,h9⟩:=vO.1 h6
    rw[show j+1-1=j by omega]at h5
    rcases List.mem_append.1 hx with hx|hx
    ·have:=h9 x hx;omega
    ·simp only[List.mem_singleton]at hx;subst hx;exact h5
  ·rcases List.mem_append.1 hx with hx|hx
   ·exact h.2 x hx
   ·simp only[List.mem_singleton]at hx;subst hx;exact h2
theorem IK {l:aS} {k:Nat} (h:bP (l.take k)) (hk:k<l.length)
 (hn:¬(1≤(l.getD k (0,0)).1∧(l.getD k (0,0)).2≤1099511627776∧(l.getD k (0,0)).1≤(l.getD k (0,0)).2∧(0<k→(l.getD (k-1) (0,0)).2+2≤(l.getD k (0,0)).1))):¬bP l:=
 fun hl=>hn ((Dv h hk).1 (hl.take (k+1)))
def Fits (l:aS):Prop:=∀r∈l,-9223372036854775808≤r.1∧r.1≤9223372036854775807∧-9223372036854775808≤r.2∧r.2≤9223372036854775807
theorem bP.fits {l:aS} (h:bP l):Fits l:=fun r hr=>by
 have:=jm h.1 r hr
 have:=h.2 r hr
 omega
open Go.RowKit
theorem Dw (w:World) (v:Value) (l:aS) (hv:iF w v l) (hf:Fits l):
 Calls Tryz.prog 85 #[v] w fun e w'=>e= .returned (.bool (tf (bP l)))∧aj au w w':=by
 rcases Rd.shape hv with⟨ad,rfl,h0⟩|⟨b,off,c,rfl,hmax⟩
 ·obtain rfl:l=[]:=List.eq_nil_of_length_eq_zero h0
  rw[dD vV]
  clear hv hf
  go_enter Tryz.func85,Tryz.ntmps85
  go_wp2
  go_loop [6] (fun i=>i= .int .i64 0) (fun _=>0)
  case atStart=>rfl
  case round=>
   obtain rfl:=hrel
   go_wp2
   go_ret
   exact⟨rfl,aj.refl _ _⟩
 ·have HH:=ah hv;clear hv
  have HF:=ah hf;clear hf
  generalize hn:l.length=n at*
  have HN:=ah hn;clear hn
  go_enter Tryz.func85,Tryz.ntmps85
  go_wp2
  go_loopw [6] (fun i ww=>∃k:Nat,k≤n∧i= .int .i64 k∧bP (l.take k)∧∃q,ww=w.drewN q) (fun i _=>n-(intOf i).toNat)
  case atStart=>exact⟨0,Nat.zero_le _,rfl,vV,0,rfl⟩
  case round=>
   obtain⟨k,hk,rfl,hr,q,rfl⟩:=hrel
   have HR:=ah hr;clear hr
   by_cases hlt:k<n
   ·obtain⟨q1,q2⟩:=lY HH.out HN.out.symm k (by rw[HN.out];exact hlt)
    have hfit:=HF.out _ (getD_mem (0,0) (show k<l.length by rw[HN.out];exact hlt))
    have HS:=ah (Dv HR.out (show k<l.length by rw[HN.out];exact hlt))
    have HX:=ah (IK HR.out (show k<l.length by rw[HN.out];exact hlt))
    generalize l.getD k (0,0)=r at*
    by_cases c1:r.1<1
    ·go_wp2_with fail
     go_big_quiet (fail)
     go_wp2
     go_ret
     exact⟨bI (bW (HX.out (by omega))).symm,(aj.drewN _ _ _).fG⟩
    ·have d1:decide (r.1<1)=false:=by simpa using c1
     by_cases c2:1099511627776<r.2
     ·go_wp2_with fail
      go_big_quiet (fail)
      go_wp2
      go_ret
      exact⟨bI (bW (HX.out (by omega))).symm,(aj.drewN _ _ _).fG⟩
     ·have d2:decide (1099511627776<r.2)=false:=by simpa using c2
      by_cases c3:r.2<r.1
      ·go_wp2_with fail
       go_big_quiet (fail)
       go_wp2
       go_ret
       exact⟨bI (bW (HX.out (by omega))).symm,(aj.drewN _ _ _).fG⟩
      ·have d3:decide (r.2<r.1)=false:=by simpa using c3
       rcases Nat.eq_zero_or_pos k with rfl|hk0
       ·simp only[Nat.zero_mul,Nat.add_zero]at q1 q2
        go_wp2_with fail
        go_big_quiet (fail)
        go_wp2
        go_roundw
        case rel=>exact⟨0+1,by omega,by go_num,HS.out.2 ⟨by omega,by omega,by omega,by omega⟩,q+nq,by first|rfl|rw[World.drewN_drewN]⟩
        case measure=>simp[intOf];omega
       ·obtain⟨j,rfl⟩:∃j,k=j+1:=⟨k-1,by omega⟩
        obtain⟨-,p2⟩:=lY HH.out HN.out.symm j (by rw[HN.out];omega)
        have Ph:=HF.out _ (getD_mem (0,0) (show j<l.length by rw[HN.out];omega))
        rw[show j+1-1=j by omega]at HS HX
        have Pj:1≤(l.getD j (0,0)).2∧(l.getD j (0,0)).2≤1099511627776:=by
         have hm:=getD_mem (0,0) (show j<(l.take (j+1)).length by rw[List.length_take,HN.out];omega)
         have he:(l.take (j+1)).getD j (0,0)=l.getD j (0,0):=by simp[List.getD]
         rw[he]at hm
         have:=jm HR.out.1 _ hm
         have:=HR.out.2 _ hm
         omega
        generalize l.getD j (0,0)=p at*
        have hd:wrap64 (j:Int)=j:=by unfold wrap64;omega
        by_cases c4:r.1-p.2<2
        ·go_wp2_with fail
         go_big_quiet (fail)
         go_wp2
         go_ret
         exact⟨bI (bW (HX.out (by omega))).symm,(aj.drewN _ _ _).fG⟩
        ·go_wp2_with fail
         go_big_quiet (fail)
         go_wp2
         go_roundw
         case rel=>exact⟨j+1+1,by omega,by go_num,HS.out.2 ⟨by omega,by omega,by omega,by omega⟩,q+nq,by first|rfl|rw[World.drewN_drewN]⟩
         case measure=>simp[intOf];omega
   ·obtain rfl:k=n:=by omega
    have hall:bP l:=by
     have:=HR.out
     rwa [List.take_of_length_le (by rw[HN.out];exact Nat.le_refl _)]at this
    have HA:=ah hall;clear hall
    go_wp2
    go_ret
    exact⟨bI (dD HA.out).symm,aj.drewN _ _ _⟩
open Go.RowKit
theorem Ai (w:World) (v:Value) (l:aS) (hv:iF w v l) (hf:Fits l):
 Calls Tryz.prog 167 #[v] w fun e w'=>e= .returned (.bool (tf (bP l)))∧aj au w w':=by
 rcases Rd.shape hv with⟨ad,rfl,h0⟩|⟨b,off,c,rfl,hmax⟩
 ·obtain rfl:l=[]:=List.eq_nil_of_length_eq_zero h0
  rw[dD vV]
  clear hv hf
  go_enter Tryz.func167,Tryz.ntmps167
  go_wp2
  go_loop [7] (fun i=>i= .int .i64 0) (fun _=>0)
  case atStart=>rfl
  case round=>
   obtain rfl:=hrel
   go_wp2
   go_ret
   exact⟨rfl,aj.refl _ _⟩
 ·have HH:=ah hv;clear hv
  have HF:=ah hf;clear hf
  generalize hn:l.length=n at*
  have HN:=ah hn;clear hn
  go_enter Tryz.func167,Tryz.ntmps167
  go_wp2
  go_loopw [7] (fun i ww=>∃k:Nat,k≤n∧i= .int .i64 k∧bP (l.take k)∧aj au w ww) (fun i _=>n-(intOf i).toNat)
  case atStart=>exact⟨0,Nat.zero_le _,rfl,vV,aj.refl _ _⟩
  case round=>
   obtain⟨k,hk,rfl,hr,hw⟩:=hrel
   have HR:=ah hr;clear hr
   have HW:=ah hw;clear hw
   by_cases hlt:k<n
   ·obtain⟨q1,q2⟩:=lY (HH.out.aN HW.out) HN.out.symm k (by rw[HN.out];exact hlt)
    have hbl:=World.block_lt_of_cell? _ _ q1
    have hbl:b<wr.heap.size:=hbl
    have hfit:=HF.out _ (getD_mem (0,0) (show k<l.length by rw[HN.out];exact hlt))
    have HS:=ah (Dv HR.out (show k<l.length by rw[HN.out];exact hlt))
    have HX:=ah (IK HR.out (show k<l.length by rw[HN.out];exact hlt))
    generalize l.getD k (0,0)=r at*
    cases n1:qw r.1 with
    |false=>
     go_wp2_with fail
     go_big_quiet ((go_at_call 165;exact Calls.quiet_of_same (uw _ _)))
     go_wp2
     go_ret
     exact⟨bI (bW (HX.out (by unfold qw at n1;simp at n1;omega))).symm,HW.out.alloc1.fG⟩
    |true=>
     cases n2:qw r.2 with
     |false=>
      go_wp2_with fail
      go_big_quiet ((go_at_call 165;exact Calls.quiet_of_same (uw _ _)))
      go_wp2
      go_ret
      exact⟨bI (bW (HX.out (by unfold qw at n1 n2;simp at n1 n2;omega))).symm,HW.out.alloc1.fG⟩
     |true=>
      by_cases c3:r.2<r.1
      ·go_wp2_with fail
       go_big_quiet ((go_at_call 165;exact Calls.quiet_of_same (uw _ _)))
       go_wp2
       go_ret
       exact⟨bI (bW (HX.out (by omega))).symm,HW.out.alloc1.fG⟩
      ·have d3:decide (r.2<r.1)=false:=by simpa using c3
       rcases Nat.eq_zero_or_pos k with rfl|hk0
       ·simp only[Nat.zero_mul,Nat.add_zero]at q1 q2
        go_wp2_with fail
        go_big_quiet ((go_at_call 165;exact Calls.quiet_of_same (uw _ _)))
        go_wp2
        go_roundw
        case rel=>exact⟨0+1,by omega,by go_num,HS.out.2 (by unfold qw at n1 n2;simp at n1 n2;omega),HW.out.alloc1.fG⟩
        case measure=>simp[intOf];omega
       ·obtain⟨j,rfl⟩:∃j,k=j+1:=⟨k-1,by omega⟩
        obtain⟨-,p2⟩:=lY (HH.out.aN HW.out) HN.out.symm j (by rw[HN.out];omega)
        have Ph:=HF.out _ (getD_mem (0,0) (show j<l.length by rw[HN.out];omega))
        rw[show j+1-1=j by omega]at HS HX
        have Pj:1≤(l.getD j (0,0)).2∧(l.getD j (0,0)).2≤1099511627776:=by
         have hm:=getD_mem (0,0) (show j<(l.take (j+1)).length by rw[List.length_take,HN.out];omega)
         have he:(l.take (j+1)).getD j (0,0)=l.getD j (0,0):=by simp[List.getD]
         rw[he]at hm
         have:=jm HR.out.1 _ hm
         have:=HR.out.2 _ hm
         omega
        generalize l.getD j (0,0)=p at*
        have hd:wrap64 (j:Int)=j:=by unfold wrap64;omega
        by_cases c4:r.1≤p.2+1
        ·go_wp2_with fail
         go_big_quiet ((go_at_call 165;exact Calls.quiet_of_same (uw _ _)))
         go_wp2
         go_ret
         exact⟨bI (bW (HX.out (by omega))).symm,HW.out.alloc1.fG⟩
        ·go_wp2_with fail
         go_big_quiet ((go_at_call 165;exact Calls.quiet_of_same (uw _ _)))
         go_wp2
         go_roundw
         case rel=>exact⟨j+1+1,by omega,by go_num,HS.out.2 (by unfold qw at n1 n2;simp at n1 n2;omega),HW.out.alloc1.fG⟩
         case measure=>simp[intOf];omega
   ·obtain rfl:k=n:=by omega
    have hall:bP l:=by
     have:=HR.out
     rwa [List.take_of_length_le (by rw[HN.out];exact Nat.le_refl _)]at this
    have HA:=ah hall;clear hall
    go_wp2
    go_ret
    exact⟨bI (dD HA.out).symm,HW.out⟩
end Go.Proofs.YtlhmbkjdfjoilaaGreat
