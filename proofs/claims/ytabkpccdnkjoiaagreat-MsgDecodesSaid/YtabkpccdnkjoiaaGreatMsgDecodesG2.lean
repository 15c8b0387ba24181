/- Words for the law MsgDecodes: Ctx, BSmall, Reg, BDot, RunAt, R6, SpRight. -/
import Derived.Test.YtabkpccdnkjoiaaGreatMsgDecodesG0
import Derived.Test.YtabkpccdnkjoiaaGreatMsgDecodesG1
import Derived.Test.YtabkpccdnkjoiaaGreatChecked
import Derived.Deep.RegionHeld
import Derived.Deep.RegionHeld3
import Derived.Deep.DeepCutAuto
import Derived.Deep.RegionWith
set_option linter.unusedSimpArgs false
set_option linter.unusedVariables false
set_option maxHeartbeats 32000000
set_option maxRecDepth 1000000
namespace Go.Proofs.YtabkpccdnkjoiaaGreat
noncomputable def tf (p:Prop):Bool:=@decide p (Classical.propDecidable p)
theorem dO {p:Prop} (h:p):tf p=true:=by unfold tf;exact @decide_eq_true p (Classical.propDecidable p) h
theorem bf {p:Prop} (h:¬p):tf p=false:=by unfold tf;exact @decide_eq_false p (Classical.propDecidable p) h
theorem yG {p:Prop}:tf p=true↔p:=⟨fun h=>Classical.byContradiction fun hn=>(by rw[bf hn]at h;cases h),dO⟩
theorem Cb {p:Prop}:tf p=false↔¬p:=⟨fun h hp=>(by rw[dO hp]at h;cases h),bf⟩
theorem qN {p q:Prop} (h:p↔q):tf p=tf q:=by rw[propext h]
theorem H_ {b:Bool} {p:Prop} (h:b=true↔p):b=tf p:=by
 cases b with
 |true=>exact(dO (h.1 rfl)).symm
 |false=>exact(bf fun hp=>by cases h.2 hp).symm
def dR (l:aW):Prop:=iM 1 l∧∀r∈l,r.2≤1099511627776
theorem oZ:∀ {l:aW} {lo:Int},iM lo l→∀r∈l,lo≤r.1∧r.1≤r.2
 |[],_,_,r,hr=>by cases hr
 |y::l,lo,h,r,hr=>by
  rcases List.mem_cons.1 hr with rfl|hr
  ·exact⟨h.1,h.2.1⟩
  ·have:=oZ h.2.2 r hr
   have:=h.1
   have:=h.2.1
   omega
theorem dR.Ia {l:aW} (h:dR l) {n:Int} (hn:dB l n):1≤n∧n≤1099511627776:=by
 obtain⟨r,hr,h1,h2⟩:=hn
 have:=oZ h.1 r hr
 have:=h.2 r hr
 omega
theorem dR.of {l:aW} (h:iM 1 l) (hn:∀n,dB l n→n≤1099511627776):dR l:=
 ⟨h,fun r hr=>hn r.2 ⟨r,hr,(oZ h r hr).2,Int.le_refl _⟩⟩
theorem yH:dR []:=⟨trivial,fun r hr=>by cases hr⟩
theorem dR.KJ {l:aW} (h:dR l):l=[]↔∀n,¬dB l n:=by
 constructor
 ·rintro rfl n;exact nI n
 ·intro hn
  cases l with
  |nil=>rfl
  |cons r l=>exact absurd ⟨r,List.mem_cons_self,Int.le_refl _,h.1.2.1⟩ (hn r.1)
abbrev aX:=List (Int×Int×Int)
def bQ (c:aX) (d:Int):aW:=(c.filter fun s=>s.1==d).map (·.2)
def kT (c:aX) (d n:Int):Prop:=dB (bQ c d) n
def iZ:Int→aX→Prop
 |_,[]=>True
 |lo,s::c=>lo≤s.1∧s.1<4∧iZ s.1 c
def dN (c:aX):Prop:=iZ 0 c∧∀d,0≤d→d<4→dR (bQ c d)
def fC (d:Int) (l:aW):aX:=l.map fun r=>(d,r.1,r.2)
def nJ (p:Int→aW):aX:=fC 0 (p 0)++(fC 1 (p 1)++(fC 2 (p 2)++fC 3 (p 3)))
theorem Ib (d:Int):bQ [] d=[]:=rfl
theorem Ef (a b:aX) (d:Int):bQ (a++b) d=bQ a d++bQ b d:=by simp[bQ]
theorem Ic (s:Int×Int×Int) (c:aX):bQ (s::c) s.1=s.2::bQ c s.1:=by simp[bQ]
theorem Eh (s:Int×Int×Int) (c:aX) {d:Int} (h:s.1≠d):bQ (s::c) d=bQ c d:=by simp[bQ,h]
theorem Ei (d:Int) (l:aW):bQ (fC d l) d=l:=by
 unfold bQ fC
 rw[List.filter_eq_self.2 (by intro s hs;simp at hs;obtain⟨a,b,_,rfl⟩:=hs;simp),List.map_map]
 exact List.map_id l
theorem sU {d d':Int} (l:aW) (h:d≠d'):bQ (fC d l) d'=[]:=by
 unfold bQ fC
 rw[List.filter_eq_nil_iff.2 (by intro s hs;simp at hs;obtain⟨a,b,_,rfl⟩:=hs;simpa using h)]
 rfl
theorem four {d:Int} (h0:0≤d) (h4:d<4):d=0∨d=1∨d=2∨d=3:=by omega
theorem Ej (p:Int→aW) {d:Int} (h0:0≤d) (h4:d<4):bQ (nJ p) d=p d:=by
 unfold nJ
 rw[Ef,Ef,Ef]
 rcases four h0 h4 with rfl|rfl|rfl|rfl
 ·rw[Ei,sU (d:=1) _ (by decide),sU (d:=2) _ (by decide),sU (d:=3) _ (by decide)];simp
 ·rw[Ei,sU (d:=0) _ (by decide),sU (d:=2) _ (by decide),sU (d:=3) _ (by decide)];simp
 ·rw[Ei,sU (d:=0) _ (by decide),sU (d:=1) _ (by decide),sU (d:=3) _ (by decide)];simp
 ·rw[Ei,sU (d:=0) _ (by decide),sU (d:=1) _ (by decide),sU (d:=2) _ (by decide)];simp
theorem iZ.mono {lo lo':Int} {c:aX} (h:iZ lo c) (hl:lo'≤lo):iZ lo' c:=by
 cases c with
 |nil=>trivial
 |cons s c=>exact⟨Int.le_trans hl h.1,h.2⟩
theorem Cc {d lo:Int} (h:lo≤d) (h4:d<4):∀(l:aW) {c:aX},iZ d c→iZ lo (fC d l++c)
 |[],_,hc=>hc.mono h
 |_::l,_,hc=>⟨h,h4,Cc (Int.le_refl _) h4 l hc⟩
theorem Yh (p:Int→aW):iZ 0 (nJ p):=by
 have h3:iZ 3 (fC 3 (p 3)):=by
  have:=Cc (lo:=3) (d:=3) (by decide) (by decide) (p 3) (c:=[]) trivial
  rwa [List.append_nil]at this
 exact Cc (d:=0) (by decide) (by decide) _ ((Cc (d:=1) (lo:=1) (by decide) (by decide) _ ((Cc (d:=2) (lo:=2) (by decide) (by decide) _ (h3.mono (by decide))).mono (by decide))).mono (by decide))
theorem KL {p:Int→aW} (h:∀d,0≤d→d<4→dR (p d)):dN (nJ p):=
 ⟨Yh p,fun d h0 h4=>by rw[Ej p h0 h4];exact h d h0 h4⟩
theorem sV:∀ {c:aX} {lo d:Int},iZ lo c→d<lo→bQ c d=[]
 |[],_,_,_,_=>rfl
 |s::c,lo,d,h,hd=>by
  have:=h.1
  rw[Eh s c (by omega),sV h.2.2 (by omega)]
theorem Ce:∀ {c:aX} {lo:Int},0≤lo→iZ lo c→nJ (bQ c)=c
 |[],_,_,_=>rfl
 |s::c,lo,hl,h=>by
  have h1:=h.1
  have h2:=h.2.1
  have ih:=Ce (by omega) h.2.2
  obtain⟨k,r⟩:=s
  simp only at h1 h2
  have hk:=four (d:=k) (by omega) h2
  have hd:=h.2.2
  simp only at hd ih
  have e:∀d,k≠d→bQ ((k,r)::c) d=bQ c d:=fun d hd=>Eh _ _ hd
  have e0:bQ ((k,r)::c) k=r::bQ c k:=Ic (k,r) c
  unfold nJ at ih⊢
  rcases hk with rfl|rfl|rfl|rfl
  ·rw[e0,e 1 (by decide),e 2 (by decide),e 3 (by decide)]
   show(0,r)::(fC 0 (bQ c 0)++_)=_
   rw[ih]
  ·rw[e0,e 0 (by decide),e 2 (by decide),e 3 (by decide),sV hd (by decide)]
   rw[sV hd (by decide)]at ih
   show(1,r)::(fC 0 []++(fC 1 (bQ c 1)++_))=_
   rw[ih]
  ·rw[e0,e 0 (by decide),e 1 (by decide),e 3 (by decide),sV (d:=0) hd (by decide),sV (d:=1) hd (by decide)]
   rw[sV (d:=0) hd (by decide),sV (d:=1) hd (by decide)]at ih
   show(2,r)::(fC 0 []++(fC 1 []++(fC 2 (bQ c 2)++_)))=_
   rw[ih]
  ·rw[e0,e 0 (by decide),e 1 (by decide),e 2 (by decide),sV (d:=0) hd (by decide),sV (d:=1) hd (by decide),sV (d:=2) hd (by decide)]
   rw[sV (d:=0) hd (by decide),sV (d:=1) hd (by decide),sV (d:=2) hd (by decide)]at ih
   show(3,r)::(fC 0 []++(fC 1 []++(fC 2 []++fC 3 (bQ c 3))))=_
   rw[ih]
theorem Yi {d:Int} {l:aW}:fC d l=[]↔l=[]:=by simp[fC]
theorem Yj {p:Int→aW}:nJ p=[]↔∀d,0≤d→d<4→p d=[]:=by
 unfold nJ
 simp only[List.append_eq_nil_iff,Yi]
 constructor
 ·rintro⟨h0,h1,h2,h3⟩ d hd hd4
  rcases four hd hd4 with rfl|rfl|rfl|rfl<;>assumption
 ·exact fun h=>⟨h 0 (by decide) (by decide),h 1 (by decide) (by decide),h 2 (by decide) (by decide),h 3 (by decide) (by decide)⟩
def jX (a b:aX):Prop:=∀d n,0≤d→d<4→kT a d n→kT b d n
structure rU (how:Int) (a b c:aX):Prop where
 right:dN c
 mem:∀d n,0≤d→d<4→(kT c d n↔iF how (kT a d n) (kT b d n))
theorem rU.whole {how:Int} {a b:aX} {p:Int→aW} (hp:∀d,0≤d→d<4→dR (p d)) (hm:∀d n,0≤d→d<4→(dB (p d) n↔iF how (kT a d n) (kT b d n))):rU how a b (nJ p):=
 ⟨KL hp,fun d n h0 h4=>by unfold kT;rw[Ej p h0 h4];exact hm d n h0 h4⟩
theorem dN.KJ {c:aX} (h:dN c):c=[]↔∀d n,0≤d→d<4→¬kT c d n:=by
 constructor
 ·rintro rfl d n _ _ hn
  exact nI n hn
 ·intro hn
  rw[←Ce (Int.le_refl 0) h.1,Yj]
  exact fun d h0 h4=>(h.2 d h0 h4).KJ.2 fun n=>hn d n h0 h4
theorem rU.Qs {a b c:aX} (h:rU 2 a b c):c=[]↔jX a b:=by
 rw[h.right.KJ]
 constructor
 ·intro hn d n h0 h4 hi
  exact Classical.byContradiction fun hb=>hn d n h0 h4 ((h.mem d n h0 h4).2 (by unfold iF;rw[if_pos rfl];exact⟨hi,hb⟩))
 ·intro hl d n h0 h4 hi
  have:=(h.mem d n h0 h4).1 hi
  unfold iF at this
  rw[if_pos rfl]at this
  exact this.2 (hl d n h0 h4 this.1)
def kU (n:Int):aW:=if 0<n then [(1,n)]else []
def f_ (v:Int→Int):aX:=nJ fun d=>kU (v d)
theorem Yk (m n:Int):dB (kU m) n↔1≤n∧n≤m:=by
 unfold kU
 split
 ·rw[BX]
 ·exact⟨fun h=>absurd h (nI n),fun h=>by omega⟩
theorem Yl {m:Int} (h:m≤1099511627776):dR (kU m):=by
 unfold kU
 split
 ·exact⟨⟨Int.le_refl _,by omega,trivial⟩,fun r hr=>by simp at hr;subst hr;exact h⟩
 ·exact yH
theorem Ie (v:Int→Int) {d:Int} (n:Int) (h0:0≤d) (h4:d<4):kT (f_ v) d n↔1≤n∧n≤v d:=by
 unfold kT f_
 rw[Ej _ h0 h4,Yk]
theorem Qu {v:Int→Int} (h:∀d,0≤d→d<4→v d≤1099511627776):dN (f_ v):=KL fun d h0 h4=>Yl (h d h0 h4)
theorem Ym (d a b d' n:Int):kT [(d,a,b)] d' n↔d'=d∧a≤n∧n≤b:=by
 unfold kT
 by_cases h:d=d'
 ·subst h
  rw[Ic (d,a,b) [],Ib,BX]
  exact⟨fun h=>⟨rfl,h⟩,fun h=>h.2⟩
 ·rw[Eh (d,a,b) [] h,Ib]
  exact⟨fun h=>absurd h (nI n),fun h1=>absurd h1.1.symm h⟩
theorem Yn {d a b:Int} (h0:0≤d) (h4:d<4) (ha:1≤a) (hab:a≤b) (hb:b≤1099511627776):dN [(d,a,b)]:=by
 refine⟨⟨h0,h4,trivial⟩,fun d' _ _=>?_⟩
 by_cases h:d=d'
 ·subst h
  rw[Ic (d,a,b) [],Ib]
  exact⟨⟨ha,hab,trivial⟩,fun r hr=>by simp at hr;subst hr;exact hb⟩
 ·rw[Eh (d,a,b) [] h,Ib]
  exact yH
theorem Qv:dN []:=⟨trivial,fun _ _ _=>yH⟩
structure qO (l:List (Int×Int)) (c:aX):Prop where
 right:dN c
 mem:∀d n,0≤d→d<4→(kT c d n↔(d,n)∈l)
open Go.RowKit
abbrev ay:Nat→Prop:=fun _=>False
def vY (n:Int):Bool:=decide (1≤n∧n≤1099511627776)
def qg (d n:Int):Bool:=decide (0≤d∧d<4∧1≤n∧n≤1099511627776)
theorem AP (n:Int) (w:World):Calls Tryz.prog 267 #[.int .i64 n] w fun e w'=>e= .returned (.bool (vY n))∧w'=w:=by
 go_enter Tryz.func267,Tryz.ntmps267
 go_wp2
 all_goals
  go_ret
  refine⟨dK ?_,rfl⟩
  rw[Bool.eq_iff_iff]
  simp[vY]<;>omega
theorem Ci (d n:Int) (w:World):Calls Tryz.prog 236 #[.agg #[.int .i64 d, .int .i64 n]] w fun e w'=>e= .returned (.bool (qg d n))∧aj ay w w':=by
 go_enter Tryz.func236,Tryz.ntmps236
 go_wp2
 all_goals
  go_ret
  refine⟨dK ?_,aj.alloc _ _ _⟩
  rw[Bool.eq_iff_iff]
  simp[qg]<;>omega
theorem Qw (d n:Int) (w:World):Calls Tryz.prog 263 #[.agg #[.int .i64 d, .int .i64 n]] w fun e w'=>e= .returned (.bool (qg d n))∧aj ay w w':=by
 go_enter Tryz.func263,Tryz.ntmps263
 go_wp2
 all_goals
  go_ret
  refine⟨dK ?_,aj.alloc _ _ _⟩
  rw[Bool.eq_iff_iff]
  simp[qg]<;>omega
def uy (s:ByteArray):Bool:=decide (1≤s.size∧s.size≤30)
theorem w_ (s:ByteArray) (w:World) (h:s.size≤9223372036854775807):Calls Tryz.prog 250 #[.string s] w fun e w'=>e= .returned (.bool (uy s))∧w'=w:=by
 go_enter Tryz.func250,Tryz.ntmps250
 go_wp2
 all_goals
  go_ret
  refine⟨dK ?_,rfl⟩
  rw[Bool.eq_iff_iff]
  simp[uy]<;>omega
theorem xg (s:ByteArray) (w:World) (h:s.size≤9223372036854775807):Calls Tryz.prog 240 #[.string s] w fun e w'=>e= .returned (.bool (uy s))∧w'=w:=by
 go_enter Tryz.func240,Tryz.ntmps240
 go_wp2
 all_goals
  go_ret
  refine⟨dK ?_,rfl⟩
  rw[Bool.eq_iff_iff]
  simp[uy]<;>omega
theorem empty_any (a b:Option Addr) (n m c d:Nat) (w:World):Calls Tryz.prog 200 #[.agg #[.slice a n c, .slice b m d]] w fun e w'=>e= .returned (.bool (decide (n=0∧m=0)))∧aj ay w w':=by
 go_enter Tryz.func200,Tryz.ntmps200
 go_wp2
 all_goals
  go_ret
  refine⟨dK ?_,aj.alloc _ _ _⟩
  rw[Bool.eq_iff_iff]
  simp<;>omega
def xk (d n e m:Int):Bool:=decide (d<e∨d=e∧n<m)
theorem Em (d n e m:Int) (w:World):Calls Tryz.prog 109 #[.agg #[.int .i64 d, .int .i64 n], .agg #[.int .i64 e, .int .i64 m]] w fun x w'=>x= .returned (.bool (xk d n e m))∧aj ay w w':=by
 by_cases h:d=e
 ·subst h
  go_enter Tryz.func109,Tryz.ntmps109
  go_wp2
  go_ret
  refine⟨dK ?_,(aj.alloc _ _ _).trans (aj.alloc _ _ _) (fun _ _ h=>h)⟩
  rw[Bool.eq_iff_iff]
  simp[xk]
 ·have h1:((d:Int)==e)=false:=by simpa using h
  go_enter Tryz.func109,Tryz.ntmps109
  go_wp2
  go_ret
  refine⟨dK ?_,(aj.alloc _ _ _).trans (aj.alloc _ _ _) (fun _ _ h=>h)⟩
  rw[Bool.eq_iff_iff]
  simp[xk]<;>omega
theorem Yo (a:Int) (w:World):Calls Tryz.prog 266 #[.int .i64 a] w fun e w'=>e= .returned (.bool false)∧w'=w:=by
 go_enter Tryz.func266,Tryz.ntmps266
 go_wp2
 go_ret
 exact⟨rfl,rfl⟩
theorem Yp (a:Int) (w:World):Calls Tryz.prog 293 #[.int .i64 a] w fun e w'=>e= .returned (.bool false)∧w'=w:=by
 go_enter Tryz.func293,Tryz.ntmps293
 go_wp2
 go_ret
 exact⟨rfl,rfl⟩
def uX (a b:Int):Int:=if a<b then-1 else if b<a then 1 else 0
theorem Qx (a b:Int) (w:World):Calls Tryz.prog 234 #[.int .i64 a, .int .i64 b] w fun e w'=>e= .returned (.int .i64 (uX a b))∧w'=w:=by
 go_enter Tryz.func234,Tryz.ntmps234
 go_wp2_with(go_at_call 266;refine(Yo _ _).mono ?_;rintro e w' ⟨rfl,rfl⟩)
 all_goals
  go_ret
  refine⟨Ky ?_,rfl⟩
  unfold uX
  split
  ·omega
  ·first|omega|(split<;>omega)
theorem Yq (a b:Int) (w:World):Calls Tryz.prog 270 #[.int .i64 a, .int .i64 b] w fun e w'=>e= .returned (.int .i64 (uX a b))∧w'=w:=by
 go_enter Tryz.func270,Tryz.ntmps270
 go_wp2_with(go_at_call 293;refine(Yp _ _).mono ?_;rintro e w' ⟨rfl,rfl⟩)
 all_goals
  go_ret
  refine⟨Ky ?_,rfl⟩
  unfold uX
  split
  ·omega
  ·first|omega|(split<;>omega)
open Go.RowKit
def Ig (x y:Int):Int:=if x=0 then y else x
theorem Yr (b c:Nat) (x y:Int) (w:World) (hx:w.cell? ⟨b,0,none⟩=some (.int .i64 x)) (hy:w.cell? ⟨b,1,none⟩=some (.int .i64 y)):
 Calls Tryz.prog 269 #[.slice (some ⟨b,0,none⟩) 2 c] w fun e w'=>e= .returned (.int .i64 (Ig x y))∧w'=w:=by
 by_cases h0:x=0
 ·subst h0
  by_cases h1:y=0
  ·subst h1
   go_enter Tryz.func269,Tryz.ntmps269
   go_wp2
   go_loop [8] (fun i=>∃k:Nat,k≤2∧i= .int .i64 k) (fun i=>2-(intOf i).toNat)
   case atStart=>exact⟨0,by omega,rfl⟩
   case round=>
    obtain⟨k,hk,rfl⟩:=hrel
    rcases(by omega:k=0∨k=1∨k=2)with rfl|rfl|rfl
    ·go_wp2
     go_round
     case rel=>exact⟨1,by omega,rfl⟩
     case measure=>simp[intOf]
    ·go_wp2
     go_round
     case rel=>exact⟨2,by omega,rfl⟩
     case measure=>simp[intOf]
    ·go_wp2
     go_ret
     exact⟨rfl,rfl⟩
  ·have h2:((y:Int)==0)=false:=by simpa using h1
   go_enter Tryz.func269,Tryz.ntmps269
   go_wp2
   go_loop [8] (fun i=>∃k:Nat,k≤1∧i= .int .i64 k) (fun i=>2-(intOf i).toNat)
   case atStart=>exact⟨0,by omega,rfl⟩
   case round=>
    obtain⟨k,hk,rfl⟩:=hrel
    rcases(by omega:k=0∨k=1)with rfl|rfl
    ·go_wp2
     go_round
     case rel=>exact⟨1,by omega,rfl⟩
     case measure=>simp[intOf]
    ·go_wp2
     go_ret
     exact⟨rfl,rfl⟩
 ·have h2:((x:Int)==0)=false:=by simpa using h0
  go_enter Tryz.func269,Tryz.ntmps269
  go_wp2
  go_loop [8] (fun i=>i= .int .i64 0) (fun i=>2-(intOf i).toNat)
  case atStart=>rfl
  case round=>
   obtain rfl:=hrel
   go_wp2
   go_ret
   exact⟨Ky (by simp[Ig,h0]),rfl⟩
def yI (d n e m:Int):Int:=Ig (uX d e) (uX n m)
theorem Yt (d n e m:Int):decide (yI d n e m<0)=xk d n e m:=by
 rw[Bool.eq_iff_iff]
 simp only[yI,xk,decide_eq_true_eq]
 unfold Ig uX
 by_cases h1:d<e
 ·simp[h1]
 ·by_cases h2:e<d
  ·simp[h1,h2];omega
  ·have:d=e:=by omega
   subst this
   by_cases h3:n<m
   ·simp[h3]
   ·by_cases h4:m<n<;>simp[h3,h4]<;>omega
theorem vZ (d n e m:Int) (w:World):Calls Tryz.prog 241 #[.agg #[.int .i64 d, .int .i64 n], .agg #[.int .i64 e, .int .i64 m]] w fun x w'=>x= .returned (.int .i64 (yI d n e m))∧aj ay w w':=by
 go_enter Tryz.func241,Tryz.ntmps241
 go_wp2_with fail
 go_region_held3 (fun w'=>w'.cell? ⟨w.heap.size,0,none⟩=some (.int .i64 d)∧w'.cell? ⟨w.heap.size,1,none⟩=some (.int .i64 n)∧w'.cell? ⟨w.heap.size+1,0,none⟩=some (.int .i64 e)∧w'.cell? ⟨w.heap.size+1,1,none⟩=some (.int .i64 m))
  (go_keep)
  (first
    |(go_at_call 270;refine(Yq _ _ _).mono ?_;rintro e w' ⟨rfl,rfl⟩)
    |(go_at_call 234;refine(Qx _ _ _).mono ?_;rintro e w' ⟨rfl,rfl⟩)
    |(go_at_call 269;refine(Yr _ _ (uX d e) (uX n m) _ (by go_simp) (by go_simp)).mono ?_;rintro e w' ⟨rfl,rfl⟩))
 all_goals
  go_wp2
  go_ret
  exact⟨rfl,by repeat(first|exact aj.refl _ _|refine aj.alloc1 ?_|refine aj.wY ?_)⟩
open Go.RowKit
def fH (l:aW):List Value:=l.flatMap fun r=> [.int .i64 r.1, .int .i64 r.2]
def qh (l:List Int):List Value:=l.map fun n=> .int .i64 n
def fJ (c:aX):List Value:=c.flatMap fun s=> [.int .i64 s.1, .int .i64 s.2.1, .int .i64 s.2.2]
theorem rV (a b:aW):fH (a++b)=fH a++fH b:=by simp[fH]
theorem Ih (a b:List Int):qh (a++b)=qh a++qh b:=by simp[qh]
theorem AQ (a b:aX):fJ (a++b)=fJ a++fJ b:=by simp[fJ]
theorem yJ:∀l:aW,(fH l).length=l.length*2
 |[]=>rfl
 |r::l=>by
  have e:fH (r::l)=[.int .i64 r.1, .int .i64 r.2]++fH l:=rfl
  rw[e,List.length_append,yJ l];simp;omega
theorem Ii:∀c:aX,(fJ c).length=c.length*3
 |[]=>rfl
 |s::c=>by
  have e:fJ (s::c)=[.int .i64 s.1, .int .i64 s.2.1, .int .i64 s.2.2]++fJ c:=rfl
  rw[e,List.length_append,Ii c];simp;omega
@[simp] theorem afd (l:List Int):(qh l).length=l.length:=by simp[qh]
theorem Yu (l:aW):∀v∈fH l,v.oneCell'=true:=by
 intro v hv
 simp only[fH,List.mem_flatMap]at hv
 obtain⟨r,_,hv⟩:=hv
 simp at hv
 rcases hv with rfl|rfl<;>rfl
theorem KN (c:aX):∀v∈fJ c,v.oneCell'=true:=by
 intro v hv
 simp only[fJ,List.mem_flatMap]at hv
 obtain⟨r,_,hv⟩:=hv
 simp at hv
 rcases hv with rfl|rfl|rfl<;>rfl
theorem Yv (l:List Int):∀v∈qh l,v.oneCell'=true:=by
 intro v hv
 simp only[qh,List.mem_map]at hv
 obtain⟨r,_,rfl⟩:=hv
 rfl
theorem Ij:∀(l:aW) (k:Nat),k<l.length→(fH l)[k*2]?=some (.int .i64 (l.getD k (0,0)).1)∧(fH l)[k*2+1]?=some (.int .i64 (l.getD k (0,0)).2)
 |[],_,h=>by cases h
 |r::l,0,_=>⟨rfl,rfl⟩
 |r::l,k+1,h=>by
  obtain⟨h1,h2⟩:=Ij l k (by simpa using h)
  have e:fH (r::l)= .int .i64 r.1:: .int .i64 r.2::fH l:=rfl
  rw[e,show(k+1)*2=k*2+1+1 by omega,show k*2+1+1+1=(k*2+1)+1+1 by omega]
  exact⟨h1,h2⟩
theorem Qy:∀(c:aX) (k:Nat),k<c.length→(fJ c)[k*3]?=some (.int .i64 (c.getD k (0,0,0)).1)∧(fJ c)[k*3+1]?=some (.int .i64 (c.getD k (0,0,0)).2.1)∧(fJ c)[k*3+2]?=some (.int .i64 (c.getD k (0,0,0)).2.2)
 |[],_,h=>by cases h
 |r::l,0,_=>⟨rfl,rfl,rfl⟩
 |r::l,k+1,h=>by
  obtain⟨h1,h2,h3⟩:=Qy l k (by simpa using h)
  have e:fJ (r::l)= .int .i64 r.1:: .int .i64 r.2.1:: .int .i64 r.2.2::fJ l:=rfl
  rw[e,show(k+1)*3=k*3+1+1+1 by omega,show k*3+1+1+1+1=(k*3+1)+1+1+1 by omega,show k*3+1+1+1+2=(k*3+2)+1+1+1 by omega]
  exact⟨h1,h2,h3⟩
def lK (w:World) (v:Value) (l:aW):Prop:=Rd w v l.length (fH l)
def jf (w:World) (v:Value) (c:aX):Prop:=Rd w v c.length (fJ c)
def Ik (w:World) (v:Value) (l:List Int):Prop:=Rd w v l.length (qh l)
theorem Rd.aJ {w w':World} {v:Value} {n:Nat} {xs:List Value} (h:Rd w v n xs) (f:aj ay w w'):Rd w' v n xs:=h.keep f fun _ _ h=>h
theorem Rd.shape {w:World} {v:Value} {n:Nat} {xs:List Value} (h:Rd w v n xs):(∃ad,v= .slice ad 0 0∧n=0)∨∃b off c,v= .slice (some ⟨b,off,none⟩) n c∧(n:Int)≤9223372036854775807:=by
 rcases h with⟨ad,h1,h2,_⟩|⟨b,off,c,h1,h2,h3,_⟩
 ·exact .inl ⟨ad,h1,h2⟩
 ·exact .inr ⟨b,off,c,h1,by simp only[maxLen]at h3;omega⟩
theorem Rd.sl {w:World} {v:Value} {n:Nat} {xs:List Value} (h:Rd w v n xs):∃a c,v= .slice a n c:=by
 rcases h with⟨ad,h1,h2,_⟩|⟨b,off,c,h1,_⟩
 ·exact⟨ad,0,by rw[h1,h2]⟩
 ·exact⟨_,c,h1⟩
theorem Rd.cell {w:World} {b off c n:Nat} {xs:List Value} (h:Rd w (.slice (some ⟨b,off,none⟩) n c) n xs) (j:Nat) (u:Value) (hu:xs[j]?=some u):w.cell? ⟨b,off+j,none⟩=some u:=by
 rcases h with⟨ad,h1,h2,h3⟩|⟨b',off',c',h1,_,_,h4⟩
 ·subst h3;simp at hu
 ·injection h1 with e1 e2 e3
  injection e1 with e1
  injection e1 with e4 e5
  subst e4 e5
  exact h4 j u hu
theorem qj {w:World} {b off c n:Nat} {l:aW} (h:lK w (.slice (some ⟨b,off,none⟩) n c) l) (hn:n=l.length) (k:Nat) (hk:k<l.length):
 w.cell? ⟨b,off+k*2,none⟩=some (.int .i64 (l.getD k (0,0)).1)∧w.cell? ⟨b,off+k*2+1,none⟩=some (.int .i64 (l.getD k (0,0)).2):=by
 subst hn
 exact⟨h.cell _ _ (Ij l k hk).1,h.cell (k*2+1) _ (Ij l k hk).2⟩
theorem AU {w:World} {b off c n:Nat} {l:aX} (h:jf w (.slice (some ⟨b,off,none⟩) n c) l) (hn:n=l.length) (k:Nat) (hk:k<l.length):
 w.cell? ⟨b,off+k*3,none⟩=some (.int .i64 (l.getD k (0,0,0)).1)∧w.cell? ⟨b,off+k*3+1,none⟩=some (.int .i64 (l.getD k (0,0,0)).2.1)∧w.cell? ⟨b,off+k*3+2,none⟩=some (.int .i64 (l.getD k (0,0,0)).2.2):=by
 subst hn
 obtain⟨h1,h2,h3⟩:=Qy l k hk
 exact⟨h.cell _ _ h1,h.cell (k*3+1) _ h2,h.cell (k*3+2) _ h3⟩
theorem Qz {w:World} {b off c n:Nat} {l:List Int} (h:Ik w (.slice (some ⟨b,off,none⟩) n c) l) (hn:n=l.length) (k:Nat) (hk:k<l.length):w.cell? ⟨b,off+k,none⟩=some (.int .i64 (l.getD k 0)):=by
 subst hn
 exact h.cell _ _ (by simp[qh,List.getD,hk])
theorem getD_at {α:Type} {l:List α} {k:Nat} (d:α) (h:k<l.length):l.getD k d=l[k]:=by simp[List.getD,h]
theorem getD_mem {α:Type} {l:List α} {k:Nat} (d:α) (h:k<l.length):l.getD k d∈l:=by rw[getD_at d h];exact List.getElem_mem h
theorem take_succ {α:Type} {l:List α} {k:Nat} (d:α) (h:k<l.length):l.take (k+1)=l.take k++ [l.getD k d]:=by rw[List.take_succ_eq_append_getElem h,getD_at d h]
theorem QA:∀ {a b:aW} {lo:Int},iM lo (a++b)→iM lo a
 |[],_,_,_=>trivial
 |_::_,_,_,h=>⟨h.1,h.2.1,QA h.2.2⟩
theorem dR.take {l:aW} (h:dR l) (k:Nat):dR (l.take k):=by
 refine⟨QA (b:=l.drop k) (by rw[List.take_append_drop];exact h.1),fun r hr=>h.2 r (List.mem_of_mem_take hr)⟩
theorem KO {l:aW} {k:Nat} (h:dR (l.take k)) (hk:k<l.length):
 dR (l.take (k+1))↔1≤(l.getD k (0,0)).1∧(l.getD k (0,0)).2≤1099511627776∧(l.getD k (0,0)).1≤(l.getD k (0,0)).2∧(0<k→(l.getD (k-1) (0,0)).2+2≤(l.getD k (0,0)).1):=by
 rw[take_succ (0,0) hk]
 generalize l.getD k (0,0)=r
 unfold dR
 rw[B_]
 constructor
 ·rintro⟨⟨_,h2,h3,h4⟩,h5⟩
  refine⟨h2,h5 r (by simp),h3,fun h0=>h4 _ ?_⟩
  obtain⟨j,rfl⟩:∃j,k=j+1:=⟨k-1,by omega⟩
  rw[take_succ (0,0) (by omega)]
  simp
 ·rintro⟨h1,h2,h3,h4⟩
  refine⟨⟨h.1,h1,h3,fun x hx=>?_⟩,fun x hx=>?_⟩
  ·rcases Nat.eq_zero_or_pos k with rfl|h0
   ·simp at hx
   ·have h5:=h4 h0
    obtain⟨j,rfl⟩:∃j,k=j+1:=⟨k-1,by omega⟩
    have h6:=h.1
    rw[take_succ (0,0) (by omega)]at hx h6
    obtain⟨_,_,h8,h9⟩:=B_.1 h6
    rw[show j+1-1=j by omega]at h5
    rcases List.mem_append.1 hx with hx|hx
    ·have:=h9 x hx;omega
    ·simp only[List.mem_singleton]at hx;subst hx;exact h5
  ·rcases List.mem_append.1 hx with hx|hx
   ·exact h.2 x hx
   ·simp only[List.mem_singleton]at hx;subst hx;exact h2
theorem QB {l:aW} {k:Nat} (h:dR (l.take k)) (hk:k<l.length)
 (hn:¬(1≤(l.getD k (0,0)).1∧(l.getD k (0,0)).2≤1099511627776∧(l.getD k (0,0)).1≤(l.getD k (0,0)).2∧(0<k→(l.getD (k-1) (0,0)).2+2≤(l.getD k (0,0)).1))):¬dR l:=
 fun hl=>hn ((KO h hk).1 (hl.take (k+1)))
def Fits (l:aW):Prop:=∀r∈l,-9223372036854775808≤r.1∧r.1≤9223372036854775807∧-9223372036854775808≤r.2∧r.2≤9223372036854775807
theorem dR.fits {l:aW} (h:dR l):Fits l:=fun r hr=>by
 have:=oZ h.1 r hr
 have:=h.2 r hr
 omega
open Go.RowKit
theorem KP (w:World) (v:Value) (l:aW) (hv:lK w v l) (hf:Fits l):
 Calls Tryz.prog 190 #[v] w fun e w'=>e= .returned (.bool (tf (dR l)))∧aj ay w w':=by
 rcases Rd.shape hv with⟨ad,rfl,h0⟩|⟨b,off,c,rfl,hmax⟩
 ·obtain rfl:l=[]:=List.eq_nil_of_length_eq_zero h0
  rw[dO yH]
  clear hv hf
  go_enter Tryz.func190,Tryz.ntmps190
  go_wp2
  go_loop [6] (fun i=>i= .int .i64 0) (fun _=>0)
  case atStart=>rfl
  case round=>
   obtain rfl:=hrel
   go_wp2
   go_ret
   exact⟨rfl,aj.refl _ _⟩
 ·have HH:=ah hv;clear hv
  have HF:=ah hf;clear hf
  generalize hn:l.length=n at*
  have HN:=ah hn;clear hn
  go_enter Tryz.func190,Tryz.ntmps190
  go_wp2
  go_loopw [6] (fun i ww=>∃k:Nat,k≤n∧i= .int .i64 k∧dR (l.take k)∧∃q,ww=w.drewN q) (fun i _=>n-(intOf i).toNat)
  case atStart=>exact⟨0,Nat.zero_le _,rfl,yH,0,rfl⟩
  case round=>
   obtain⟨k,hk,rfl,hr,q,rfl⟩:=hrel
   have HR:=ah hr;clear hr
   by_cases hlt:k<n
   ·obtain⟨q1,q2⟩:=qj HH.out HN.out.symm k (by rw[HN.out];exact hlt)
    have hfit:=HF.out _ (getD_mem (0,0) (show k<l.length by rw[HN.out];exact hlt))
    have HS:=ah (KO HR.out (show k<l.length by rw[HN.out];exact hlt))
    have HX:=ah (QB HR.out (show k<l.length by rw[HN.out];exact hlt))
    generalize l.getD k (0,0)=r at*
    by_cases c1:r.1<1
    ·go_wp2_with fail
     go_big_quiet (fail)
     go_wp2
     go_ret
     exact⟨dK (bf (HX.out (by omega))).symm,(aj.drewN _ _ _).kS⟩
    ·have d1:decide (r.1<1)=false:=by simpa using c1
     by_cases c2:1099511627776<r.2
     ·go_wp2_with fail
      go_big_quiet (fail)
      go_wp2
      go_ret
      exact⟨dK (bf (HX.out (by omega))).symm,(aj.drewN _ _ _).kS⟩
     ·have d2:decide (1099511627776<r.2)=false:=by simpa using c2
      by_cases c3:r.2<r.1
      ·go_wp2_with fail
       go_big_quiet (fail)
       go_wp2
       go_ret
       exact⟨dK (bf (HX.out (by omega))).symm,(aj.drewN _ _ _).kS⟩
      ·have d3:decide (r.2<r.1)=false:=by simpa using c3
       rcases Nat.eq_zero_or_pos k with rfl|hk0
       ·simp only[Nat.zero_mul,Nat.add_zero]at q1 q2
        go_wp2_with fail
        go_big_quiet (fail)
        go_wp2
        go_roundw
        case rel=>exact⟨0+1,by omega,by go_num,HS.out.2 ⟨by omega,by omega,by omega,by omega⟩,q+nq,by first|rfl|rw[World.drewN_drewN]⟩
        case measure=>simp[intOf];omega
       ·obtain⟨j,rfl⟩:∃j,k=j+1:=⟨k-1,by omega⟩
        obtain⟨-,p2⟩:=qj HH.out HN.out.symm j (by rw[HN.out];omega)
        have Yw:=HF.out _ (getD_mem (0,0) (show j<l.length by rw[HN.out];omega))
        rw[show j+1-1=j by omega]at HS HX
        have Yx:1≤(l.getD j (0,0)).2∧(l.getD j (0,0)).2≤1099511627776:=by
         have hm:=getD_mem (0,0) (show j<(l.take (j+1)).length by rw[List.length_take,HN.out];omega)
         have he:(l.take (j+1)).getD j (0,0)=l.getD j (0,0):=by simp[List.getD]
         rw[he]at hm
         have:=oZ HR.out.1 _ hm
         have:=HR.out.2 _ hm
         omega
        generalize l.getD j (0,0)=p at*
        have hd:wrap64 (j:Int)=j:=by unfold wrap64;omega
        by_cases c4:r.1-p.2<2
        ·go_wp2_with fail
         go_big_quiet (fail)
         go_wp2
         go_ret
         exact⟨dK (bf (HX.out (by omega))).symm,(aj.drewN _ _ _).kS⟩
        ·go_wp2_with fail
         go_big_quiet (fail)
         go_wp2
         go_roundw
         case rel=>exact⟨j+1+1,by omega,by go_num,HS.out.2 ⟨by omega,by omega,by omega,by omega⟩,q+nq,by first|rfl|rw[World.drewN_drewN]⟩
         case measure=>simp[intOf];omega
   ·obtain rfl:k=n:=by omega
    have hall:dR l:=by
     have:=HR.out
     rwa [List.take_of_length_le (by rw[HN.out];exact Nat.le_refl _)]at this
    have HA:=ah hall;clear hall
    go_wp2
    go_ret
    exact⟨dK (dO HA.out).symm,aj.drewN _ _ _⟩
open Go.RowKit
theorem Il (w:World) (v:Value) (l:aW) (hv:lK w v l) (hf:Fits l):
 Calls Tryz.prog 251 #[v] w fun e w'=>e= .returned (.bool (tf (dR l)))∧aj ay w w':=by
 rcases Rd.shape hv with⟨ad,rfl,h0⟩|⟨b,off,c,rfl,hmax⟩
 ·obtain rfl:l=[]:=List.eq_nil_of_length_eq_zero h0
  rw[dO yH]
  clear hv hf
  go_enter Tryz.func251,Tryz.ntmps251
  go_wp2
  go_loop [7] (fun i=>i= .int .i64 0) (fun _=>0)
  case atStart=>rfl
  case round=>
   obtain rfl:=hrel
   go_wp2
   go_ret
   exact⟨rfl,aj.refl _ _⟩
 ·have HH:=ah hv;clear hv
  have HF:=ah hf;clear hf
  generalize hn:l.length=n at*
  have HN:=ah hn;clear hn
  go_enter Tryz.func251,Tryz.ntmps251
  go_wp2
  go_loopw [7] (fun i ww=>∃k:Nat,k≤n∧i= .int .i64 k∧dR (l.take k)∧aj ay w ww) (fun i _=>n-(intOf i).toNat)
  case atStart=>exact⟨0,Nat.zero_le _,rfl,yH,aj.refl _ _⟩
  case round=>
   obtain⟨k,hk,rfl,hr,hw⟩:=hrel
   have HR:=ah hr;clear hr
   have HW:=ah hw;clear hw
   by_cases hlt:k<n
   ·obtain⟨q1,q2⟩:=qj (HH.out.aJ HW.out) HN.out.symm k (by rw[HN.out];exact hlt)
    have hbl:=World.block_lt_of_cell? _ _ q1
    have hbl:b<wr.heap.size:=hbl
    have hfit:=HF.out _ (getD_mem (0,0) (show k<l.length by rw[HN.out];exact hlt))
    have HS:=ah (KO HR.out (show k<l.length by rw[HN.out];exact hlt))
    have HX:=ah (QB HR.out (show k<l.length by rw[HN.out];exact hlt))
    generalize l.getD k (0,0)=r at*
    cases n1:vY r.1 with
    |false=>
     go_wp2_with fail
     go_big_quiet ((go_at_call 267;exact Calls.quiet_of_same (AP _ _)))
     go_wp2
     go_ret
     exact⟨dK (bf (HX.out (by unfold vY at n1;simp at n1;omega))).symm,HW.out.alloc1.kS⟩
    |true=>
     cases n2:vY r.2 with
     |false=>
      go_wp2_with fail
      go_big_quiet ((go_at_call 267;exact Calls.quiet_of_same (AP _ _)))
      go_wp2
      go_ret
      exact⟨dK (bf (HX.out (by unfold vY at n1 n2;simp at n1 n2;omega))).symm,HW.out.alloc1.kS⟩
     |true=>
      by_cases c3:r.2<r.1
      ·go_wp2_with fail
       go_big_quiet ((go_at_call 267;exact Calls.quiet_of_same (AP _ _)))
       go_wp2
       go_ret
       exact⟨dK (bf (HX.out (by omega))).symm,HW.out.alloc1.kS⟩
      ·have d3:decide (r.2<r.1)=false:=by simpa using c3
       rcases Nat.eq_zero_or_pos k with rfl|hk0
       ·simp only[Nat.zero_mul,Nat.add_zero]at q1 q2
        go_wp2_with fail
        go_big_quiet ((go_at_call 267;exact Calls.quiet_of_same (AP _ _)))
        go_wp2
        go_roundw
        case rel=>exact⟨0+1,by omega,by go_num,HS.out.2 (by unfold vY at n1 n2;simp at n1 n2;omega),HW.out.alloc1.kS⟩
        case measure=>simp[intOf];omega
       ·obtain⟨j,rfl⟩:∃j,k=j+1:=⟨k-1,by omega⟩
        obtain⟨-,p2⟩:=qj (HH.out.aJ HW.out) HN.out.symm j (by rw[HN.out];omega)
        have Yw:=HF.out _ (getD_mem (0,0) (show j<l.length by rw[HN.out];omega))
        rw[show j+1-1=j by omega]at HS HX
        have Yx:1≤(l.getD j (0,0)).2∧(l.getD j (0,0)).2≤1099511627776:=by
         have hm:=getD_mem (0,0) (show j<(l.take (j+1)).length by rw[List.length_take,HN.out];omega)
         have he:(l.take (j+1)).getD j (0,0)=l.getD j (0,0):=by simp[List.getD]
         rw[he]at hm
         have:=oZ HR.out.1 _ hm
         have:=HR.out.2 _ hm
         omega
        generalize l.getD j (0,0)=p at*
        have hd:wrap64 (j:Int)=j:=by unfold wrap64;omega
        by_cases c4:r.1≤p.2+1
        ·go_wp2_with fail
         go_big_quiet ((go_at_call 267;exact Calls.quiet_of_same (AP _ _)))
         go_wp2
         go_ret
         exact⟨dK (bf (HX.out (by omega))).symm,HW.out.alloc1.kS⟩
        ·go_wp2_with fail
         go_big_quiet ((go_at_call 267;exact Calls.quiet_of_same (AP _ _)))
         go_wp2
         go_roundw
         case rel=>exact⟨j+1+1,by omega,by go_num,HS.out.2 (by unfold vY at n1 n2;simp at n1 n2;omega),HW.out.alloc1.kS⟩
         case measure=>simp[intOf];omega
   ·obtain rfl:k=n:=by omega
    have hall:dR l:=by
     have:=HR.out
     rwa [List.take_of_length_le (by rw[HN.out];exact Nat.le_refl _)]at this
    have HA:=ah hall;clear hall
    go_wp2
    go_ret
    exact⟨dK (dO HA.out).symm,HW.out⟩
end Go.Proofs.YtabkpccdnkjoiaaGreat
