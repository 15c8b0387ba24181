/- Words for the law BundleOrder: Ctx, BSmall, Reg, BDot, RunAt, R6, SpRight. -/
import Derived.Test.YtabkpccdnkjoiaaGreatBundleOrderG0
import Derived.Test.YtabkpccdnkjoiaaGreatBundleOrderG1
import Derived.Test.YtabkpccdnkjoiaaGreatChecked
import Derived.Deep.RegionHeld
import Derived.Deep.RegionHeld3
import Derived.Deep.DeepCutAuto
import Derived.Deep.RegionWith
set_option linter.unusedSimpArgs false
set_option linter.unusedVariables false
set_option maxHeartbeats 32000000
set_option maxRecDepth 1000000
namespace Go.Proofs.YtabkpccdnkjoiaaGreat
noncomputable def tf (p:Prop):Bool:=@decide p (Classical.propDecidable p)
theorem bM {p:Prop} (h:p):tf p=true:=by unfold tf;exact @decide_eq_true p (Classical.propDecidable p) h
theorem bn {p:Prop} (h:¬p):tf p=false:=by unfold tf;exact @decide_eq_false p (Classical.propDecidable p) h
theorem o_ {p:Prop}:tf p=true↔p:=⟨fun h=>Classical.byContradiction fun hn=>(by rw[bn hn]at h;cases h),bM⟩
theorem rP {p:Prop}:tf p=false↔¬p:=⟨fun h hp=>(by rw[bM hp]at h;cases h),bn⟩
theorem lI {p q:Prop} (h:p↔q):tf p=tf q:=by rw[propext h]
theorem uq {b:Bool} {p:Prop} (h:b=true↔p):b=tf p:=by
 cases b with
 |true=>exact(bM (h.1 rfl)).symm
 |false=>exact(bn fun hp=>by cases h.2 hp).symm
def bG (l:aQ):Prop:=dI 1 l∧∀r∈l,r.2≤1099511627776
theorem iI:∀ {l:aQ} {lo:Int},dI lo l→∀r∈l,lo≤r.1∧r.1≤r.2
 |[],_,_,r,hr=>by cases hr
 |y::l,lo,h,r,hr=>by
  rcases List.mem_cons.1 hr with rfl|hr
  ·exact⟨h.1,h.2.1⟩
  ·have:=iI h.2.2 r hr
   have:=h.1
   have:=h.2.1
   omega
theorem bG.xu {l:aQ} (h:bG l) {n:Int} (hn:aV l n):1≤n∧n≤1099511627776:=by
 obtain⟨r,hr,h1,h2⟩:=hn
 have:=iI h.1 r hr
 have:=h.2 r hr
 omega
theorem bG.of {l:aQ} (h:dI 1 l) (hn:∀n,aV l n→n≤1099511627776):bG l:=
 ⟨h,fun r hr=>hn r.2 ⟨r,hr,(iI h r hr).2,Int.le_refl _⟩⟩
theorem pq:bG []:=⟨trivial,fun r hr=>by cases hr⟩
theorem JR {l l':aQ} (h:bG l) (h':bG l') (he:∀n,aV l n↔aV l' n):l=l':=zM h.1 h'.1 he
theorem bG.zV {l:aQ} (h:bG l):l=[]↔∀n,¬aV l n:=by
 constructor
 ·rintro rfl n;exact iM n
 ·intro hn
  cases l with
  |nil=>rfl
  |cons r l=>exact absurd ⟨r,List.mem_cons_self,Int.le_refl _,h.1.2.1⟩ (hn r.1)
abbrev aU:=List (Int×Int×Int)
def aZ (c:aU) (d:Int):aQ:=(c.filter fun s=>s.1==d).map (·.2)
def fC (c:aU) (d n:Int):Prop:=aV (aZ c d) n
def dU:Int→aU→Prop
 |_,[]=>True
 |lo,s::c=>lo≤s.1∧s.1<4∧dU s.1 c
def bH (c:aU):Prop:=dU 0 c∧∀d,0≤d→d<4→bG (aZ c d)
def cO (d:Int) (l:aQ):aU:=l.map fun r=>(d,r.1,r.2)
def gZ (p:Int→aQ):aU:=cO 0 (p 0)++(cO 1 (p 1)++(cO 2 (p 2)++cO 3 (p 3)))
theorem xw (d:Int):aZ [] d=[]:=rfl
theorem uw (a b:aU) (d:Int):aZ (a++b) d=aZ a d++aZ b d:=by simp[aZ]
theorem xC (s:Int×Int×Int) (c:aU):aZ (s::c) s.1=s.2::aZ c s.1:=by simp[aZ]
theorem uy (s:Int×Int×Int) (c:aU) {d:Int} (h:s.1≠d):aZ (s::c) d=aZ c d:=by simp[aZ,h]
theorem uz (d:Int) (l:aQ):aZ (cO d l) d=l:=by
 unfold aZ cO
 rw[List.filter_eq_self.2 (by intro s hs;simp at hs;obtain⟨a,b,_,rfl⟩:=hs;simp),List.map_map]
 exact List.map_id l
theorem kZ {d d':Int} (l:aQ) (h:d≠d'):aZ (cO d l) d'=[]:=by
 unfold aZ cO
 rw[List.filter_eq_nil_iff.2 (by intro s hs;simp at hs;obtain⟨a,b,_,rfl⟩:=hs;simpa using h)]
 rfl
theorem four {d:Int} (h0:0≤d) (h4:d<4):d=0∨d=1∨d=2∨d=3:=by omega
theorem xE (p:Int→aQ) {d:Int} (h0:0≤d) (h4:d<4):aZ (gZ p) d=p d:=by
 unfold gZ
 rw[uw,uw,uw]
 rcases four h0 h4 with rfl|rfl|rfl|rfl
 ·rw[uz,kZ (d:=1) _ (by decide),kZ (d:=2) _ (by decide),kZ (d:=3) _ (by decide)];simp
 ·rw[uz,kZ (d:=0) _ (by decide),kZ (d:=2) _ (by decide),kZ (d:=3) _ (by decide)];simp
 ·rw[uz,kZ (d:=0) _ (by decide),kZ (d:=1) _ (by decide),kZ (d:=3) _ (by decide)];simp
 ·rw[uz,kZ (d:=0) _ (by decide),kZ (d:=1) _ (by decide),kZ (d:=2) _ (by decide)];simp
theorem dU.mono {lo lo':Int} {c:aU} (h:dU lo c) (hl:lo'≤lo):dU lo' c:=by
 cases c with
 |nil=>trivial
 |cons s c=>exact⟨Int.le_trans hl h.1,h.2⟩
theorem rQ {d lo:Int} (h:lo≤d) (h4:d<4):∀(l:aQ) {c:aU},dU d c→dU lo (cO d l++c)
 |[],_,hc=>hc.mono h
 |_::l,_,hc=>⟨h,h4,rQ (Int.le_refl _) h4 l hc⟩
theorem JU (p:Int→aQ):dU 0 (gZ p):=by
 have h3:dU 3 (cO 3 (p 3)):=by
  have:=rQ (lo:=3) (d:=3) (by decide) (by decide) (p 3) (c:=[]) trivial
  rwa [List.append_nil]at this
 exact rQ (d:=0) (by decide) (by decide) _ ((rQ (d:=1) (lo:=1) (by decide) (by decide) _ ((rQ (d:=2) (lo:=2) (by decide) (by decide) _ (h3.mono (by decide))).mono (by decide))).mono (by decide))
theorem zW {p:Int→aQ} (h:∀d,0≤d→d<4→bG (p d)):bH (gZ p):=
 ⟨JU p,fun d h0 h4=>by rw[xE p h0 h4];exact h d h0 h4⟩
theorem lg:∀ {c:aU} {lo d:Int},dU lo c→d<lo→aZ c d=[]
 |[],_,_,_,_=>rfl
 |s::c,lo,d,h,hd=>by
  have:=h.1
  rw[uy s c (by omega),lg h.2.2 (by omega)]
theorem pz:∀ {c:aU} {lo:Int},0≤lo→dU lo c→gZ (aZ c)=c
 |[],_,_,_=>rfl
 |s::c,lo,hl,h=>by
  have h1:=h.1
  have h2:=h.2.1
  have ih:=pz (by omega) h.2.2
  obtain⟨k,r⟩:=s
  simp only at h1 h2
  have hk:=four (d:=k) (by omega) h2
  have hd:=h.2.2
  simp only at hd ih
  have e:∀d,k≠d→aZ ((k,r)::c) d=aZ c d:=fun d hd=>uy _ _ hd
  have e0:aZ ((k,r)::c) k=r::aZ c k:=xC (k,r) c
  unfold gZ at ih⊢
  rcases hk with rfl|rfl|rfl|rfl
  ·rw[e0,e 1 (by decide),e 2 (by decide),e 3 (by decide)]
   show(0,r)::(cO 0 (aZ c 0)++_)=_
   rw[ih]
  ·rw[e0,e 0 (by decide),e 2 (by decide),e 3 (by decide),lg hd (by decide)]
   rw[lg hd (by decide)]at ih
   show(1,r)::(cO 0 []++(cO 1 (aZ c 1)++_))=_
   rw[ih]
  ·rw[e0,e 0 (by decide),e 1 (by decide),e 3 (by decide),lg (d:=0) hd (by decide),lg (d:=1) hd (by decide)]
   rw[lg (d:=0) hd (by decide),lg (d:=1) hd (by decide)]at ih
   show(2,r)::(cO 0 []++(cO 1 []++(cO 2 (aZ c 2)++_)))=_
   rw[ih]
  ·rw[e0,e 0 (by decide),e 1 (by decide),e 2 (by decide),lg (d:=0) hd (by decide),lg (d:=1) hd (by decide),lg (d:=2) hd (by decide)]
   rw[lg (d:=0) hd (by decide),lg (d:=1) hd (by decide),lg (d:=2) hd (by decide)]at ih
   show(3,r)::(cO 0 []++(cO 1 []++(cO 2 []++cO 3 (aZ c 3))))=_
   rw[ih]
theorem JV {a b:aU} (ha:bH a) (hb:bH b) (h:∀d n,0≤d→d<4→(fC a d n↔fC b d n)):a=b:=by
 have hp:∀d,0≤d→d<4→aZ a d=aZ b d:=fun d h0 h4=>JR (ha.2 d h0 h4) (hb.2 d h0 h4) fun n=>h d n h0 h4
 rw[←pz (Int.le_refl 0) ha.1,←pz (Int.le_refl 0) hb.1]
 unfold gZ
 rw[hp 0 (by decide) (by decide),hp 1 (by decide) (by decide),hp 2 (by decide) (by decide),hp 3 (by decide) (by decide)]
theorem JW {d:Int} {l:aQ}:cO d l=[]↔l=[]:=by simp[cO]
theorem JX {p:Int→aQ}:gZ p=[]↔∀d,0≤d→d<4→p d=[]:=by
 unfold gZ
 simp only[List.append_eq_nil_iff,JW]
 constructor
 ·rintro⟨h0,h1,h2,h3⟩ d hd hd4
  rcases four hd hd4 with rfl|rfl|rfl|rfl<;>assumption
 ·exact fun h=>⟨h 0 (by decide) (by decide),h 1 (by decide) (by decide),h 2 (by decide) (by decide),h 3 (by decide) (by decide)⟩
def fK (a b:aU):Prop:=∀d n,0≤d→d<4→fC a d n→fC b d n
structure fU (how:Int) (a b c:aU):Prop where
 right:bH c
 mem:∀d n,0≤d→d<4→(fC c d n↔cZ how (fC a d n) (fC b d n))
theorem fU.one {how:Int} {a b c c':aU} (h:fU how a b c) (h':fU how a b c'):c=c':=
 JV h.right h'.right fun d n h0 h4=>(h.mem d n h0 h4).trans (h'.mem d n h0 h4).symm
theorem fU.whole {how:Int} {a b:aU} {p:Int→aQ} (hp:∀d,0≤d→d<4→bG (p d)) (hm:∀d n,0≤d→d<4→(aV (p d) n↔cZ how (fC a d n) (fC b d n))):fU how a b (gZ p):=
 ⟨zW hp,fun d n h0 h4=>by unfold fC;rw[xE p h0 h4];exact hm d n h0 h4⟩
theorem bH.zV {c:aU} (h:bH c):c=[]↔∀d n,0≤d→d<4→¬fC c d n:=by
 constructor
 ·rintro rfl d n _ _ hn
  exact iM n hn
 ·intro hn
  rw[←pz (Int.le_refl 0) h.1,JX]
  exact fun d h0 h4=>(h.2 d h0 h4).zV.2 fun n=>hn d n h0 h4
theorem fU.Ew {a b c:aU} (h:fU 2 a b c):c=[]↔fK a b:=by
 rw[h.right.zV]
 constructor
 ·intro hn d n h0 h4 hi
  exact Classical.byContradiction fun hb=>hn d n h0 h4 ((h.mem d n h0 h4).2 (by unfold cZ;rw[if_pos rfl];exact⟨hi,hb⟩))
 ·intro hl d n h0 h4 hi
  have:=(h.mem d n h0 h4).1 hi
  unfold cZ at this
  rw[if_pos rfl]at this
  exact this.2 (hl d n h0 h4 this.1)
def jI (n:Int):aQ:=if 0<n then [(1,n)]else []
def eH (v:Int→Int):aU:=gZ fun d=>jI (v d)
theorem JY (m n:Int):aV (jI m) n↔1≤n∧n≤m:=by
 unfold jI
 split
 ·rw[rJ]
 ·exact⟨fun h=>absurd h (iM n),fun h=>by omega⟩
theorem JZ {m:Int} (h:m≤1099511627776):bG (jI m):=by
 unfold jI
 split
 ·exact⟨⟨Int.le_refl _,by omega,trivial⟩,fun r hr=>by simp at hr;subst hr;exact h⟩
 ·exact pq
theorem uD (v:Int→Int) {d:Int} (n:Int) (h0:0≤d) (h4:d<4):fC (eH v) d n↔1≤n∧n≤v d:=by
 unfold fC eH
 rw[xE _ h0 h4,JY]
theorem Ey {v:Int→Int} (h:∀d,0≤d→d<4→v d≤1099511627776):bH (eH v):=zW fun d h0 h4=>JZ (h d h0 h4)
theorem rU (d a b d' n:Int):fC [(d,a,b)] d' n↔d'=d∧a≤n∧n≤b:=by
 unfold fC
 by_cases h:d=d'
 ·subst h
  rw[xC (d,a,b) [],xw,rJ]
  exact⟨fun h=>⟨rfl,h⟩,fun h=>h.2⟩
 ·rw[uy (d,a,b) [] h,xw]
  exact⟨fun h=>absurd h (iM n),fun h1=>absurd h1.1.symm h⟩
theorem xG {d a b:Int} (h0:0≤d) (h4:d<4) (ha:1≤a) (hab:a≤b) (hb:b≤1099511627776):bH [(d,a,b)]:=by
 refine⟨⟨h0,h4,trivial⟩,fun d' _ _=>?_⟩
 by_cases h:d=d'
 ·subst h
  rw[xC (d,a,b) [],xw]
  exact⟨⟨ha,hab,trivial⟩,fun r hr=>by simp at hr;subst hr;exact hb⟩
 ·rw[uy (d,a,b) [] h,xw]
  exact pq
theorem J_:bH []:=⟨trivial,fun _ _ _=>pq⟩
structure ku (l:List (Int×Int)) (c:aU):Prop where
 right:bH c
 mem:∀d n,0≤d→d<4→(fC c d n↔(d,n)∈l)
open Go.RowKit
abbrev au:Nat→Prop:=fun _=>False
def ni (n:Int):Bool:=decide (1≤n∧n≤1099511627776)
def iO (d n:Int):Bool:=decide (0≤d∧d<4∧1≤n∧n≤1099511627776)
theorem qB (n:Int) (w:World):Calls Tryz.prog 267 #[.int .i64 n] w fun e w'=>e= .returned (.bool (ni n))∧w'=w:=by
 go_enter Tryz.func267,Tryz.ntmps267
 go_wp2
 all_goals
  go_ret
  refine⟨bg ?_,rfl⟩
  rw[Bool.eq_iff_iff]
  simp[ni]<;>omega
theorem qC (d n:Int) (w:World):Calls Tryz.prog 236 #[.agg #[.int .i64 d, .int .i64 n]] w fun e w'=>e= .returned (.bool (iO d n))∧aj au w w':=by
 go_enter Tryz.func236,Tryz.ntmps236
 go_wp2
 all_goals
  go_ret
  refine⟨bg ?_,aj.alloc _ _ _⟩
  rw[Bool.eq_iff_iff]
  simp[iO]<;>omega
theorem Ez (d n:Int) (w:World):Calls Tryz.prog 263 #[.agg #[.int .i64 d, .int .i64 n]] w fun e w'=>e= .returned (.bool (iO d n))∧aj au w w':=by
 go_enter Tryz.func263,Tryz.ntmps263
 go_wp2
 all_goals
  go_ret
  refine⟨bg ?_,aj.alloc _ _ _⟩
  rw[Bool.eq_iff_iff]
  simp[iO]<;>omega
def kC (s:ByteArray):Bool:=decide (1≤s.size∧s.size≤30)
theorem oh (s:ByteArray) (w:World) (h:s.size≤9223372036854775807):Calls Tryz.prog 250 #[.string s] w fun e w'=>e= .returned (.bool (kC s))∧w'=w:=by
 go_enter Tryz.func250,Tryz.ntmps250
 go_wp2
 all_goals
  go_ret
  refine⟨bg ?_,rfl⟩
  rw[Bool.eq_iff_iff]
  simp[kC]<;>omega
theorem oq (s:ByteArray) (w:World) (h:s.size≤9223372036854775807):Calls Tryz.prog 240 #[.string s] w fun e w'=>e= .returned (.bool (kC s))∧w'=w:=by
 go_enter Tryz.func240,Tryz.ntmps240
 go_wp2
 all_goals
  go_ret
  refine⟨bg ?_,rfl⟩
  rw[Bool.eq_iff_iff]
  simp[kC]<;>omega
theorem empty_any (a b:Option Addr) (n m c d:Nat) (w:World):Calls Tryz.prog 200 #[.agg #[.slice a n c, .slice b m d]] w fun e w'=>e= .returned (.bool (decide (n=0∧m=0)))∧aj au w w':=by
 go_enter Tryz.func200,Tryz.ntmps200
 go_wp2
 all_goals
  go_ret
  refine⟨bg ?_,aj.alloc _ _ _⟩
  rw[Bool.eq_iff_iff]
  simp<;>omega
def lJ (d n e m:Int):Bool:=decide (d<e∨d=e∧n<m)
theorem uF (d n e m:Int) (w:World):Calls Tryz.prog 109 #[.agg #[.int .i64 d, .int .i64 n], .agg #[.int .i64 e, .int .i64 m]] w fun x w'=>x= .returned (.bool (lJ d n e m))∧aj au w w':=by
 by_cases h:d=e
 ·subst h
  go_enter Tryz.func109,Tryz.ntmps109
  go_wp2
  go_ret
  refine⟨bg ?_,(aj.alloc _ _ _).trans (aj.alloc _ _ _) (fun _ _ h=>h)⟩
  rw[Bool.eq_iff_iff]
  simp[lJ]
 ·have h1:((d:Int)==e)=false:=by simpa using h
  go_enter Tryz.func109,Tryz.ntmps109
  go_wp2
  go_ret
  refine⟨bg ?_,(aj.alloc _ _ _).trans (aj.alloc _ _ _) (fun _ _ h=>h)⟩
  rw[Bool.eq_iff_iff]
  simp[lJ]<;>omega
theorem Ko (a:Int) (w:World):Calls Tryz.prog 266 #[.int .i64 a] w fun e w'=>e= .returned (.bool false)∧w'=w:=by
 go_enter Tryz.func266,Tryz.ntmps266
 go_wp2
 go_ret
 exact⟨rfl,rfl⟩
theorem Kq (a:Int) (w:World):Calls Tryz.prog 293 #[.int .i64 a] w fun e w'=>e= .returned (.bool false)∧w'=w:=by
 go_enter Tryz.func293,Tryz.ntmps293
 go_wp2
 go_ret
 exact⟨rfl,rfl⟩
def iV (a b:Int):Int:=if a<b then-1 else if b<a then 1 else 0
theorem uG (a b:Int) (w:World):Calls Tryz.prog 234 #[.int .i64 a, .int .i64 b] w fun e w'=>e= .returned (.int .i64 (iV a b))∧w'=w:=by
 go_enter Tryz.func234,Tryz.ntmps234
 go_wp2_with(go_at_call 266;refine(Ko _ _).mono ?_;rintro e w' ⟨rfl,rfl⟩)
 all_goals
  go_ret
  refine⟨rH ?_,rfl⟩
  unfold iV
  split
  ·omega
  ·first|omega|(split<;>omega)
theorem Kr (a b:Int) (w:World):Calls Tryz.prog 270 #[.int .i64 a, .int .i64 b] w fun e w'=>e= .returned (.int .i64 (iV a b))∧w'=w:=by
 go_enter Tryz.func270,Tryz.ntmps270
 go_wp2_with(go_at_call 293;refine(Kq _ _).mono ?_;rintro e w' ⟨rfl,rfl⟩)
 all_goals
  go_ret
  refine⟨rH ?_,rfl⟩
  unfold iV
  split
  ·omega
  ·first|omega|(split<;>omega)
open Go.RowKit
def ny (x y:Int):Int:=if x=0 then y else x
theorem zX (b c:Nat) (x y:Int) (w:World) (hx:w.cell? ⟨b,0,none⟩=some (.int .i64 x)) (hy:w.cell? ⟨b,1,none⟩=some (.int .i64 y)):
 Calls Tryz.prog 269 #[.slice (some ⟨b,0,none⟩) 2 c] w fun e w'=>e= .returned (.int .i64 (ny x y))∧w'=w:=by
 by_cases h0:x=0
 ·subst h0
  by_cases h1:y=0
  ·subst h1
   go_enter Tryz.func269,Tryz.ntmps269
   go_wp2
   go_loop [8] (fun i=>∃k:Nat,k≤2∧i= .int .i64 k) (fun i=>2-(intOf i).toNat)
   case atStart=>exact⟨0,by omega,rfl⟩
   case round=>
    obtain⟨k,hk,rfl⟩:=hrel
    rcases(by omega:k=0∨k=1∨k=2)with rfl|rfl|rfl
    ·go_wp2
     go_round
     case rel=>exact⟨1,by omega,rfl⟩
     case measure=>simp[intOf]
    ·go_wp2
     go_round
     case rel=>exact⟨2,by omega,rfl⟩
     case measure=>simp[intOf]
    ·go_wp2
     go_ret
     exact⟨rfl,rfl⟩
  ·have h2:((y:Int)==0)=false:=by simpa using h1
   go_enter Tryz.func269,Tryz.ntmps269
   go_wp2
   go_loop [8] (fun i=>∃k:Nat,k≤1∧i= .int .i64 k) (fun i=>2-(intOf i).toNat)
   case atStart=>exact⟨0,by omega,rfl⟩
   case round=>
    obtain⟨k,hk,rfl⟩:=hrel
    rcases(by omega:k=0∨k=1)with rfl|rfl
    ·go_wp2
     go_round
     case rel=>exact⟨1,by omega,rfl⟩
     case measure=>simp[intOf]
    ·go_wp2
     go_ret
     exact⟨rfl,rfl⟩
 ·have h2:((x:Int)==0)=false:=by simpa using h0
  go_enter Tryz.func269,Tryz.ntmps269
  go_wp2
  go_loop [8] (fun i=>i= .int .i64 0) (fun i=>2-(intOf i).toNat)
  case atStart=>rfl
  case round=>
   obtain rfl:=hrel
   go_wp2
   go_ret
   exact⟨rH (by simp[ny,h0]),rfl⟩
def lK (d n e m:Int):Int:=ny (iV d e) (iV n m)
theorem EC (d n e m:Int):decide (lK d n e m<0)=lJ d n e m:=by
 rw[Bool.eq_iff_iff]
 simp only[lK,lJ,decide_eq_true_eq]
 unfold ny iV
 by_cases h1:d<e
 ·simp[h1]
 ·by_cases h2:e<d
  ·simp[h1,h2];omega
  ·have:d=e:=by omega
   subst this
   by_cases h3:n<m
   ·simp[h3]
   ·by_cases h4:m<n<;>simp[h3,h4]<;>omega
theorem lX (d n e m:Int) (w:World):Calls Tryz.prog 241 #[.agg #[.int .i64 d, .int .i64 n], .agg #[.int .i64 e, .int .i64 m]] w fun x w'=>x= .returned (.int .i64 (lK d n e m))∧aj au w w':=by
 go_enter Tryz.func241,Tryz.ntmps241
 go_wp2_with fail
 go_region_held3 (fun w'=>w'.cell? ⟨w.heap.size,0,none⟩=some (.int .i64 d)∧w'.cell? ⟨w.heap.size,1,none⟩=some (.int .i64 n)∧w'.cell? ⟨w.heap.size+1,0,none⟩=some (.int .i64 e)∧w'.cell? ⟨w.heap.size+1,1,none⟩=some (.int .i64 m))
  (go_keep)
  (first
    |(go_at_call 270;refine(Kr _ _ _).mono ?_;rintro e w' ⟨rfl,rfl⟩)
    |(go_at_call 234;refine(uG _ _ _).mono ?_;rintro e w' ⟨rfl,rfl⟩)
    |(go_at_call 269;refine(zX _ _ (iV d e) (iV n m) _ (by go_simp) (by go_simp)).mono ?_;rintro e w' ⟨rfl,rfl⟩))
 all_goals
  go_wp2
  go_ret
  exact⟨rfl,by repeat(first|exact aj.refl _ _|refine aj.alloc1 ?_|refine aj.nZ ?_)⟩
open Go.RowKit
def bP (l:aQ):List Value:=l.flatMap fun r=> [.int .i64 r.1, .int .i64 r.2]
def jJ (l:List Int):List Value:=l.map fun n=> .int .i64 n
def bT (c:aU):List Value:=c.flatMap fun s=> [.int .i64 s.1, .int .i64 s.2.1, .int .i64 s.2.2]
theorem kD (a b:aQ):bP (a++b)=bP a++bP b:=by simp[bP]
theorem xH (a b:List Int):jJ (a++b)=jJ a++jJ b:=by simp[jJ]
theorem rV (a b:aU):bT (a++b)=bT a++bT b:=by simp[bT]
theorem nC:∀l:aQ,(bP l).length=l.length*2
 |[]=>rfl
 |r::l=>by
  have e:bP (r::l)=[.int .i64 r.1, .int .i64 r.2]++bP l:=rfl
  rw[e,List.length_append,nC l];simp;omega
theorem xI:∀c:aU,(bT c).length=c.length*3
 |[]=>rfl
 |s::c=>by
  have e:bT (s::c)=[.int .i64 s.1, .int .i64 s.2.1, .int .i64 s.2.2]++bT c:=rfl
  rw[e,List.length_append,xI c];simp;omega
@[simp] theorem RU (l:List Int):(jJ l).length=l.length:=by simp[jJ]
theorem zY (l:aQ):∀v∈bP l,v.oneCell'=true:=by
 intro v hv
 simp only[bP,List.mem_flatMap]at hv
 obtain⟨r,_,hv⟩:=hv
 simp at hv
 rcases hv with rfl|rfl<;>rfl
theorem zZ (c:aU):∀v∈bT c,v.oneCell'=true:=by
 intro v hv
 simp only[bT,List.mem_flatMap]at hv
 obtain⟨r,_,hv⟩:=hv
 simp at hv
 rcases hv with rfl|rfl|rfl<;>rfl
theorem Kt (l:List Int):∀v∈jJ l,v.oneCell'=true:=by
 intro v hv
 simp only[jJ,List.mem_map]at hv
 obtain⟨r,_,rfl⟩:=hv
 rfl
theorem xJ:∀(l:aQ) (k:Nat),k<l.length→(bP l)[k*2]?=some (.int .i64 (l.getD k (0,0)).1)∧(bP l)[k*2+1]?=some (.int .i64 (l.getD k (0,0)).2)
 |[],_,h=>by cases h
 |r::l,0,_=>⟨rfl,rfl⟩
 |r::l,k+1,h=>by
  obtain⟨h1,h2⟩:=xJ l k (by simpa using h)
  have e:bP (r::l)= .int .i64 r.1:: .int .i64 r.2::bP l:=rfl
  rw[e,show(k+1)*2=k*2+1+1 by omega,show k*2+1+1+1=(k*2+1)+1+1 by omega]
  exact⟨h1,h2⟩
theorem ED:∀(c:aU) (k:Nat),k<c.length→(bT c)[k*3]?=some (.int .i64 (c.getD k (0,0,0)).1)∧(bT c)[k*3+1]?=some (.int .i64 (c.getD k (0,0,0)).2.1)∧(bT c)[k*3+2]?=some (.int .i64 (c.getD k (0,0,0)).2.2)
 |[],_,h=>by cases h
 |r::l,0,_=>⟨rfl,rfl,rfl⟩
 |r::l,k+1,h=>by
  obtain⟨h1,h2,h3⟩:=ED l k (by simpa using h)
  have e:bT (r::l)= .int .i64 r.1:: .int .i64 r.2.1:: .int .i64 r.2.2::bT l:=rfl
  rw[e,show(k+1)*3=k*3+1+1+1 by omega,show k*3+1+1+1+1=(k*3+1)+1+1+1 by omega,show k*3+1+1+1+2=(k*3+2)+1+1+1 by omega]
  exact⟨h1,h2,h3⟩
def f_ (w:World) (v:Value) (l:aQ):Prop:=Rd w v l.length (bP l)
def dL (w:World) (v:Value) (c:aU):Prop:=Rd w v c.length (bT c)
def xK (w:World) (v:Value) (l:List Int):Prop:=Rd w v l.length (jJ l)
theorem Rd.aP {w w':World} {v:Value} {n:Nat} {xs:List Value} (h:Rd w v n xs) (f:aj au w w'):Rd w' v n xs:=h.keep f fun _ _ h=>h
theorem Rd.shape {w:World} {v:Value} {n:Nat} {xs:List Value} (h:Rd w v n xs):(∃ad,v= .slice ad 0 0∧n=0)∨∃b off c,v= .slice (some ⟨b,off,none⟩) n c∧(n:Int)≤9223372036854775807:=by
 rcases h with⟨ad,h1,h2,_⟩|⟨b,off,c,h1,h2,h3,_⟩
 ·exact .inl ⟨ad,h1,h2⟩
 ·exact .inr ⟨b,off,c,h1,by simp only[maxLen]at h3;omega⟩
theorem Rd.sl {w:World} {v:Value} {n:Nat} {xs:List Value} (h:Rd w v n xs):∃a c,v= .slice a n c:=by
 rcases h with⟨ad,h1,h2,_⟩|⟨b,off,c,h1,_⟩
 ·exact⟨ad,0,by rw[h1,h2]⟩
 ·exact⟨_,c,h1⟩
theorem Rd.cell {w:World} {b off c n:Nat} {xs:List Value} (h:Rd w (.slice (some ⟨b,off,none⟩) n c) n xs) (j:Nat) (u:Value) (hu:xs[j]?=some u):w.cell? ⟨b,off+j,none⟩=some u:=by
 rcases h with⟨ad,h1,h2,h3⟩|⟨b',off',c',h1,_,_,h4⟩
 ·subst h3;simp at hu
 ·injection h1 with e1 e2 e3
  injection e1 with e1
  injection e1 with e4 e5
  subst e4 e5
  exact h4 j u hu
theorem kN {w:World} {b off c n:Nat} {l:aQ} (h:f_ w (.slice (some ⟨b,off,none⟩) n c) l) (hn:n=l.length) (k:Nat) (hk:k<l.length):
 w.cell? ⟨b,off+k*2,none⟩=some (.int .i64 (l.getD k (0,0)).1)∧w.cell? ⟨b,off+k*2+1,none⟩=some (.int .i64 (l.getD k (0,0)).2):=by
 subst hn
 exact⟨h.cell _ _ (xJ l k hk).1,h.cell (k*2+1) _ (xJ l k hk).2⟩
theorem pF {w:World} {b off c n:Nat} {l:aU} (h:dL w (.slice (some ⟨b,off,none⟩) n c) l) (hn:n=l.length) (k:Nat) (hk:k<l.length):
 w.cell? ⟨b,off+k*3,none⟩=some (.int .i64 (l.getD k (0,0,0)).1)∧w.cell? ⟨b,off+k*3+1,none⟩=some (.int .i64 (l.getD k (0,0,0)).2.1)∧w.cell? ⟨b,off+k*3+2,none⟩=some (.int .i64 (l.getD k (0,0,0)).2.2):=by
 subst hn
 obtain⟨h1,h2,h3⟩:=ED l k hk
 exact⟨h.cell _ _ h1,h.cell (k*3+1) _ h2,h.cell (k*3+2) _ h3⟩
theorem EF {w:World} {b off c n:Nat} {l:List Int} (h:xK w (.slice (some ⟨b,off,none⟩) n c) l) (hn:n=l.length) (k:Nat) (hk:k<l.length):w.cell? ⟨b,off+k,none⟩=some (.int .i64 (l.getD k 0)):=by
 subst hn
 exact h.cell _ _ (by simp[jJ,List.getD,hk])
theorem getD_at {α:Type} {l:List α} {k:Nat} (d:α) (h:k<l.length):l.getD k d=l[k]:=by simp[List.getD,h]
theorem getD_mem {α:Type} {l:List α} {k:Nat} (d:α) (h:k<l.length):l.getD k d∈l:=by rw[getD_at d h];exact List.getElem_mem h
theorem take_succ {α:Type} {l:List α} {k:Nat} (d:α) (h:k<l.length):l.take (k+1)=l.take k++ [l.getD k d]:=by rw[List.take_succ_eq_append_getElem h,getD_at d h]
theorem EG:∀ {a b:aQ} {lo:Int},dI lo (a++b)→dI lo a
 |[],_,_,_=>trivial
 |_::_,_,_,h=>⟨h.1,h.2.1,EG h.2.2⟩
theorem bG.take {l:aQ} (h:bG l) (k:Nat):bG (l.take k):=by
 refine⟨EG (b:=l.drop k) (by rw[List.take_append_drop];exact h.1),fun r hr=>h.2 r (List.mem_of_mem_take hr)⟩
theorem z_ {l:aQ} {k:Nat} (h:bG (l.take k)) (hk:k<l.length):
 bG (l.take (k+1))↔1≤(l.getD k (0,0)).1∧(l.getD k (0,0)).2≤1099511627776∧(l.getD k (0,0)).1≤(l.getD k (0,0)).2∧(0<k→(l.getD (k-1) (0,0)).2+2≤(l.getD k (0,0)).1):=by
 rw[take_succ (0,0) hk]
 generalize l.getD k (0,0)=r
 unfold bG
 rw[rO]
 constructor
 ·rintro⟨⟨_,h2,h3,h4⟩,h5⟩
  refine⟨h2,h5 r (by simp),h3,fun h0=>h4 _ ?_⟩
  obtain⟨j,rfl⟩:∃j,k=j+1:=⟨k-1,by omega⟩
  rw[take_succ (0,0) (by omega)]
  simp
 ·rintro⟨h1,h2,h3,h4⟩
  refine⟨⟨h.1,h1,h3,fun x hx=>?_⟩,fun x hx=>?_⟩
  ·rcases Nat.eq_zero_or_pos k with rfl|h0
   ·simp at hx
   ·have h5:=h4 h0
    obtain⟨j,rfl⟩:∃j,k=j+1:=⟨k-1,by omega⟩
    have h6:=h.1
    rw[take_succ (0,0) (by omega)]at hx h6
    obtain⟨_,_,h8,h9⟩:=rO.1 h6
    rw[show j+1-1=j by omega]at h5
    rcases List.mem_append.1 hx with hx|hx
    ·have:=h9 x hx;omega
    ·simp only[List.mem_singleton]at hx;subst hx;exact h5
  ·rcases List.mem_append.1 hx with hx|hx
   ·exact h.2 x hx
   ·simp only[List.mem_singleton]at hx;subst hx;exact h2
theorem EH {l:aQ} {k:Nat} (h:bG (l.take k)) (hk:k<l.length)
 (hn:¬(1≤(l.getD k (0,0)).1∧(l.getD k (0,0)).2≤1099511627776∧(l.getD k (0,0)).1≤(l.getD k (0,0)).2∧(0<k→(l.getD (k-1) (0,0)).2+2≤(l.getD k (0,0)).1))):¬bG l:=
 fun hl=>hn ((z_ h hk).1 (hl.take (k+1)))
def Fits (l:aQ):Prop:=∀r∈l,-9223372036854775808≤r.1∧r.1≤9223372036854775807∧-9223372036854775808≤r.2∧r.2≤9223372036854775807
theorem bG.fits {l:aQ} (h:bG l):Fits l:=fun r hr=>by
 have:=iI h.1 r hr
 have:=h.2 r hr
 omega
open Go.RowKit
theorem Aa (w:World) (v:Value) (l:aQ) (hv:f_ w v l) (hf:Fits l):
 Calls Tryz.prog 190 #[v] w fun e w'=>e= .returned (.bool (tf (bG l)))∧aj au w w':=by
 rcases Rd.shape hv with⟨ad,rfl,h0⟩|⟨b,off,c,rfl,hmax⟩
 ·obtain rfl:l=[]:=List.eq_nil_of_length_eq_zero h0
  rw[bM pq]
  clear hv hf
  go_enter Tryz.func190,Tryz.ntmps190
  go_wp2
  go_loop [6] (fun i=>i= .int .i64 0) (fun _=>0)
  case atStart=>rfl
  case round=>
   obtain rfl:=hrel
   go_wp2
   go_ret
   exact⟨rfl,aj.refl _ _⟩
 ·have HH:=ah hv;clear hv
  have HF:=ah hf;clear hf
  generalize hn:l.length=n at*
  have HN:=ah hn;clear hn
  go_enter Tryz.func190,Tryz.ntmps190
  go_wp2
  go_loopw [6] (fun i ww=>∃k:Nat,k≤n∧i= .int .i64 k∧bG (l.take k)∧∃q,ww=w.drewN q) (fun i _=>n-(intOf i).toNat)
  case atStart=>exact⟨0,Nat.zero_le _,rfl,pq,0,rfl⟩
  case round=>
   obtain⟨k,hk,rfl,hr,q,rfl⟩:=hrel
   have HR:=ah hr;clear hr
   by_cases hlt:k<n
   ·obtain⟨q1,q2⟩:=kN HH.out HN.out.symm k (by rw[HN.out];exact hlt)
    have hfit:=HF.out _ (getD_mem (0,0) (show k<l.length by rw[HN.out];exact hlt))
    have HS:=ah (z_ HR.out (show k<l.length by rw[HN.out];exact hlt))
    have HX:=ah (EH HR.out (show k<l.length by rw[HN.out];exact hlt))
    generalize l.getD k (0,0)=r at*
    by_cases c1:r.1<1
    ·go_wp2_with fail
     go_big_quiet (fail)
     go_wp2
     go_ret
     exact⟨bg (bn (HX.out (by omega))).symm,(aj.drewN _ _ _).eF⟩
    ·have d1:decide (r.1<1)=false:=by simpa using c1
     by_cases c2:1099511627776<r.2
     ·go_wp2_with fail
      go_big_quiet (fail)
      go_wp2
      go_ret
      exact⟨bg (bn (HX.out (by omega))).symm,(aj.drewN _ _ _).eF⟩
     ·have d2:decide (1099511627776<r.2)=false:=by simpa using c2
      by_cases c3:r.2<r.1
      ·go_wp2_with fail
       go_big_quiet (fail)
       go_wp2
       go_ret
       exact⟨bg (bn (HX.out (by omega))).symm,(aj.drewN _ _ _).eF⟩
      ·have d3:decide (r.2<r.1)=false:=by simpa using c3
       rcases Nat.eq_zero_or_pos k with rfl|hk0
       ·simp only[Nat.zero_mul,Nat.add_zero]at q1 q2
        go_wp2_with fail
        go_big_quiet (fail)
        go_wp2
        go_roundw
        case rel=>exact⟨0+1,by omega,by go_num,HS.out.2 ⟨by omega,by omega,by omega,by omega⟩,q+nq,by first|rfl|rw[World.drewN_drewN]⟩
        case measure=>simp[intOf];omega
       ·obtain⟨j,rfl⟩:∃j,k=j+1:=⟨k-1,by omega⟩
        obtain⟨-,p2⟩:=kN HH.out HN.out.symm j (by rw[HN.out];omega)
        have Ku:=HF.out _ (getD_mem (0,0) (show j<l.length by rw[HN.out];omega))
        rw[show j+1-1=j by omega]at HS HX
        have Kv:1≤(l.getD j (0,0)).2∧(l.getD j (0,0)).2≤1099511627776:=by
         have hm:=getD_mem (0,0) (show j<(l.take (j+1)).length by rw[List.length_take,HN.out];omega)
         have he:(l.take (j+1)).getD j (0,0)=l.getD j (0,0):=by simp[List.getD]
         rw[he]at hm
         have:=iI HR.out.1 _ hm
         have:=HR.out.2 _ hm
         omega
        generalize l.getD j (0,0)=p at*
        have hd:wrap64 (j:Int)=j:=by unfold wrap64;omega
        by_cases c4:r.1-p.2<2
        ·go_wp2_with fail
         go_big_quiet (fail)
         go_wp2
         go_ret
         exact⟨bg (bn (HX.out (by omega))).symm,(aj.drewN _ _ _).eF⟩
        ·go_wp2_with fail
         go_big_quiet (fail)
         go_wp2
         go_roundw
         case rel=>exact⟨j+1+1,by omega,by go_num,HS.out.2 ⟨by omega,by omega,by omega,by omega⟩,q+nq,by first|rfl|rw[World.drewN_drewN]⟩
         case measure=>simp[intOf];omega
   ·obtain rfl:k=n:=by omega
    have hall:bG l:=by
     have:=HR.out
     rwa [List.take_of_length_le (by rw[HN.out];exact Nat.le_refl _)]at this
    have HA:=ah hall;clear hall
    go_wp2
    go_ret
    exact⟨bg (bM HA.out).symm,aj.drewN _ _ _⟩
open Go.RowKit
theorem xM (w:World) (v:Value) (l:aQ) (hv:f_ w v l) (hf:Fits l):
 Calls Tryz.prog 251 #[v] w fun e w'=>e= .returned (.bool (tf (bG l)))∧aj au w w':=by
 rcases Rd.shape hv with⟨ad,rfl,h0⟩|⟨b,off,c,rfl,hmax⟩
 ·obtain rfl:l=[]:=List.eq_nil_of_length_eq_zero h0
  rw[bM pq]
  clear hv hf
  go_enter Tryz.func251,Tryz.ntmps251
  go_wp2
  go_loop [7] (fun i=>i= .int .i64 0) (fun _=>0)
  case atStart=>rfl
  case round=>
   obtain rfl:=hrel
   go_wp2
   go_ret
   exact⟨rfl,aj.refl _ _⟩
 ·have HH:=ah hv;clear hv
  have HF:=ah hf;clear hf
  generalize hn:l.length=n at*
  have HN:=ah hn;clear hn
  go_enter Tryz.func251,Tryz.ntmps251
  go_wp2
  go_loopw [7] (fun i ww=>∃k:Nat,k≤n∧i= .int .i64 k∧bG (l.take k)∧aj au w ww) (fun i _=>n-(intOf i).toNat)
  case atStart=>exact⟨0,Nat.zero_le _,rfl,pq,aj.refl _ _⟩
  case round=>
   obtain⟨k,hk,rfl,hr,hw⟩:=hrel
   have HR:=ah hr;clear hr
   have HW:=ah hw;clear hw
   by_cases hlt:k<n
   ·obtain⟨q1,q2⟩:=kN (HH.out.aP HW.out) HN.out.symm k (by rw[HN.out];exact hlt)
    have hbl:=World.block_lt_of_cell? _ _ q1
    have hbl:b<wr.heap.size:=hbl
    have hfit:=HF.out _ (getD_mem (0,0) (show k<l.length by rw[HN.out];exact hlt))
    have HS:=ah (z_ HR.out (show k<l.length by rw[HN.out];exact hlt))
    have HX:=ah (EH HR.out (show k<l.length by rw[HN.out];exact hlt))
    generalize l.getD k (0,0)=r at*
    cases n1:ni r.1 with
    |false=>
     go_wp2_with fail
     go_big_quiet ((go_at_call 267;exact Calls.quiet_of_same (qB _ _)))
     go_wp2
     go_ret
     exact⟨bg (bn (HX.out (by unfold ni at n1;simp at n1;omega))).symm,HW.out.alloc1.eF⟩
    |true=>
     cases n2:ni r.2 with
     |false=>
      go_wp2_with fail
      go_big_quiet ((go_at_call 267;exact Calls.quiet_of_same (qB _ _)))
      go_wp2
      go_ret
      exact⟨bg (bn (HX.out (by unfold ni at n1 n2;simp at n1 n2;omega))).symm,HW.out.alloc1.eF⟩
     |true=>
      by_cases c3:r.2<r.1
      ·go_wp2_with fail
       go_big_quiet ((go_at_call 267;exact Calls.quiet_of_same (qB _ _)))
       go_wp2
       go_ret
       exact⟨bg (bn (HX.out (by omega))).symm,HW.out.alloc1.eF⟩
      ·have d3:decide (r.2<r.1)=false:=by simpa using c3
       rcases Nat.eq_zero_or_pos k with rfl|hk0
       ·simp only[Nat.zero_mul,Nat.add_zero]at q1 q2
        go_wp2_with fail
        go_big_quiet ((go_at_call 267;exact Calls.quiet_of_same (qB _ _)))
        go_wp2
        go_roundw
        case rel=>exact⟨0+1,by omega,by go_num,HS.out.2 (by unfold ni at n1 n2;simp at n1 n2;omega),HW.out.alloc1.eF⟩
        case measure=>simp[intOf];omega
       ·obtain⟨j,rfl⟩:∃j,k=j+1:=⟨k-1,by omega⟩
        obtain⟨-,p2⟩:=kN (HH.out.aP HW.out) HN.out.symm j (by rw[HN.out];omega)
        have Ku:=HF.out _ (getD_mem (0,0) (show j<l.length by rw[HN.out];omega))
        rw[show j+1-1=j by omega]at HS HX
        have Kv:1≤(l.getD j (0,0)).2∧(l.getD j (0,0)).2≤1099511627776:=by
         have hm:=getD_mem (0,0) (show j<(l.take (j+1)).length by rw[List.length_take,HN.out];omega)
         have he:(l.take (j+1)).getD j (0,0)=l.getD j (0,0):=by simp[List.getD]
         rw[he]at hm
         have:=iI HR.out.1 _ hm
         have:=HR.out.2 _ hm
         omega
        generalize l.getD j (0,0)=p at*
        have hd:wrap64 (j:Int)=j:=by unfold wrap64;omega
        by_cases c4:r.1≤p.2+1
        ·go_wp2_with fail
         go_big_quiet ((go_at_call 267;exact Calls.quiet_of_same (qB _ _)))
         go_wp2
         go_ret
         exact⟨bg (bn (HX.out (by omega))).symm,HW.out.alloc1.eF⟩
        ·go_wp2_with fail
         go_big_quiet ((go_at_call 267;exact Calls.quiet_of_same (qB _ _)))
         go_wp2
         go_roundw
         case rel=>exact⟨j+1+1,by omega,by go_num,HS.out.2 (by unfold ni at n1 n2;simp at n1 n2;omega),HW.out.alloc1.eF⟩
         case measure=>simp[intOf];omega
   ·obtain rfl:k=n:=by omega
    have hall:bG l:=by
     have:=HR.out
     rwa [List.take_of_length_le (by rw[HN.out];exact Nat.le_refl _)]at this
    have HA:=ah hall;clear hall
    go_wp2
    go_ret
    exact⟨bg (bM HA.out).symm,HW.out⟩
end Go.Proofs.YtabkpccdnkjoiaaGreat
