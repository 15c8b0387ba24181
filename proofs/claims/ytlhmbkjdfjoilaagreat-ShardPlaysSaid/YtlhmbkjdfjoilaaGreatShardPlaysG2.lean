/- Words for the law ShardPlays: Ctx, BSmall, Reg, BDot, RunAt, R6, SpRight. -/
import Derived.Test.YtlhmbkjdfjoilaaGreatShardPlaysG0
import Derived.Test.YtlhmbkjdfjoilaaGreatShardPlaysG1
import Derived.Test.YtlhmbkjdfjoilaaGreatChecked
import Derived.Deep.RegionHeld
import Derived.Deep.RegionHeld3
import Derived.Deep.DeepCutAuto
import Derived.Deep.RegionWith
set_option linter.unusedSimpArgs false
set_option linter.unusedVariables false
set_option maxHeartbeats 32000000
set_option maxRecDepth 1000000
namespace Go.Proofs.YtlhmbkjdfjoilaaGreat
noncomputable def tf (p:Prop):Bool:=@decide p (Classical.propDecidable p)
theorem gu {p:Prop} (h:p):tf p=true:=by unfold tf;exact @decide_eq_true p (Classical.propDecidable p) h
theorem eH {p:Prop} (h:¬p):tf p=false:=by unfold tf;exact @decide_eq_false p (Classical.propDecidable p) h
theorem xC {p:Prop}:tf p=true↔p:=⟨fun h=>Classical.byContradiction fun hn=>(by rw[eH hn]at h;cases h),gu⟩
theorem xE {p:Prop}:tf p=false↔¬p:=⟨fun h hp=>(by rw[gu hp]at h;cases h),eH⟩
theorem Dv {p q:Prop} (h:p↔q):tf p=tf q:=by rw[propext h]
theorem Dw {b:Bool} {p:Prop} (h:b=true↔p):b=tf p:=by
 cases b with
 |true=>exact(gu (h.1 rfl)).symm
 |false=>exact(eH fun hp=>by cases h.2 hp).symm
def dO (l:aZ):Prop:=iR 1 l∧∀r∈l,r.2≤1099511627776
theorem mQ:∀ {l:aZ} {lo:Int},iR lo l→∀r∈l,lo≤r.1∧r.1≤r.2
 |[],_,_,r,hr=>by cases hr
 |y::l,lo,h,r,hr=>by
  rcases List.mem_cons.1 hr with rfl|hr
  ·exact⟨h.1,h.2.1⟩
  ·have:=mQ h.2.2 r hr
   have:=h.1
   have:=h.2.1
   omega
theorem dO.Nj {l:aZ} (h:dO l) {n:Int} (hn:bK l n):1≤n∧n≤1099511627776:=by
 obtain⟨r,hr,h1,h2⟩:=hn
 have:=mQ h.1 r hr
 have:=h.2 r hr
 omega
theorem dO.of {l:aZ} (h:iR 1 l) (hn:∀n,bK l n→n≤1099511627776):dO l:=
 ⟨h,fun r hr=>hn r.2 ⟨r,hr,(mQ h r hr).2,Int.le_refl _⟩⟩
theorem Dx:dO []:=⟨trivial,fun r hr=>by cases hr⟩
theorem aaF {l l':aZ} (h:dO l) (h':dO l') (he:∀n,bK l n↔bK l' n):l=l':=TW h.1 h'.1 he
theorem dO.Nk {l:aZ} (h:dO l):l=[]↔∀n,¬bK l n:=by
 constructor
 ·rintro rfl n;exact nM n
 ·intro hn
  cases l with
  |nil=>rfl
  |cons r l=>exact absurd ⟨r,List.mem_cons_self,Int.le_refl _,h.1.2.1⟩ (hn r.1)
abbrev bD:=List (Int×Int×Int)
def dA (c:bD) (d:Int):aZ:=(c.filter fun s=>s.1==d).map (·.2)
def kS (c:bD) (d n:Int):Prop:=bK (dA c d) n
def jq:Int→bD→Prop
 |_,[]=>True
 |lo,s::c=>lo≤s.1∧s.1<4∧jq s.1 c
def eP (c:bD):Prop:=jq 0 c∧∀d,0≤d→d<4→dO (dA c d)
def iK (d:Int) (l:aZ):bD:=l.map fun r=>(d,r.1,r.2)
def nN (p:Int→aZ):bD:=iK 0 (p 0)++(iK 1 (p 1)++(iK 2 (p 2)++iK 3 (p 3)))
theorem FQ (a b:bD) (d:Int):dA (a++b) d=dA a d++dA b d:=by simp[dA]
theorem Ue (s:Int×Int×Int) (c:bD):dA (s::c) s.1=s.2::dA c s.1:=by simp[dA]
theorem Nl (s:Int×Int×Int) (c:bD) {d:Int} (h:s.1≠d):dA (s::c) d=dA c d:=by simp[dA,h]
theorem FT (d:Int) (l:aZ):dA (iK d l) d=l:=by
 unfold dA iK
 rw[List.filter_eq_self.2 (by intro s hs;simp at hs;obtain⟨a,b,_,rfl⟩:=hs;simp),List.map_map]
 exact List.map_id l
theorem tX {d d':Int} (l:aZ) (h:d≠d'):dA (iK d l) d'=[]:=by
 unfold dA iK
 rw[List.filter_eq_nil_iff.2 (by intro s hs;simp at hs;obtain⟨a,b,_,rfl⟩:=hs;simpa using h)]
 rfl
theorem four {d:Int} (h0:0≤d) (h4:d<4):d=0∨d=1∨d=2∨d=3:=by omega
theorem Np (p:Int→aZ) {d:Int} (h0:0≤d) (h4:d<4):dA (nN p) d=p d:=by
 unfold nN
 rw[FQ,FQ,FQ]
 rcases four h0 h4 with rfl|rfl|rfl|rfl
 ·rw[FT,tX (d:=1) _ (by decide),tX (d:=2) _ (by decide),tX (d:=3) _ (by decide)];simp
 ·rw[FT,tX (d:=0) _ (by decide),tX (d:=2) _ (by decide),tX (d:=3) _ (by decide)];simp
 ·rw[FT,tX (d:=0) _ (by decide),tX (d:=1) _ (by decide),tX (d:=3) _ (by decide)];simp
 ·rw[FT,tX (d:=0) _ (by decide),tX (d:=1) _ (by decide),tX (d:=2) _ (by decide)];simp
theorem jq.mono {lo lo':Int} {c:bD} (h:jq lo c) (hl:lo'≤lo):jq lo' c:=by
 cases c with
 |nil=>trivial
 |cons s c=>exact⟨Int.le_trans hl h.1,h.2⟩
theorem Dy {d lo:Int} (h:lo≤d) (h4:d<4):∀(l:aZ) {c:bD},jq d c→jq lo (iK d l++c)
 |[],_,hc=>hc.mono h
 |_::l,_,hc=>⟨h,h4,Dy (Int.le_refl _) h4 l hc⟩
theorem aaG (p:Int→aZ):jq 0 (nN p):=by
 have h3:jq 3 (iK 3 (p 3)):=by
  have:=Dy (lo:=3) (d:=3) (by decide) (by decide) (p 3) (c:=[]) trivial
  rwa [List.append_nil]at this
 exact Dy (d:=0) (by decide) (by decide) _ ((Dy (d:=1) (lo:=1) (by decide) (by decide) _ ((Dy (d:=2) (lo:=2) (by decide) (by decide) _ (h3.mono (by decide))).mono (by decide))).mono (by decide))
theorem Uf {p:Int→aZ} (h:∀d,0≤d→d<4→dO (p d)):eP (nN p):=
 ⟨aaG p,fun d h0 h4=>by rw[Np p h0 h4];exact h d h0 h4⟩
theorem tY:∀ {c:bD} {lo d:Int},jq lo c→d<lo→dA c d=[]
 |[],_,_,_,_=>rfl
 |s::c,lo,d,h,hd=>by
  have:=h.1
  rw[Nl s c (by omega),tY h.2.2 (by omega)]
theorem Bz:∀ {c:bD} {lo:Int},0≤lo→jq lo c→nN (dA c)=c
 |[],_,_,_=>rfl
 |s::c,lo,hl,h=>by
  have h1:=h.1
  have h2:=h.2.1
  have ih:=Bz (by omega) h.2.2
  obtain⟨k,r⟩:=s
  simp only at h1 h2
  have hk:=four (d:=k) (by omega) h2
  have hd:=h.2.2
  simp only at hd ih
  have e:∀d,k≠d→dA ((k,r)::c) d=dA c d:=fun d hd=>Nl _ _ hd
  have e0:dA ((k,r)::c) k=r::dA c k:=Ue (k,r) c
  unfold nN at ih⊢
  rcases hk with rfl|rfl|rfl|rfl
  ·rw[e0,e 1 (by decide),e 2 (by decide),e 3 (by decide)]
   show(0,r)::(iK 0 (dA c 0)++_)=_
   rw[ih]
  ·rw[e0,e 0 (by decide),e 2 (by decide),e 3 (by decide),tY hd (by decide)]
   rw[tY hd (by decide)]at ih
   show(1,r)::(iK 0 []++(iK 1 (dA c 1)++_))=_
   rw[ih]
  ·rw[e0,e 0 (by decide),e 1 (by decide),e 3 (by decide),tY (d:=0) hd (by decide),tY (d:=1) hd (by decide)]
   rw[tY (d:=0) hd (by decide),tY (d:=1) hd (by decide)]at ih
   show(2,r)::(iK 0 []++(iK 1 []++(iK 2 (dA c 2)++_)))=_
   rw[ih]
  ·rw[e0,e 0 (by decide),e 1 (by decide),e 2 (by decide),tY (d:=0) hd (by decide),tY (d:=1) hd (by decide),tY (d:=2) hd (by decide)]
   rw[tY (d:=0) hd (by decide),tY (d:=1) hd (by decide),tY (d:=2) hd (by decide)]at ih
   show(3,r)::(iK 0 []++(iK 1 []++(iK 2 []++iK 3 (dA c 3))))=_
   rw[ih]
theorem aaH {a b:bD} (ha:eP a) (hb:eP b) (h:∀d n,0≤d→d<4→(kS a d n↔kS b d n)):a=b:=by
 have hp:∀d,0≤d→d<4→dA a d=dA b d:=fun d h0 h4=>aaF (ha.2 d h0 h4) (hb.2 d h0 h4) fun n=>h d n h0 h4
 rw[←Bz (Int.le_refl 0) ha.1,←Bz (Int.le_refl 0) hb.1]
 unfold nN
 rw[hp 0 (by decide) (by decide),hp 1 (by decide) (by decide),hp 2 (by decide) (by decide),hp 3 (by decide) (by decide)]
theorem aaI {d:Int} {l:aZ}:iK d l=[]↔l=[]:=by simp[iK]
theorem aaJ {p:Int→aZ}:nN p=[]↔∀d,0≤d→d<4→p d=[]:=by
 unfold nN
 simp only[List.append_eq_nil_iff,aaI]
 constructor
 ·rintro⟨h0,h1,h2,h3⟩ d hd hd4
  rcases four hd hd4 with rfl|rfl|rfl|rfl<;>assumption
 ·exact fun h=>⟨h 0 (by decide) (by decide),h 1 (by decide) (by decide),h 2 (by decide) (by decide),h 3 (by decide) (by decide)⟩
def zO (a b:bD):Prop:=∀d n,0≤d→d<4→kS a d n→kS b d n
structure kZ (how:Int) (a b c:bD):Prop where
 right:eP c
 mem:∀d n,0≤d→d<4→(kS c d n↔fV how (kS a d n) (kS b d n))
theorem kZ.one {how:Int} {a b c c':bD} (h:kZ how a b c) (h':kZ how a b c'):c=c':=
 aaH h.right h'.right fun d n h0 h4=>(h.mem d n h0 h4).trans (h'.mem d n h0 h4).symm
theorem kZ.whole {how:Int} {a b:bD} {p:Int→aZ} (hp:∀d,0≤d→d<4→dO (p d)) (hm:∀d n,0≤d→d<4→(bK (p d) n↔fV how (kS a d n) (kS b d n))):kZ how a b (nN p):=
 ⟨Uf hp,fun d n h0 h4=>by unfold kS;rw[Np p h0 h4];exact hm d n h0 h4⟩
theorem eP.Nk {c:bD} (h:eP c):c=[]↔∀d n,0≤d→d<4→¬kS c d n:=by
 constructor
 ·rintro rfl d n _ _ hn
  exact nM n hn
 ·intro hn
  rw[←Bz (Int.le_refl 0) h.1,aaJ]
  exact fun d h0 h4=>(h.2 d h0 h4).Nk.2 fun n=>hn d n h0 h4
theorem kZ.Ug {a b c:bD} (h:kZ 2 a b c):c=[]↔zO a b:=by
 rw[h.right.Nk]
 constructor
 ·intro hn d n h0 h4 hi
  exact Classical.byContradiction fun hb=>hn d n h0 h4 ((h.mem d n h0 h4).2 (by unfold fV;rw[if_pos rfl];exact⟨hi,hb⟩))
 ·intro hl d n h0 h4 hi
  have:=(h.mem d n h0 h4).1 hi
  unfold fV at this
  rw[if_pos rfl]at this
  exact this.2 (hl d n h0 h4 this.1)
theorem aaK:eP []:=⟨trivial,fun _ _ _=>Dx⟩
structure tZ (l:List (Int×Int)) (c:bD):Prop where
 right:eP c
 mem:∀d n,0≤d→d<4→(kS c d n↔(d,n)∈l)
open Go.RowKit
abbrev aF:Nat→Prop:=fun _=>False
def xF (n:Int):Bool:=decide (1≤n∧n≤1099511627776)
def qC (d n:Int):Bool:=decide (0≤d∧d<4∧1≤n∧n≤1099511627776)
theorem BA (n:Int) (w:World):Calls Tryz.prog 165 #[.int .i64 n] w fun e w'=>e= .returned (.bool (xF n))∧w'=w:=by
 go_enter Tryz.func165,Tryz.ntmps165
 go_wp2
 all_goals
  go_ret
  refine⟨dF ?_,rfl⟩
  rw[Bool.eq_iff_iff]
  simp[xF]<;>omega
theorem Dz (d n:Int) (w:World):Calls Tryz.prog 126 #[.agg #[.int .i64 d, .int .i64 n]] w fun e w'=>e= .returned (.bool (qC d n))∧aj aF w w':=by
 go_enter Tryz.func126,Tryz.ntmps126
 go_wp2
 all_goals
  go_ret
  refine⟨dF ?_,aj.alloc _ _ _⟩
  rw[Bool.eq_iff_iff]
  simp[qC]<;>omega
theorem Nq (d n:Int) (w:World):Calls Tryz.prog 159 #[.agg #[.int .i64 d, .int .i64 n]] w fun e w'=>e= .returned (.bool (qC d n))∧aj aF w w':=by
 go_enter Tryz.func159,Tryz.ntmps159
 go_wp2
 all_goals
  go_ret
  refine⟨dF ?_,aj.alloc _ _ _⟩
  rw[Bool.eq_iff_iff]
  simp[qC]<;>omega
def oN (s:ByteArray):Bool:=decide (1≤s.size∧s.size≤30)
theorem yH (s:ByteArray) (w:World) (h:s.size≤9223372036854775807):Calls Tryz.prog 164 #[.string s] w fun e w'=>e= .returned (.bool (oN s))∧w'=w:=by
 go_enter Tryz.func164,Tryz.ntmps164
 go_wp2
 all_goals
  go_ret
  refine⟨dF ?_,rfl⟩
  rw[Bool.eq_iff_iff]
  simp[oN]<;>omega
theorem yI (s:ByteArray) (w:World) (h:s.size≤9223372036854775807):Calls Tryz.prog 121 #[.string s] w fun e w'=>e= .returned (.bool (oN s))∧w'=w:=by
 go_enter Tryz.func121,Tryz.ntmps121
 go_wp2
 all_goals
  go_ret
  refine⟨dF ?_,rfl⟩
  rw[Bool.eq_iff_iff]
  simp[oN]<;>omega
theorem empty_any (a b:Option Addr) (n m c d:Nat) (w:World):Calls Tryz.prog 113 #[.agg #[.slice a n c, .slice b m d]] w fun e w'=>e= .returned (.bool (decide (n=0∧m=0)))∧aj aF w w':=by
 go_enter Tryz.func113,Tryz.ntmps113
 go_wp2
 all_goals
  go_ret
  refine⟨dF ?_,aj.alloc _ _ _⟩
  rw[Bool.eq_iff_iff]
  simp<;>omega
def qE (d n e m:Int):Bool:=decide (d<e∨d=e∧n<m)
theorem zQ (d n e m:Int) (w:World):Calls Tryz.prog 51 #[.agg #[.int .i64 d, .int .i64 n], .agg #[.int .i64 e, .int .i64 m]] w fun x w'=>x= .returned (.bool (qE d n e m))∧aj aF w w':=by
 by_cases h:d=e
 ·subst h
  go_enter Tryz.func51,Tryz.ntmps51
  go_wp2
  go_ret
  refine⟨dF ?_,(aj.alloc _ _ _).trans (aj.alloc _ _ _) (fun _ _ h=>h)⟩
  rw[Bool.eq_iff_iff]
  simp[qE]
 ·have h1:((d:Int)==e)=false:=by simpa using h
  go_enter Tryz.func51,Tryz.ntmps51
  go_wp2
  go_ret
  refine⟨dF ?_,(aj.alloc _ _ _).trans (aj.alloc _ _ _) (fun _ _ h=>h)⟩
  rw[Bool.eq_iff_iff]
  simp[qE]<;>omega
theorem aaL (a:Int) (w:World):Calls Tryz.prog 186 #[.int .i64 a] w fun e w'=>e= .returned (.bool false)∧w'=w:=by
 go_enter Tryz.func186,Tryz.ntmps186
 go_wp2
 go_ret
 exact⟨rfl,rfl⟩
theorem aaM (a:Int) (w:World):Calls Tryz.prog 187 #[.int .i64 a] w fun e w'=>e= .returned (.bool false)∧w'=w:=by
 go_enter Tryz.func187,Tryz.ntmps187
 go_wp2
 go_ret
 exact⟨rfl,rfl⟩
def oh (a b:Int):Int:=if a<b then-1 else if b<a then 1 else 0
theorem FU (a b:Int) (w:World):Calls Tryz.prog 155 #[.int .i64 a, .int .i64 b] w fun e w'=>e= .returned (.int .i64 (oh a b))∧w'=w:=by
 go_enter Tryz.func155,Tryz.ntmps155
 go_wp2_with(go_at_call 186;refine(aaL _ _).mono ?_;rintro e w' ⟨rfl,rfl⟩)
 all_goals
  go_ret
  refine⟨Dl ?_,rfl⟩
  unfold oh
  split
  ·omega
  ·first|omega|(split<;>omega)
theorem aaN (a b:Int) (w:World):Calls Tryz.prog 172 #[.int .i64 a, .int .i64 b] w fun e w'=>e= .returned (.int .i64 (oh a b))∧w'=w:=by
 go_enter Tryz.func172,Tryz.ntmps172
 go_wp2_with(go_at_call 187;refine(aaM _ _).mono ?_;rintro e w' ⟨rfl,rfl⟩)
 all_goals
  go_ret
  refine⟨Dl ?_,rfl⟩
  unfold oh
  split
  ·omega
  ·first|omega|(split<;>omega)
open Go.RowKit
def xG (x y:Int):Int:=if x=0 then y else x
theorem Nr (b c:Nat) (x y:Int) (w:World) (hx:w.cell? ⟨b,0,none⟩=some (.int .i64 x)) (hy:w.cell? ⟨b,1,none⟩=some (.int .i64 y)):
 Calls Tryz.prog 171 #[.slice (some ⟨b,0,none⟩) 2 c] w fun e w'=>e= .returned (.int .i64 (xG x y))∧w'=w:=by
 by_cases h0:x=0
 ·subst h0
  by_cases h1:y=0
  ·subst h1
   go_enter Tryz.func171,Tryz.ntmps171
   go_wp2
   go_loop [8] (fun i=>∃k:Nat,k≤2∧i= .int .i64 k) (fun i=>2-(intOf i).toNat)
   case atStart=>exact⟨0,by omega,rfl⟩
   case round=>
    obtain⟨k,hk,rfl⟩:=hrel
    rcases(by omega:k=0∨k=1∨k=2)with rfl|rfl|rfl
    ·go_wp2
     go_round
     case rel=>exact⟨1,by omega,rfl⟩
     case measure=>simp[intOf]
    ·go_wp2
     go_round
     case rel=>exact⟨2,by omega,rfl⟩
     case measure=>simp[intOf]
    ·go_wp2
     go_ret
     exact⟨rfl,rfl⟩
  ·have h2:((y:Int)==0)=false:=by simpa using h1
   go_enter Tryz.func171,Tryz.ntmps171
   go_wp2
   go_loop [8] (fun i=>∃k:Nat,k≤1∧i= .int .i64 k) (fun i=>2-(intOf i).toNat)
   case atStart=>exact⟨0,by omega,rfl⟩
   case round=>
    obtain⟨k,hk,rfl⟩:=hrel
    rcases(by omega:k=0∨k=1)with rfl|rfl
    ·go_wp2
     go_round
     case rel=>exact⟨1,by omega,rfl⟩
     case measure=>simp[intOf]
    ·go_wp2
     go_ret
     exact⟨rfl,rfl⟩
 ·have h2:((x:Int)==0)=false:=by simpa using h0
  go_enter Tryz.func171,Tryz.ntmps171
  go_wp2
  go_loop [8] (fun i=>i= .int .i64 0) (fun i=>2-(intOf i).toNat)
  case atStart=>rfl
  case round=>
   obtain rfl:=hrel
   go_wp2
   go_ret
   exact⟨Dl (by simp[xG,h0]),rfl⟩
def uO (d n e m:Int):Int:=xG (oh d e) (oh n m)
theorem Uh (d n e m:Int):decide (uO d n e m<0)=qE d n e m:=by
 rw[Bool.eq_iff_iff]
 simp only[uO,qE,decide_eq_true_eq]
 unfold xG oh
 by_cases h1:d<e
 ·simp[h1]
 ·by_cases h2:e<d
  ·simp[h1,h2];omega
  ·have:d=e:=by omega
   subst this
   by_cases h3:n<m
   ·simp[h3]
   ·by_cases h4:m<n<;>simp[h3,h4]<;>omega
theorem vU (d n e m:Int) (w:World):Calls Tryz.prog 143 #[.agg #[.int .i64 d, .int .i64 n], .agg #[.int .i64 e, .int .i64 m]] w fun x w'=>x= .returned (.int .i64 (uO d n e m))∧aj aF w w':=by
 go_enter Tryz.func143,Tryz.ntmps143
 go_wp2_with fail
 go_region_held3 (fun w'=>w'.cell? ⟨w.heap.size,0,none⟩=some (.int .i64 d)∧w'.cell? ⟨w.heap.size,1,none⟩=some (.int .i64 n)∧w'.cell? ⟨w.heap.size+1,0,none⟩=some (.int .i64 e)∧w'.cell? ⟨w.heap.size+1,1,none⟩=some (.int .i64 m))
  (go_keep)
  (first
    |(go_at_call 172;refine(aaN _ _ _).mono ?_;rintro e w' ⟨rfl,rfl⟩)
    |(go_at_call 155;refine(FU _ _ _).mono ?_;rintro e w' ⟨rfl,rfl⟩)
    |(go_at_call 171;refine(Nr _ _ (oh d e) (oh n m) _ (by go_simp) (by go_simp)).mono ?_;rintro e w' ⟨rfl,rfl⟩))
 all_goals
  go_wp2
  go_ret
  exact⟨rfl,by repeat(first|exact aj.refl _ _|refine aj.alloc1 ?_|refine aj.zN ?_)⟩
open Go.RowKit
def fD (l:aZ):List Value:=l.flatMap fun r=> [.int .i64 r.1, .int .i64 r.2]
def qF (l:List Int):List Value:=l.map fun n=> .int .i64 n
def dY (c:bD):List Value:=c.flatMap fun s=> [.int .i64 s.1, .int .i64 s.2.1, .int .i64 s.2.2]
theorem oO (a b:aZ):fD (a++b)=fD a++fD b:=by simp[fD]
theorem FV (a b:List Int):qF (a++b)=qF a++qF b:=by simp[qF]
theorem Js (a b:bD):dY (a++b)=dY a++dY b:=by simp[dY]
theorem xH:∀l:aZ,(fD l).length=l.length*2
 |[]=>rfl
 |r::l=>by
  have e:fD (r::l)=[.int .i64 r.1, .int .i64 r.2]++fD l:=rfl
  rw[e,List.length_append,xH l];simp;omega
theorem Jt:∀c:bD,(dY c).length=c.length*3
 |[]=>rfl
 |s::c=>by
  have e:dY (s::c)=[.int .i64 s.1, .int .i64 s.2.1, .int .i64 s.2.2]++dY c:=rfl
  rw[e,List.length_append,Jt c];simp;omega
@[simp] theorem aja (l:List Int):(qF l).length=l.length:=by simp[qF]
theorem Ns (l:aZ):∀v∈fD l,v.oneCell'=true:=by
 intro v hv
 simp only[fD,List.mem_flatMap]at hv
 obtain⟨r,_,hv⟩:=hv
 simp at hv
 rcases hv with rfl|rfl<;>rfl
theorem Nu (c:bD):∀v∈dY c,v.oneCell'=true:=by
 intro v hv
 simp only[dY,List.mem_flatMap]at hv
 obtain⟨r,_,hv⟩:=hv
 simp at hv
 rcases hv with rfl|rfl|rfl<;>rfl
theorem Ui (l:List Int):∀v∈qF l,v.oneCell'=true:=by
 intro v hv
 simp only[qF,List.mem_map]at hv
 obtain⟨r,_,rfl⟩:=hv
 rfl
theorem Ju:∀(l:aZ) (k:Nat),k<l.length→(fD l)[k*2]?=some (.int .i64 (l.getD k (0,0)).1)∧(fD l)[k*2+1]?=some (.int .i64 (l.getD k (0,0)).2)
 |[],_,h=>by cases h
 |r::l,0,_=>⟨rfl,rfl⟩
 |r::l,k+1,h=>by
  obtain⟨h1,h2⟩:=Ju l k (by simpa using h)
  have e:fD (r::l)= .int .i64 r.1:: .int .i64 r.2::fD l:=rfl
  rw[e,show(k+1)*2=k*2+1+1 by omega,show k*2+1+1+1=(k*2+1)+1+1 by omega]
  exact⟨h1,h2⟩
theorem Uj:∀(c:bD) (k:Nat),k<c.length→(dY c)[k*3]?=some (.int .i64 (c.getD k (0,0,0)).1)∧(dY c)[k*3+1]?=some (.int .i64 (c.getD k (0,0,0)).2.1)∧(dY c)[k*3+2]?=some (.int .i64 (c.getD k (0,0,0)).2.2)
 |[],_,h=>by cases h
 |r::l,0,_=>⟨rfl,rfl,rfl⟩
 |r::l,k+1,h=>by
  obtain⟨h1,h2,h3⟩:=Uj l k (by simpa using h)
  have e:dY (r::l)= .int .i64 r.1:: .int .i64 r.2.1:: .int .i64 r.2.2::dY l:=rfl
  rw[e,show(k+1)*3=k*3+1+1+1 by omega,show k*3+1+1+1+1=(k*3+1)+1+1+1 by omega,show k*3+1+1+1+2=(k*3+2)+1+1+1 by omega]
  exact⟨h1,h2,h3⟩
def k_ (w:World) (v:Value) (l:aZ):Prop:=Rd w v l.length (fD l)
def je (w:World) (v:Value) (c:bD):Prop:=Rd w v c.length (dY c)
def Jv (w:World) (v:Value) (l:List Int):Prop:=Rd w v l.length (qF l)
theorem Rd.aS {w w':World} {v:Value} {n:Nat} {xs:List Value} (h:Rd w v n xs) (f:aj aF w w'):Rd w' v n xs:=h.keep f fun _ _ h=>h
theorem Rd.shape {w:World} {v:Value} {n:Nat} {xs:List Value} (h:Rd w v n xs):(∃ad,v= .slice ad 0 0∧n=0)∨∃b off c,v= .slice (some ⟨b,off,none⟩) n c∧(n:Int)≤9223372036854775807:=by
 rcases h with⟨ad,h1,h2,_⟩|⟨b,off,c,h1,h2,h3,_⟩
 ·exact .inl ⟨ad,h1,h2⟩
 ·exact .inr ⟨b,off,c,h1,by simp only[maxLen]at h3;omega⟩
theorem Rd.sl {w:World} {v:Value} {n:Nat} {xs:List Value} (h:Rd w v n xs):∃a c,v= .slice a n c:=by
 rcases h with⟨ad,h1,h2,_⟩|⟨b,off,c,h1,_⟩
 ·exact⟨ad,0,by rw[h1,h2]⟩
 ·exact⟨_,c,h1⟩
theorem Rd.cell {w:World} {b off c n:Nat} {xs:List Value} (h:Rd w (.slice (some ⟨b,off,none⟩) n c) n xs) (j:Nat) (u:Value) (hu:xs[j]?=some u):w.cell? ⟨b,off+j,none⟩=some u:=by
 rcases h with⟨ad,h1,h2,h3⟩|⟨b',off',c',h1,_,_,h4⟩
 ·subst h3;simp at hu
 ·injection h1 with e1 e2 e3
  injection e1 with e1
  injection e1 with e4 e5
  subst e4 e5
  exact h4 j u hu
theorem r_ {w:World} {b off c n:Nat} {l:aZ} (h:k_ w (.slice (some ⟨b,off,none⟩) n c) l) (hn:n=l.length) (k:Nat) (hk:k<l.length):
 w.cell? ⟨b,off+k*2,none⟩=some (.int .i64 (l.getD k (0,0)).1)∧w.cell? ⟨b,off+k*2+1,none⟩=some (.int .i64 (l.getD k (0,0)).2):=by
 subst hn
 exact⟨h.cell _ _ (Ju l k hk).1,h.cell (k*2+1) _ (Ju l k hk).2⟩
theorem zS {w:World} {b off c n:Nat} {l:bD} (h:je w (.slice (some ⟨b,off,none⟩) n c) l) (hn:n=l.length) (k:Nat) (hk:k<l.length):
 w.cell? ⟨b,off+k*3,none⟩=some (.int .i64 (l.getD k (0,0,0)).1)∧w.cell? ⟨b,off+k*3+1,none⟩=some (.int .i64 (l.getD k (0,0,0)).2.1)∧w.cell? ⟨b,off+k*3+2,none⟩=some (.int .i64 (l.getD k (0,0,0)).2.2):=by
 subst hn
 obtain⟨h1,h2,h3⟩:=Uj l k hk
 exact⟨h.cell _ _ h1,h.cell (k*3+1) _ h2,h.cell (k*3+2) _ h3⟩
theorem Uk {w:World} {b off c n:Nat} {l:List Int} (h:Jv w (.slice (some ⟨b,off,none⟩) n c) l) (hn:n=l.length) (k:Nat) (hk:k<l.length):w.cell? ⟨b,off+k,none⟩=some (.int .i64 (l.getD k 0)):=by
 subst hn
 exact h.cell _ _ (by simp[qF,List.getD,hk])
theorem getD_at {α:Type} {l:List α} {k:Nat} (d:α) (h:k<l.length):l.getD k d=l[k]:=by simp[List.getD,h]
theorem getD_mem {α:Type} {l:List α} {k:Nat} (d:α) (h:k<l.length):l.getD k d∈l:=by rw[getD_at d h];exact List.getElem_mem h
theorem take_succ {α:Type} {l:List α} {k:Nat} (d:α) (h:k<l.length):l.take (k+1)=l.take k++ [l.getD k d]:=by rw[List.take_succ_eq_append_getElem h,getD_at d h]
theorem Ul:∀ {a b:aZ} {lo:Int},iR lo (a++b)→iR lo a
 |[],_,_,_=>trivial
 |_::_,_,_,h=>⟨h.1,h.2.1,Ul h.2.2⟩
theorem dO.take {l:aZ} (h:dO l) (k:Nat):dO (l.take k):=by
 refine⟨Ul (b:=l.drop k) (by rw[List.take_append_drop];exact h.1),fun r hr=>h.2 r (List.mem_of_mem_take hr)⟩
theorem Nv {l:aZ} {k:Nat} (h:dO (l.take k)) (hk:k<l.length):
 dO (l.take (k+1))↔1≤(l.getD k (0,0)).1∧(l.getD k (0,0)).2≤1099511627776∧(l.getD k (0,0)).1≤(l.getD k (0,0)).2∧(0<k→(l.getD (k-1) (0,0)).2+2≤(l.getD k (0,0)).1):=by
 rw[take_succ (0,0) hk]
 generalize l.getD k (0,0)=r
 unfold dO
 rw[Du]
 constructor
 ·rintro⟨⟨_,h2,h3,h4⟩,h5⟩
  refine⟨h2,h5 r (by simp),h3,fun h0=>h4 _ ?_⟩
  obtain⟨j,rfl⟩:∃j,k=j+1:=⟨k-1,by omega⟩
  rw[take_succ (0,0) (by omega)]
  simp
 ·rintro⟨h1,h2,h3,h4⟩
  refine⟨⟨h.1,h1,h3,fun x hx=>?_⟩,fun x hx=>?_⟩
  ·rcases Nat.eq_zero_or_pos k with rfl|h0
   ·simp at hx
   ·have h5:=h4 h0
    obtain⟨j,rfl⟩:∃j,k=j+1:=⟨k-1,by omega⟩
    have h6:=h.1
    rw[take_succ (0,0) (by omega)]at hx h6
    obtain⟨_,_,h8,h9⟩:=Du.1 h6
    rw[show j+1-1=j by omega]at h5
    rcases List.mem_append.1 hx with hx|hx
    ·have:=h9 x hx;omega
    ·simp only[List.mem_singleton]at hx;subst hx;exact h5
  ·rcases List.mem_append.1 hx with hx|hx
   ·exact h.2 x hx
   ·simp only[List.mem_singleton]at hx;subst hx;exact h2
theorem Um {l:aZ} {k:Nat} (h:dO (l.take k)) (hk:k<l.length)
 (hn:¬(1≤(l.getD k (0,0)).1∧(l.getD k (0,0)).2≤1099511627776∧(l.getD k (0,0)).1≤(l.getD k (0,0)).2∧(0<k→(l.getD (k-1) (0,0)).2+2≤(l.getD k (0,0)).1))):¬dO l:=
 fun hl=>hn ((Nv h hk).1 (hl.take (k+1)))
def Fits (l:aZ):Prop:=∀r∈l,-9223372036854775808≤r.1∧r.1≤9223372036854775807∧-9223372036854775808≤r.2∧r.2≤9223372036854775807
theorem dO.fits {l:aZ} (h:dO l):Fits l:=fun r hr=>by
 have:=mQ h.1 r hr
 have:=h.2 r hr
 omega
open Go.RowKit
theorem Nw (w:World) (v:Value) (l:aZ) (hv:k_ w v l) (hf:Fits l):
 Calls Tryz.prog 85 #[v] w fun e w'=>e= .returned (.bool (tf (dO l)))∧aj aF w w':=by
 rcases Rd.shape hv with⟨ad,rfl,h0⟩|⟨b,off,c,rfl,hmax⟩
 ·obtain rfl:l=[]:=List.eq_nil_of_length_eq_zero h0
  rw[gu Dx]
  clear hv hf
  go_enter Tryz.func85,Tryz.ntmps85
  go_wp2
  go_loop [6] (fun i=>i= .int .i64 0) (fun _=>0)
  case atStart=>rfl
  case round=>
   obtain rfl:=hrel
   go_wp2
   go_ret
   exact⟨rfl,aj.refl _ _⟩
 ·have HH:=ah hv;clear hv
  have HF:=ah hf;clear hf
  generalize hn:l.length=n at*
  have HN:=ah hn;clear hn
  go_enter Tryz.func85,Tryz.ntmps85
  go_wp2
  go_loopw [6] (fun i ww=>∃k:Nat,k≤n∧i= .int .i64 k∧dO (l.take k)∧∃q,ww=w.drewN q) (fun i _=>n-(intOf i).toNat)
  case atStart=>exact⟨0,Nat.zero_le _,rfl,Dx,0,rfl⟩
  case round=>
   obtain⟨k,hk,rfl,hr,q,rfl⟩:=hrel
   have HR:=ah hr;clear hr
   by_cases hlt:k<n
   ·obtain⟨q1,q2⟩:=r_ HH.out HN.out.symm k (by rw[HN.out];exact hlt)
    have hfit:=HF.out _ (getD_mem (0,0) (show k<l.length by rw[HN.out];exact hlt))
    have HS:=ah (Nv HR.out (show k<l.length by rw[HN.out];exact hlt))
    have HX:=ah (Um HR.out (show k<l.length by rw[HN.out];exact hlt))
    generalize l.getD k (0,0)=r at*
    by_cases c1:r.1<1
    ·go_wp2_with fail
     go_big_quiet (fail)
     go_wp2
     go_ret
     exact⟨dF (eH (HX.out (by omega))).symm,(aj.drewN _ _ _).iy⟩
    ·have d1:decide (r.1<1)=false:=by simpa using c1
     by_cases c2:1099511627776<r.2
     ·go_wp2_with fail
      go_big_quiet (fail)
      go_wp2
      go_ret
      exact⟨dF (eH (HX.out (by omega))).symm,(aj.drewN _ _ _).iy⟩
     ·have d2:decide (1099511627776<r.2)=false:=by simpa using c2
      by_cases c3:r.2<r.1
      ·go_wp2_with fail
       go_big_quiet (fail)
       go_wp2
       go_ret
       exact⟨dF (eH (HX.out (by omega))).symm,(aj.drewN _ _ _).iy⟩
      ·have d3:decide (r.2<r.1)=false:=by simpa using c3
       rcases Nat.eq_zero_or_pos k with rfl|hk0
       ·simp only[Nat.zero_mul,Nat.add_zero]at q1 q2
        go_wp2_with fail
        go_big_quiet (fail)
        go_wp2
        go_roundw
        case rel=>exact⟨0+1,by omega,by go_num,HS.out.2 ⟨by omega,by omega,by omega,by omega⟩,q+nq,by first|rfl|rw[World.drewN_drewN]⟩
        case measure=>simp[intOf];omega
       ·obtain⟨j,rfl⟩:∃j,k=j+1:=⟨k-1,by omega⟩
        obtain⟨-,p2⟩:=r_ HH.out HN.out.symm j (by rw[HN.out];omega)
        have aaO:=HF.out _ (getD_mem (0,0) (show j<l.length by rw[HN.out];omega))
        rw[show j+1-1=j by omega]at HS HX
        have aaP:1≤(l.getD j (0,0)).2∧(l.getD j (0,0)).2≤1099511627776:=by
         have hm:=getD_mem (0,0) (show j<(l.take (j+1)).length by rw[List.length_take,HN.out];omega)
         have he:(l.take (j+1)).getD j (0,0)=l.getD j (0,0):=by simp[List.getD]
         rw[he]at hm
         have:=mQ HR.out.1 _ hm
         have:=HR.out.2 _ hm
         omega
        generalize l.getD j (0,0)=p at*
        have hd:wrap64 (j:Int)=j:=by unfold wrap64;omega
        by_cases c4:r.1-p.2<2
        ·go_wp2_with fail
         go_big_quiet (fail)
         go_wp2
         go_ret
         exact⟨dF (eH (HX.out (by omega))).symm,(aj.drewN _ _ _).iy⟩
        ·go_wp2_with fail
         go_big_quiet (fail)
         go_wp2
         go_roundw
         case rel=>exact⟨j+1+1,by omega,by go_num,HS.out.2 ⟨by omega,by omega,by omega,by omega⟩,q+nq,by first|rfl|rw[World.drewN_drewN]⟩
         case measure=>simp[intOf];omega
   ·obtain rfl:k=n:=by omega
    have hall:dO l:=by
     have:=HR.out
     rwa [List.take_of_length_le (by rw[HN.out];exact Nat.le_refl _)]at this
    have HA:=ah hall;clear hall
    go_wp2
    go_ret
    exact⟨dF (gu HA.out).symm,aj.drewN _ _ _⟩
open Go.RowKit
theorem Jw (w:World) (v:Value) (l:aZ) (hv:k_ w v l) (hf:Fits l):
 Calls Tryz.prog 167 #[v] w fun e w'=>e= .returned (.bool (tf (dO l)))∧aj aF w w':=by
 rcases Rd.shape hv with⟨ad,rfl,h0⟩|⟨b,off,c,rfl,hmax⟩
 ·obtain rfl:l=[]:=List.eq_nil_of_length_eq_zero h0
  rw[gu Dx]
  clear hv hf
  go_enter Tryz.func167,Tryz.ntmps167
  go_wp2
  go_loop [7] (fun i=>i= .int .i64 0) (fun _=>0)
  case atStart=>rfl
  case round=>
   obtain rfl:=hrel
   go_wp2
   go_ret
   exact⟨rfl,aj.refl _ _⟩
 ·have HH:=ah hv;clear hv
  have HF:=ah hf;clear hf
  generalize hn:l.length=n at*
  have HN:=ah hn;clear hn
  go_enter Tryz.func167,Tryz.ntmps167
  go_wp2
  go_loopw [7] (fun i ww=>∃k:Nat,k≤n∧i= .int .i64 k∧dO (l.take k)∧aj aF w ww) (fun i _=>n-(intOf i).toNat)
  case atStart=>exact⟨0,Nat.zero_le _,rfl,Dx,aj.refl _ _⟩
  case round=>
   obtain⟨k,hk,rfl,hr,hw⟩:=hrel
   have HR:=ah hr;clear hr
   have HW:=ah hw;clear hw
   by_cases hlt:k<n
   ·obtain⟨q1,q2⟩:=r_ (HH.out.aS HW.out) HN.out.symm k (by rw[HN.out];exact hlt)
    have hbl:=World.block_lt_of_cell? _ _ q1
    have hbl:b<wr.heap.size:=hbl
    have hfit:=HF.out _ (getD_mem (0,0) (show k<l.length by rw[HN.out];exact hlt))
    have HS:=ah (Nv HR.out (show k<l.length by rw[HN.out];exact hlt))
    have HX:=ah (Um HR.out (show k<l.length by rw[HN.out];exact hlt))
    generalize l.getD k (0,0)=r at*
    cases n1:xF r.1 with
    |false=>
     go_wp2_with fail
     go_big_quiet ((go_at_call 165;exact Calls.quiet_of_same (BA _ _)))
     go_wp2
     go_ret
     exact⟨dF (eH (HX.out (by unfold xF at n1;simp at n1;omega))).symm,HW.out.alloc1.iy⟩
    |true=>
     cases n2:xF r.2 with
     |false=>
      go_wp2_with fail
      go_big_quiet ((go_at_call 165;exact Calls.quiet_of_same (BA _ _)))
      go_wp2
      go_ret
      exact⟨dF (eH (HX.out (by unfold xF at n1 n2;simp at n1 n2;omega))).symm,HW.out.alloc1.iy⟩
     |true=>
      by_cases c3:r.2<r.1
      ·go_wp2_with fail
       go_big_quiet ((go_at_call 165;exact Calls.quiet_of_same (BA _ _)))
       go_wp2
       go_ret
       exact⟨dF (eH (HX.out (by omega))).symm,HW.out.alloc1.iy⟩
      ·have d3:decide (r.2<r.1)=false:=by simpa using c3
       rcases Nat.eq_zero_or_pos k with rfl|hk0
       ·simp only[Nat.zero_mul,Nat.add_zero]at q1 q2
        go_wp2_with fail
        go_big_quiet ((go_at_call 165;exact Calls.quiet_of_same (BA _ _)))
        go_wp2
        go_roundw
        case rel=>exact⟨0+1,by omega,by go_num,HS.out.2 (by unfold xF at n1 n2;simp at n1 n2;omega),HW.out.alloc1.iy⟩
        case measure=>simp[intOf];omega
       ·obtain⟨j,rfl⟩:∃j,k=j+1:=⟨k-1,by omega⟩
        obtain⟨-,p2⟩:=r_ (HH.out.aS HW.out) HN.out.symm j (by rw[HN.out];omega)
        have aaO:=HF.out _ (getD_mem (0,0) (show j<l.length by rw[HN.out];omega))
        rw[show j+1-1=j by omega]at HS HX
        have aaP:1≤(l.getD j (0,0)).2∧(l.getD j (0,0)).2≤1099511627776:=by
         have hm:=getD_mem (0,0) (show j<(l.take (j+1)).length by rw[List.length_take,HN.out];omega)
         have he:(l.take (j+1)).getD j (0,0)=l.getD j (0,0):=by simp[List.getD]
         rw[he]at hm
         have:=mQ HR.out.1 _ hm
         have:=HR.out.2 _ hm
         omega
        generalize l.getD j (0,0)=p at*
        have hd:wrap64 (j:Int)=j:=by unfold wrap64;omega
        by_cases c4:r.1≤p.2+1
        ·go_wp2_with fail
         go_big_quiet ((go_at_call 165;exact Calls.quiet_of_same (BA _ _)))
         go_wp2
         go_ret
         exact⟨dF (eH (HX.out (by omega))).symm,HW.out.alloc1.iy⟩
        ·go_wp2_with fail
         go_big_quiet ((go_at_call 165;exact Calls.quiet_of_same (BA _ _)))
         go_wp2
         go_roundw
         case rel=>exact⟨j+1+1,by omega,by go_num,HS.out.2 (by unfold xF at n1 n2;simp at n1 n2;omega),HW.out.alloc1.iy⟩
         case measure=>simp[intOf];omega
   ·obtain rfl:k=n:=by omega
    have hall:dO l:=by
     have:=HR.out
     rwa [List.take_of_length_le (by rw[HN.out];exact Nat.le_refl _)]at this
    have HA:=ah hall;clear hall
    go_wp2
    go_ret
    exact⟨dF (gu HA.out).symm,HW.out⟩
end Go.Proofs.YtlhmbkjdfjoilaaGreat
