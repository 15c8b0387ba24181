/- Words for the law MsgDecodes: MsgAwake, MsgEq, Same3, HeldNone. -/
import Derived.Test.YtabkpccdnkjoiaaGreatMsgDecodesG0
import Derived.Test.YtabkpccdnkjoiaaGreatMsgDecodesG9
import Derived.Test.YtabkpccdnkjoiaaGreatMsgDecodesG17
import Derived.Test.YtabkpccdnkjoiaaGreatMsgDecodesG19
import Derived.Test.YtabkpccdnkjoiaaGreatMsgDecodesG21
import Derived.Test.YtabkpccdnkjoiaaGreatMsgDecodesG35
set_option linter.unusedSimpArgs false
set_option linter.unusedVariables false
set_option maxHeartbeats 32000000
set_option maxRecDepth 1000000
namespace Go.Proofs.YtabkpccdnkjoiaaGreat
open Go.RowKit
def aey (w:World) (m:bW) (e:Ending) (w':World):Prop:=∃(ps:List aZ) (lv ev kv cv:Value),e= .returned (.tuple #[m.ag lv ev kv cv, .int .i64 0])∧mZ (fun _=>True) w' m ps lv ev kv cv∧aj ay w w'
theorem aez (l:List UInt8) (v:Value) (w:World) (h:Rd w v l.length (bV l)) (hfit:aT.gX l=0→zC (aT.jI l)):Calls Tryz.prog 13 #[v] w (vK l w):=by
 by_cases h0:aT.gX l=0
 ·exact XA l v w h h0 (hfit h0)
 ·exact aew l v w h h0
theorem aeA (m:bW) (hr:m.right) (hok:kZ m) (hl:m.enc.length≤60000) (l:List UInt8) (hm:l=aT.iK m.enc) (v:Value) (w:World) (h:Rd w v l.length (bV l)):Calls Tryz.prog 13 #[v] w (aey w m):=by
 subst hm
 obtain⟨h1,h2⟩:=aT.acd hl
 refine(XA _ v w h h1 (by rw[h2];exact .inr ⟨m,rfl,hr,hok,hl⟩)).mono fun e w' hp=>?_
 obtain⟨k,m',ps,lv,ev,kv,cv,hd,he,hat,-,hf⟩:=hp
 obtain⟨rfl,rfl⟩:=hd.b_ (JD h1 (by rw[h2];exact qH.make hr))
 exact⟨ps,lv,ev,kv,cv,he,hat,hf⟩
def mA:bW:=⟨3,1,2,3,0,0,0,[],[], .nil,[]⟩
theorem XB:mA.right:=⟨fun d _ _=>by show 0≤bP 3 0 0 0 d∧bP 3 0 0 0 d≤1099511627776;unfold bP;split<;>(try split)<;>(try split)<;>omega,⟨by decide,by decide⟩,⟨by decide,by decide⟩,by decide, .inr (.inr ⟨.inl rfl,⟨rfl,rfl,rfl⟩,rfl⟩)⟩
theorem GR {v:Int} (h:zz v<128):(bG v).length=1:=by unfold bG;rw[qB h];rfl
theorem Kt:mA.enc.length=8:=by
 unfold bW.enc bW.tail jH mA
 simp only[List.length_append,List.flatMap_nil,List.length_nil]
 rw[if_neg (by decide),GR (v:=3) (by decide),GR (v:=1) (by decide),GR (v:=2) (by decide),GR (v:=0) (by decide),show((0:Nat):Int)=0 from rfl,GR (v:=0) (by decide)]
 rfl
theorem XC:kZ mA:=⟨fun b hb=>(by cases hb),by decide,yg.st⟩
theorem aeB (w:World):Calls Tryz.prog 17 #[.agg #[.int .i64 3, .int .i64 1, .int .i64 2, .int .i64 3, .int .i64 0, .int .i64 0, .int .i64 0, .slice none 0 0, .slice none 0 0, .slice none 0 0, .slice none 0 0]] w fun e w'=>∃a c,e= .returned (.tuple #[.slice a 16 c, .int .i64 0])∧Rd w' (.slice a 16 c) 16 (bV (aT.iK mA.enc))∧aj ay w w':=
 (Xu (fun _=>True) mA [] w (.slice none 0 0) (.slice none 0 0) (.slice none 0 0) (.slice none 0 0) ⟨⟨.inl ⟨none,rfl,rfl,rfl⟩,fun p hp=>(by cases hp)⟩,rfl,zH _ _⟩ XC XB (by rw[Kt];decide)).mono fun e w' h=>by
   obtain⟨a,c,t,ht,he,hc⟩:=h
   have h16:t.length=16:=by rw[ht,aT.JC,Kt]
   have hrd:=hc.rd
   rw[h16]at he hrd
   exact⟨a,c,he,ht▸hrd,hc.aH⟩
theorem aeC (w:World) (v:Value) (h:Rd w v 16 (bV (aT.iK mA.enc))):Calls Tryz.prog 13 #[v] w fun e w'=>∃a0 n0 c0 a1 n1 c1 a2 n2 c2 a3 n3 c3,e= .returned (.tuple #[.agg #[.int .i64 3, .int .i64 1, .int .i64 2, .int .i64 3, .int .i64 0, .int .i64 0, .int .i64 0, .slice a0 n0 c0, .slice a1 n1 c1, .slice a2 n2 c2, .slice a3 n3 c3], .int .i64 0])∧aj ay w w':=
 (aeA mA XB XC (by rw[Kt];decide) _ rfl v w (by rw[aT.JC,Kt];exact h)).mono fun e w' h=>by
   obtain⟨ps,lv,ev,kv,cv,he,hat,hf⟩:=h
   obtain⟨a1,c1,a2,c2,a3,c3,rfl,rfl,rfl⟩:=hat.eX.shape
   obtain⟨a0,c0,rfl⟩:=hat.bs.rd.sl
   exact⟨a0,_,c0,a1,_,c1,a2,_,c2,a3,_,c3,he,hf⟩
theorem aeD (w:World):Calls Tryz.prog 12 #[] w fun e w'=>e= .returned (.bool true)∧aj ay w w':=by
 have zy:=abJ 3 0 0 0
 have bD:=ah (aj.alloc ay w (.cells #[.int .i64 3, .int .i64 1, .int .i64 2, .int .i64 3, .int .i64 0, .int .i64 0, .int .i64 0, .slice none 0 0, .slice none 0 0, .slice none 0 0, .slice none 0 0] 36))
 have bF:=ah (fun W f=>yc w (.int .i64 3) (.int .i64 1) (.int .i64 2) (.int .i64 3) (.int .i64 0) (.int .i64 0) (.int .i64 0) (.slice none 0 0) (.slice none 0 0) (.slice none 0 0) (.slice none 0 0) 36 W f)
 go_enter Tryz.func12,Tryz.ntmps12
 go_wp2_with(first
  |(go_at_call 17;refine(aeB _).mono ?_;rintro e w1 ⟨a1,c1,rfl,hr1,hf1⟩;have HR1:=ah hr1;have bg:=ah hf1;clear hr1 hf1)
  |(go_at_call 13;refine(aeC _ _ HR1.out).mono ?_;rintro e w2 ⟨b0,n0,d0,b1,n1,d1,b2,n2,d2,b3,n3,d3,rfl,hf2⟩;obtain⟨-,-,-,x3,x4,x5,x6,-,-,-,-⟩:=bF.out w2 (bg.out.aC hf2);have hlb:=World.block_lt_of_cell? _ _ x3;have HF2:=ah (bg.out.aC hf2);clear hf2))
 go_ret
 exact⟨rfl,(bD.out.aC HF2.out).aC (aj.alloc _ _ _)⟩
open Go.RowKit
def Eb (f:aZ→aZ→Bool) (ps qs:List aZ):Bool:=(List.range ps.length).all fun j=>f (ps.getD j aZ.zero) (qs.getD j aZ.zero)
theorem PU {f:aZ→aZ→Bool} {ps qs:List aZ}:Eb f ps qs=true↔∀j,j<ps.length→f (ps.getD j aZ.zero) (qs.getD j aZ.zero)=true:=by
 unfold Eb
 simp only[List.all_eq_true,List.mem_range]
theorem aeE {f:aZ→aZ→Bool} {ps qs:List aZ} {j:Nat} (hj:j<ps.length) (h:f (ps.getD j aZ.zero) (qs.getD j aZ.zero)=false):Eb f ps qs=false:=by
 rw[Bool.eq_false_iff]
 intro ht
 rw[PU.1 ht j hj]at h
 cases h
theorem map_eq_iff {ps qs:List aZ} (hl:ps.length=qs.length):ps.map (·.b)=qs.map (·.b)↔∀j,j<ps.length→(ps.getD j aZ.zero).b=(qs.getD j aZ.zero).b:=by
 constructor
 ·intro h j hj
  have h1:=congrArg (fun l=>l[j]?) h
  simp only[List.getElem?_map]at h1
  rw[List.getElem?_eq_getElem hj,List.getElem?_eq_getElem (hl▸hj)]at h1
  simp only[Option.map_some,Option.some.injEq]at h1
  rw[List.getD_eq_getElem?_getD,List.getD_eq_getElem?_getD,List.getElem?_eq_getElem hj,List.getElem?_eq_getElem (hl▸hj)]
  exact h1
 ·intro h
  refine List.ext_getElem (by simpa using hl) fun j h1 h2=>?_
  have h1':j<ps.length:=by simpa using h1
  have:=h j h1'
  rw[List.getD_eq_getElem?_getD,List.getD_eq_getElem?_getD,List.getElem?_eq_getElem h1',List.getElem?_eq_getElem (hl▸h1')]at this
  simpa using this
abbrev aZ.PV (p q:aZ):Prop:=Jy p.b.dc p.b.af p.b.la p.b.v0 p.b.v1 p.b.v2 p.b.v3 q.b.dc q.b.af q.b.la q.b.v0 q.b.v1 q.b.v2 q.b.v3 p.b.es p.b.ks p.b.c q.b.es q.b.ks q.b.c
theorem aeF {p q:aZ}:p.PV q↔p.b=q.b:=by
 obtain⟨⟨_,_,_,_,_,_,_,_,_,_⟩,_,_,_⟩:=p
 obtain⟨⟨_,_,_,_,_,_,_,_,_,_⟩,_,_,_⟩:=q
 unfold aZ.PV Jy
 dsimp only
 simp only[dL.mk.injEq]
 constructor
 ·rintro⟨h1,h2,h3,⟨h4,h5,h6,h7⟩,⟨h8,h9⟩,h10⟩;exact⟨h1,h2,h3,h4,h5,h6,h7,h8,h9,h10⟩
 ·rintro⟨h1,h2,h3,h4,h5,h6,h7,h8,h9,h10⟩;exact⟨h1,h2,h3,⟨h4,h5,h6,h7⟩,⟨h8,h9⟩,h10⟩
noncomputable def wW (p q:aZ):Bool:=tf (p.PV q)
theorem XD {ps qs:List aZ} (hl:ps.length=qs.length):Eb wW ps qs=true↔ps.map (·.b)=qs.map (·.b):=by
 rw[PU,map_eq_iff hl]
 exact forall_congr' fun j=>imp_congr_right fun _=>yG.trans aeF
open Go.RowKit
theorem aeG (Q Q':Nat→Prop) (es:List aQ) (ks:aS) (c:aX) (es':List aQ) (ks':aS) (c':aX) (w:World) (dc af la v0 v1 v2 v3 dc' wL la' v0' v1' v2' kG:Int) (ev kv cv ev' kv' cv':Value) (h:gK Q w ev kv cv es ks c) (hok:jd es ks c) (h':gK Q' w ev' kv' cv' es' ks' c') (hok':jd es' ks' c'):
 Calls Tryz.prog 69 #[.agg #[.int .i64 dc, .int .i64 af, .int .i64 la, .int .i64 v0, .int .i64 v1, .int .i64 v2, .int .i64 v3,ev,kv,cv], .agg #[.int .i64 dc', .int .i64 wL, .int .i64 la', .int .i64 v0', .int .i64 v1', .int .i64 v2', .int .i64 kG,ev',kv',cv']] w fun e w'=>e= .returned (.bool (tf (Jy dc af la v0 v1 v2 v3 dc' wL la' v0' v1' v2' kG es ks c es' ks' c')))∧aj ay w w':=by
 have HC:=ah (fun W (f:aj ay w W)=>Ot Q Q' es ks c es' ks' c' W _ _ _ _ _ _ (h.aJ f) hok (h'.aJ f) hok')
 obtain⟨a0,c0,a1,c1,a2,c2,rfl,rfl,rfl⟩:=h.shape
 obtain⟨b0,d0,b1,d1,b2,d2,rfl,rfl,rfl⟩:=h'.shape
 clear h hok h' hok'
 by_cases e0:dc=dc'
 rotate_left 1
 ·rw[bf fun h=>e0 h.1]
  have ge:((dc:Int)==dc')=false:=by simpa using e0
  clear e0 HC
  generalize es.length=n at*
  generalize ks.len=m at*
  generalize c.length=k at*
  generalize es'.length=n' at*
  generalize ks'.len=m' at*
  generalize c'.length=k' at*
  have dI:=ah ((aj.alloc ay w (.cells #[.int .i64 dc, .int .i64 af, .int .i64 la, .int .i64 v0, .int .i64 v1, .int .i64 v2, .int .i64 v3, .slice a0 n c0, .slice a1 m c1, .slice a2 k c2] 55)).alloc1 (o:= .cells #[.int .i64 dc', .int .i64 wL, .int .i64 la', .int .i64 v0', .int .i64 v1', .int .i64 v2', .int .i64 kG, .slice b0 n' d0, .slice b1 m' d1, .slice b2 k' d2] 55))
  have bF:=ah (FH w (.int .i64 dc) (.int .i64 af) (.int .i64 la) (.int .i64 v0) (.int .i64 v1) (.int .i64 v2) (.int .i64 v3) (.slice a0 n c0) (.slice a1 m c1) (.slice a2 k c2) (.int .i64 dc') (.int .i64 wL) (.int .i64 la') (.int .i64 v0') (.int .i64 v1') (.int .i64 v2') (.int .i64 kG) (.slice b0 n' d0) (.slice b1 m' d1) (.slice b2 k' d2) 55)
  obtain⟨⟨y0,y1,y2,y3,y4,y5,y6,y7,y8,y9⟩,z0,z1,z2,z3,z4,z5,z6,z7,z8,z9⟩:=bF.out _ (aj.refl _ _)
  go_enter Tryz.func69,Tryz.ntmps69
  go_wp2
  go_ret
  exact⟨rfl,dI.out⟩
 subst e0
 by_cases e1:af=wL
 rotate_left 1
 ·rw[bf fun h=>e1 h.2.1]
  have ge:((af:Int)==wL)=false:=by simpa using e1
  clear e1 HC
  generalize es.length=n at*
  generalize ks.len=m at*
  generalize c.length=k at*
  generalize es'.length=n' at*
  generalize ks'.len=m' at*
  generalize c'.length=k' at*
  have dI:=ah ((aj.alloc ay w (.cells #[.int .i64 dc, .int .i64 af, .int .i64 la, .int .i64 v0, .int .i64 v1, .int .i64 v2, .int .i64 v3, .slice a0 n c0, .slice a1 m c1, .slice a2 k c2] 55)).alloc1 (o:= .cells #[.int .i64 dc, .int .i64 wL, .int .i64 la', .int .i64 v0', .int .i64 v1', .int .i64 v2', .int .i64 kG, .slice b0 n' d0, .slice b1 m' d1, .slice b2 k' d2] 55))
  have bF:=ah (FH w (.int .i64 dc) (.int .i64 af) (.int .i64 la) (.int .i64 v0) (.int .i64 v1) (.int .i64 v2) (.int .i64 v3) (.slice a0 n c0) (.slice a1 m c1) (.slice a2 k c2) (.int .i64 dc) (.int .i64 wL) (.int .i64 la') (.int .i64 v0') (.int .i64 v1') (.int .i64 v2') (.int .i64 kG) (.slice b0 n' d0) (.slice b1 m' d1) (.slice b2 k' d2) 55)
  obtain⟨⟨y0,y1,y2,y3,y4,y5,y6,y7,y8,y9⟩,z0,z1,z2,z3,z4,z5,z6,z7,z8,z9⟩:=bF.out _ (aj.refl _ _)
  go_enter Tryz.func69,Tryz.ntmps69
  go_wp2
  go_ret
  exact⟨rfl,dI.out⟩
 subst e1
 by_cases e2:la=la'
 rotate_left 1
 ·rw[bf fun h=>e2 h.2.2.1]
  have ge:((la:Int)==la')=false:=by simpa using e2
  clear e2 HC
  generalize es.length=n at*
  generalize ks.len=m at*
  generalize c.length=k at*
  generalize es'.length=n' at*
  generalize ks'.len=m' at*
  generalize c'.length=k' at*
  have dI:=ah ((aj.alloc ay w (.cells #[.int .i64 dc, .int .i64 af, .int .i64 la, .int .i64 v0, .int .i64 v1, .int .i64 v2, .int .i64 v3, .slice a0 n c0, .slice a1 m c1, .slice a2 k c2] 55)).alloc1 (o:= .cells #[.int .i64 dc, .int .i64 af, .int .i64 la', .int .i64 v0', .int .i64 v1', .int .i64 v2', .int .i64 kG, .slice b0 n' d0, .slice b1 m' d1, .slice b2 k' d2] 55))
  have bF:=ah (FH w (.int .i64 dc) (.int .i64 af) (.int .i64 la) (.int .i64 v0) (.int .i64 v1) (.int .i64 v2) (.int .i64 v3) (.slice a0 n c0) (.slice a1 m c1) (.slice a2 k c2) (.int .i64 dc) (.int .i64 af) (.int .i64 la') (.int .i64 v0') (.int .i64 v1') (.int .i64 v2') (.int .i64 kG) (.slice b0 n' d0) (.slice b1 m' d1) (.slice b2 k' d2) 55)
  obtain⟨⟨y0,y1,y2,y3,y4,y5,y6,y7,y8,y9⟩,z0,z1,z2,z3,z4,z5,z6,z7,z8,z9⟩:=bF.out _ (aj.refl _ _)
  go_enter Tryz.func69,Tryz.ntmps69
  go_wp2
  go_ret
  exact⟨rfl,dI.out⟩
 subst e2
 by_cases e3:v0=v0'∧v1=v1'∧v2=v2'∧v3=kG
 rotate_left 1
 ·rw[bf fun h=>e3 h.2.2.2.1]
  have aeH:=abL e3
  clear e3 HC
  generalize es.length=n at*
  generalize ks.len=m at*
  generalize c.length=k at*
  generalize es'.length=n' at*
  generalize ks'.len=m' at*
  generalize c'.length=k' at*
  have dI:=ah ((aj.alloc ay w (.cells #[.int .i64 dc, .int .i64 af, .int .i64 la, .int .i64 v0, .int .i64 v1, .int .i64 v2, .int .i64 v3, .slice a0 n c0, .slice a1 m c1, .slice a2 k c2] 55)).alloc1 (o:= .cells #[.int .i64 dc, .int .i64 af, .int .i64 la, .int .i64 v0', .int .i64 v1', .int .i64 v2', .int .i64 kG, .slice b0 n' d0, .slice b1 m' d1, .slice b2 k' d2] 55))
  have bF:=ah (FH w (.int .i64 dc) (.int .i64 af) (.int .i64 la) (.int .i64 v0) (.int .i64 v1) (.int .i64 v2) (.int .i64 v3) (.slice a0 n c0) (.slice a1 m c1) (.slice a2 k c2) (.int .i64 dc) (.int .i64 af) (.int .i64 la) (.int .i64 v0') (.int .i64 v1') (.int .i64 v2') (.int .i64 kG) (.slice b0 n' d0) (.slice b1 m' d1) (.slice b2 k' d2) 55)
  obtain⟨⟨y0,y1,y2,y3,y4,y5,y6,y7,y8,y9⟩,z0,z1,z2,z3,z4,z5,z6,z7,z8,z9⟩:=bF.out _ (aj.refl _ _)
  go_enter Tryz.func69,Tryz.ntmps69
  go_wp2
  go_ret
  exact⟨rfl,dI.out⟩
 have aeH:=abK e3
 have hall:tf (Jy dc af la v0 v1 v2 v3 dc af la v0' v1' v2' kG es ks c es' ks' c')=tf ((es=es'∧ks=ks')∧c=c'):=qN ⟨fun h=>h.2.2.2.2,fun h=>⟨rfl,rfl,rfl,e3,h⟩⟩
 rw[hall]
 clear hall e3
 generalize tf ((es=es'∧ks=ks')∧c=c')=y at*
 generalize es.length=n at*
 generalize ks.len=m at*
 generalize c.length=k at*
 generalize es'.length=n' at*
 generalize ks'.len=m' at*
 generalize c'.length=k' at*
 have dI:=ah ((aj.alloc ay w (.cells #[.int .i64 dc, .int .i64 af, .int .i64 la, .int .i64 v0, .int .i64 v1, .int .i64 v2, .int .i64 v3, .slice a0 n c0, .slice a1 m c1, .slice a2 k c2] 55)).alloc1 (o:= .cells #[.int .i64 dc, .int .i64 af, .int .i64 la, .int .i64 v0', .int .i64 v1', .int .i64 v2', .int .i64 kG, .slice b0 n' d0, .slice b1 m' d1, .slice b2 k' d2] 55))
 have bF:=ah (FH w (.int .i64 dc) (.int .i64 af) (.int .i64 la) (.int .i64 v0) (.int .i64 v1) (.int .i64 v2) (.int .i64 v3) (.slice a0 n c0) (.slice a1 m c1) (.slice a2 k c2) (.int .i64 dc) (.int .i64 af) (.int .i64 la) (.int .i64 v0') (.int .i64 v1') (.int .i64 v2') (.int .i64 kG) (.slice b0 n' d0) (.slice b1 m' d1) (.slice b2 k' d2) 55)
 obtain⟨⟨y0,y1,y2,y3,y4,y5,y6,y7,y8,y9⟩,z0,z1,z2,z3,z4,z5,z6,z7,z8,z9⟩:=bF.out _ (aj.refl _ _)
 go_enter Tryz.func69,Tryz.ntmps69
 go_wp2_with(go_at_call 40;refine(HC.out _ dI.out).mono ?_;rintro e w3 ⟨rfl,hw3⟩;have HW3:=ah (dI.out.aC hw3);clear hw3)
 go_ret
 exact⟨rfl,HW3.out⟩
open Go.RowKit
end Go.Proofs.YtabkpccdnkjoiaaGreat
