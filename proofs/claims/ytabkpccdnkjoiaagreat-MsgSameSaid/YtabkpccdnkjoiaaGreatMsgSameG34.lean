/- Words for the law MsgSame: MsgAwake, MsgOpen, MsgSm, MsgEq. -/
import Derived.Test.YtabkpccdnkjoiaaGreatMsgSameG0
import Derived.Test.YtabkpccdnkjoiaaGreatMsgSameG17
import Derived.Test.YtabkpccdnkjoiaaGreatMsgSameG18
import Derived.Test.YtabkpccdnkjoiaaGreatMsgSameG19
import Derived.Test.YtabkpccdnkjoiaaGreatMsgSameG28
import Derived.Test.YtabkpccdnkjoiaaGreatMsgSameG33
set_option linter.unusedSimpArgs false
set_option linter.unusedVariables false
set_option maxHeartbeats 32000000
set_option maxRecDepth 1000000
namespace Go.Proofs.YtabkpccdnkjoiaaGreat
open Go.RowKit
def abM (w:World) (m:bF) (e:Ending) (w':World):Prop:=∃(ps:List aY) (lv ev kv cv:Value),e= .returned (.tuple #[m.ag lv ev kv cv, .int .i64 0])∧iP (fun _=>True) w' m ps lv ev kv cv∧aj ay w w'
theorem abN (m:bF) (hr:m.right) (hok:lq m) (hl:m.enc.length≤60000) (l:List UInt8) (hm:l=bC.jM m.enc) (v:Value) (w:World) (h:Rd w v l.length (bV l)):Calls Tryz.prog 13 #[v] w (abM w m):=by
 subst hm
 obtain⟨h1,h2⟩:=bC.Kw hl
 refine(abE _ v w h h1 (by rw[h2];exact .inr ⟨m,rfl,hr,hok,hl⟩)).mono fun e w' hp=>?_
 obtain⟨k,m',ps,lv,ev,kv,cv,hd,he,hat,-,hf⟩:=hp
 obtain⟨rfl,rfl⟩:=hd.bY (QJ h1 (by rw[h2];exact qj.make hr))
 exact⟨ps,lv,ev,kv,cv,he,hat,hf⟩
def mA:bF:=⟨3,1,2,3,0,0,0,[],[], .nil,[]⟩
theorem Ti:mA.right:=⟨fun d _ _=>by show 0≤bG 3 0 0 0 d∧bG 3 0 0 0 d≤1099511627776;unfold bG;split<;>(try split)<;>(try split)<;>omega,⟨by decide,by decide⟩,⟨by decide,by decide⟩,by decide, .inr (.inr ⟨.inl rfl,⟨rfl,rfl,rfl⟩,rfl⟩)⟩
theorem DV {v:Int} (h:zz v<128):(bD v).length=1:=by unfold bD;rw[qO h];rfl
theorem Gz:mA.enc.length=8:=by
 unfold bF.enc bF.tail iZ mA
 simp only[List.length_append,List.flatMap_nil,List.length_nil]
 rw[if_neg (by decide),DV (v:=3) (by decide),DV (v:=1) (by decide),DV (v:=2) (by decide),DV (v:=0) (by decide),show((0:Nat):Int)=0 from rfl,DV (v:=0) (by decide)]
 rfl
theorem Tj:lq mA:=⟨fun b hb=>(by cases hb),by decide,FU.st⟩
theorem abO (w:World):Calls Tryz.prog 17 #[.agg #[.int .i64 3, .int .i64 1, .int .i64 2, .int .i64 3, .int .i64 0, .int .i64 0, .int .i64 0, .slice none 0 0, .slice none 0 0, .slice none 0 0, .slice none 0 0]] w fun e w'=>∃a c,e= .returned (.tuple #[.slice a 16 c, .int .i64 0])∧Rd w' (.slice a 16 c) 16 (bV (bC.jM mA.enc))∧aj ay w w':=
 (Gv (fun _=>True) mA [] w (.slice none 0 0) (.slice none 0 0) (.slice none 0 0) (.slice none 0 0) ⟨⟨.inl ⟨none,rfl,rfl,rfl⟩,fun p hp=>(by cases hp)⟩,rfl,DC _ _⟩ Tj Ti (by rw[Gz];decide)).mono fun e w' h=>by
   obtain⟨a,c,t,ht,he,hc⟩:=h
   have h16:t.length=16:=by rw[ht,bC.Kv,Gz]
   have hrd:=hc.rd
   rw[h16]at he hrd
   exact⟨a,c,he,ht▸hrd,hc.aP⟩
theorem abP (w:World) (v:Value) (h:Rd w v 16 (bV (bC.jM mA.enc))):Calls Tryz.prog 13 #[v] w fun e w'=>∃a0 n0 c0 a1 n1 c1 a2 n2 c2 a3 n3 c3,e= .returned (.tuple #[.agg #[.int .i64 3, .int .i64 1, .int .i64 2, .int .i64 3, .int .i64 0, .int .i64 0, .int .i64 0, .slice a0 n0 c0, .slice a1 n1 c1, .slice a2 n2 c2, .slice a3 n3 c3], .int .i64 0])∧aj ay w w':=
 (abN mA Ti Tj (by rw[Gz];decide) _ rfl v w (by rw[bC.Kv,Gz];exact h)).mono fun e w' h=>by
   obtain⟨ps,lv,ev,kv,cv,he,hat,hf⟩:=h
   obtain⟨a1,c1,a2,c2,a3,c3,rfl,rfl,rfl⟩:=hat.dD.shape
   obtain⟨a0,c0,rfl⟩:=hat.bs.rd.sl
   exact⟨a0,_,c0,a1,_,c1,a2,_,c2,a3,_,c3,he,hf⟩
theorem Tn (w:World):Calls Tryz.prog 12 #[] w fun e w'=>e= .returned (.bool true)∧aj ay w w':=by
 have uY:=Qr 3 0 0 0
 have aU:=ah (aj.alloc ay w (.cells #[.int .i64 3, .int .i64 1, .int .i64 2, .int .i64 3, .int .i64 0, .int .i64 0, .int .i64 0, .slice none 0 0, .slice none 0 0, .slice none 0 0, .slice none 0 0] 36))
 have aQ:=ah (fun W f=>Aq w (.int .i64 3) (.int .i64 1) (.int .i64 2) (.int .i64 3) (.int .i64 0) (.int .i64 0) (.int .i64 0) (.slice none 0 0) (.slice none 0 0) (.slice none 0 0) (.slice none 0 0) 36 W f)
 go_enter Tryz.func12,Tryz.ntmps12
 go_wp2_with(first
  |(go_at_call 17;refine(abO _).mono ?_;rintro e w1 ⟨a1,c1,rfl,hr1,hf1⟩;have HR1:=ah hr1;have bH:=ah hf1;clear hr1 hf1)
  |(go_at_call 13;refine(abP _ _ HR1.out).mono ?_;rintro e w2 ⟨b0,n0,d0,b1,n1,d1,b2,n2,d2,b3,n3,d3,rfl,hf2⟩;obtain⟨-,-,-,x3,x4,x5,x6,-,-,-,-⟩:=aQ.out w2 (bH.out.au hf2);have hlb:=World.block_lt_of_cell? _ _ x3;have HF2:=ah (bH.out.au hf2);clear hf2))
 go_ret
 exact⟨rfl,(aU.out.au HF2.out).au (aj.alloc _ _ _)⟩
end Go.Proofs.YtabkpccdnkjoiaaGreat
namespace Go.Proofs.YtabkpccdnkjoiaaGreat
open Go.RowKit Go.WideShapes Go.ChangeShapes
theorem Tryz.bytes_bundle:Tryz.prog.bytesOf 55=128:=by kernel_rfl
theorem Tryz.cells_msg:Tryz.prog.cellsOf 42=11:=by kernel_rfl
instance:Inhabited aY:=⟨aY.zero⟩
theorem abQ (l:List aY) (j:Nat) (u:Value) (h:(jV l)[j]?=some u):j/10<l.length∧(l.getD (j/10) aY.zero).cells[j%10]?=some u:=DJ aY.cells 10 (by decide) (fun _=>rfl) aY.zero l j u h
structure zo (w:World) (v:Value):Prop where
 out:∃(m:bF) (ps:List aY) (lv ev kv cv:Value),v=m.ag lv ev kv cv∧iP (fun _=>True) w m ps lv ev kv cv∧Dl m
section
variable {H:Type} {enc:TypeId×Value→H} {w:World}
theorem abR {fuel:Nat} {cs:List Value} {x:DataW H×List MemPlace} (hl:cs.length=10) (h:DataW.trod enc Tryz.prog w 0 (fun _=>true) true fuel 55 cs=some x) (hw:∀n∈x.1.weights Tryz.prog 55,n≤reachBytes):
 ∃p:aY,cs=p.cells∧fH (fun _=>True) w p.ev p.kv p.cv p.b.es p.b.ks p.b.c∧Dk p.b:=by
 match cs,hl with
 |[c0,c1,c2,c3,c4,c5,c6,c7,c8,c9],_=>
 obtain⟨xs,n,hn,rfl,_,hxl,hg⟩:=DataW.trod_struct Tryz.underlying55 h
 obtain⟨y0,y1,y2,y3,y4,rfl⟩:∃y0 y1 y2 y3 y4,xs=[y0,y1,y2,y3,y4]:=by
  match xs,hxl with
  |[y0,y1,y2,y3,y4],_=>exact⟨y0,y1,y2,y3,y4,rfl⟩
 have g0:DataW.trod enc Tryz.prog w 0 (fun _=>true) true n 3 [c0]=some y0:=hg 0 _ rfl
 have g1:DataW.trod enc Tryz.prog w 0 (fun _=>true) true n 2 [c1]=some y1:=hg 1 _ rfl
 have g2:DataW.trod enc Tryz.prog w 0 (fun _=>true) true n 2 [c2]=some y2:=hg 2 _ rfl
 have g3:DataW.trod enc Tryz.prog w 0 (fun _=>true) true n 25 [c3,c4,c5,c6]=some y3:=hg 3 _ rfl
 have g4:DataW.trod enc Tryz.prog w 0 (fun _=>true) true n 34 [c7,c8,c9]=some y4:=hg 4 _ rfl
 obtain⟨dc,e0,_,_⟩:=DataW.trod_int Tryz.underlying3 g0
 obtain⟨af,e1,_,_⟩:=DataW.trod_int Tryz.underlying2 g1
 obtain⟨la,e2,_,_⟩:=DataW.trod_int Tryz.underlying2 g2
 simp at e0 e1 e2
 obtain⟨v0,v1,v2,v3,e3,e4,e5,e6,_⟩:=RI g3
 have hw2:∀m∈y0.1.weights Tryz.prog 3++(y1.1.weights Tryz.prog 2++(y2.1.weights Tryz.prog 2++(y3.1.weights Tryz.prog 25++(y4.1.weights Tryz.prog 34++ [])))),m≤reachBytes:=fun m hm=>hw m (by
  simp only[List.map_cons,List.map_nil,DataW.weights,Tryz.underlying55]
  exact hm)
 obtain⟨es,ks,c,h1,h2,h3,h4⟩:=RH g4 fun m hm=>hw2 m (List.mem_append_right _ (List.mem_append_right _ (List.mem_append_right _ (List.mem_append_right _ (List.mem_append_left _ hm)))))
 subst e0 e1 e2 e3 e4 e5 e6
 exact⟨⟨⟨dc,af,la,v0,v1,v2,v3,es,ks,c⟩,c7,c8,c9⟩,rfl,h1,h2,h3,h4⟩
theorem abS {fuel:Nat} {v:Value} {x:DataW H×List MemPlace} (h:DataW.trod enc Tryz.prog w 0 (fun _=>true) true fuel 40 [v]=some x) (hw:∀n∈x.1.weights Tryz.prog 40,n≤reachBytes):
 ∃l:List aY,tZ (fun _=>True) w v l∧(∀p∈l,Dk p.b)∧l.length≤140737488351232:=by
 obtain⟨a0,len,cap,rfl⟩:=Gn Tryz.underlying40 h
 rcases Gm Tryz.underlying40 Tryz.cells_bundle (by decide) Tryz.bytes_bundle h hw with⟨rfl,rfl⟩|⟨b,off,n,rfl,h1,h2,_,h3,hel⟩
 ·exact⟨[],⟨.inl ⟨a0,rfl,rfl,rfl⟩,fun o ho=>(by cases ho)⟩,fun o ho=>(by cases ho),Nat.zero_le _⟩
 ·have hx:∀k,k<len→∃p:aY,(∀j u,p.cells[j]?=some u→w.cell? ⟨b,off+k*10+j,none⟩=some u)∧fH (fun _=>True) w p.ev p.kv p.cv p.b.es p.b.ks p.b.c∧Dk p.b:=fun k hk=>by
   obtain⟨cs,hl,hc,y,hy,KY⟩:=hel k hk
   obtain⟨o,rfl,h1,h2⟩:=abR hl hy KY
   exact⟨o,hc,h1,h2⟩
  obtain⟨l,hl,hlp⟩:=Gj hx
  refine⟨l,⟨.inr ⟨b,off,cap,by rw[hl],by omega,h2,fun j u hu=>?_⟩,fun o ho=>?_⟩,fun o ho=>?_,by unfold reachBytes at h3;omega⟩
  ·obtain⟨g1,g2⟩:=abQ l j u hu
   have:=(hlp (j/10) (by omega) aY.zero).1 (j%10) u g2
   rwa [Gl]at this
  ·obtain⟨k,hk,rfl⟩:=List.getElem_of_mem ho
   have:=(hlp k (by omega) aY.zero).2.1
   rwa [getD_at aY.zero hk]at this
  ·obtain⟨k,hk,rfl⟩:=List.getElem_of_mem ho
   have:=(hlp k (by omega) aY.zero).2.2
   rwa [getD_at aY.zero hk]at this
theorem Tq {base:Nat} {v:Value} {d:DataW H} {ps:List MemPlace} (hv:Value.okWide Tryz.prog w .any base 42 v) (h:DataW.Trod enc Tryz.prog w 0 (fun _=>true) true 42 v d ps)
 (hw:∀n∈d.weights Tryz.prog 42,n≤reachBytes):zo w v:=by
 obtain⟨cs,rfl,hsz⟩:=okWide_struct Tryz.underlying42 hv
 rw[Tryz.cells_msg]at hsz
 obtain⟨l⟩:=cs
 match l,hsz with
 |[c0,c1,c2,c3,c4,c5,c6,c7,c8,c9,c10],_=>
 obtain⟨fuel,hf⟩:=h
 have hf:DataW.trod enc Tryz.prog w 0 (fun _=>true) true fuel 42 [c0,c1,c2,c3,c4,c5,c6,c7,c8,c9,c10]=some (d,ps):=hf
 obtain⟨xs,n,hn,hx,_,hxl,hg⟩:=DataW.trod_struct Tryz.underlying42 hf
 obtain⟨y0,y1,y2,y3,y4,y5,rfl⟩:∃y0 y1 y2 y3 y4 y5,xs=[y0,y1,y2,y3,y4,y5]:=by
  match xs,hxl with
  |[y0,y1,y2,y3,y4,y5],_=>exact⟨y0,y1,y2,y3,y4,y5,rfl⟩
 have g0:DataW.trod enc Tryz.prog w 0 (fun _=>true) true n 3 [c0]=some y0:=hg 0 _ rfl
 have g1:DataW.trod enc Tryz.prog w 0 (fun _=>true) true n 3 [c1]=some y1:=hg 1 _ rfl
 have g2:DataW.trod enc Tryz.prog w 0 (fun _=>true) true n 3 [c2]=some y2:=hg 2 _ rfl
 have g3:DataW.trod enc Tryz.prog w 0 (fun _=>true) true n 25 [c3,c4,c5,c6]=some y3:=hg 3 _ rfl
 have g4:DataW.trod enc Tryz.prog w 0 (fun _=>true) true n 40 [c7]=some y4:=hg 4 _ rfl
 have g5:DataW.trod enc Tryz.prog w 0 (fun _=>true) true n 34 [c8,c9,c10]=some y5:=hg 5 _ rfl
 obtain⟨kd,e0,_,_⟩:=DataW.trod_int Tryz.underlying3 g0
 obtain⟨fr,e1,_,_⟩:=DataW.trod_int Tryz.underlying3 g1
 obtain⟨tt,e2,_,_⟩:=DataW.trod_int Tryz.underlying3 g2
 simp at e0 e1 e2
 obtain⟨v0,v1,v2,v3,e3,e4,e5,e6,_⟩:=RI g3
 have hd:d=(DataW.agg ([y0,y1,y2,y3,y4,y5].map (·.1)):DataW H):=(Prod.mk.inj hx).1
 subst hd
 have hw2:∀m∈y0.1.weights Tryz.prog 3++(y1.1.weights Tryz.prog 3++(y2.1.weights Tryz.prog 3++(y3.1.weights Tryz.prog 25++(y4.1.weights Tryz.prog 40++(y5.1.weights Tryz.prog 34++ []))))),m≤reachBytes:=fun m hm=>hw m (by
  simp only[List.map_cons,List.map_nil,DataW.weights,Tryz.underlying42]
  exact hm)
 obtain⟨l,h1,h2,h2'⟩:=abS g4 fun m hm=>hw2 m (List.mem_append_right _ (List.mem_append_right _ (List.mem_append_right _ (List.mem_append_right _ (List.mem_append_left _ hm)))))
 obtain⟨es,ks,c,h3,h4,h5,h6⟩:=RH g5 fun m hm=>hw2 m (List.mem_append_right _ (List.mem_append_right _ (List.mem_append_right _ (List.mem_append_right _ (List.mem_append_right _ (List.mem_append_left _ hm))))))
 subst e0 e1 e2 e3 e4 e5 e6
 refine⟨⟨kd,fr,tt,v0,v1,v2,v3,l.map (·.b),es,ks,c⟩,l,c7,c8,c9,c10,rfl,⟨h1,rfl,h3⟩,fun b hb=>?_,⟨h4,h5,h6⟩,by rw[List.length_map];exact h2'⟩
 obtain⟨p,hp,rfl⟩:=List.mem_map.1 hb
 exact h2 p hp
end
open Go.RowKit
def vw (p:aY):Bool:= !ql p.b.es p.b.ks p.b.c
theorem abT {m:bF} {ps:List aY} (h:ps.map (·.b)=m.bs):m.small=(decide (ps.length≤20)&&(ql m.es m.ks m.c&& !(ps.any vw))):=by
 unfold bF.small
 rw[←h,List.length_map,List.all_map]
 congr 2
 rw[Bool.eq_iff_iff]
 simp only[List.all_eq_true,Function.comp,Bool.not_eq_true',List.any_eq_false,vw,Bool.not_eq_false]
theorem GH (m:bF) (ps:List aY) (w:World) (lv ev kv cv:Value) (h:iP (fun _=>True) w m ps lv ev kv cv) (hf:Dl m):
 Calls Tryz.prog 18 #[m.ag lv ev kv cv, .int .i64 30] w fun e w'=>e= .returned (.bool m.small)∧aj ay w w':=by
 rw[abT h.eq]
 have hfe:∀p∈ps,Dk p.b:=fun p hp=>hf.each p.b (h.eq▸List.mem_map.2 ⟨p,hp,rfl⟩)
 have HST:=ah (fun W (f:aj ay w W)=>(show Calls Tryz.prog 50 #[.agg #[ev,kv,cv], .int .i64 30] W fun e w'=>e= .returned (.bool (ql m.es m.ks m.c))∧aj ay W w' from QX (fun _=>True) m.es m.ks m.c 30 W ev kv cv (h.dD.aO f) hf.st.1 hf.st.2.2 (by decide) (by decide)))
 have uN:=ah (fun p hp W (f:aj ay w W)=>(show Calls Tryz.prog 23 #[.agg #[.int .i64 p.b.dc, .int .i64 p.b.af, .int .i64 p.b.la, .int .i64 p.b.v0, .int .i64 p.b.v1, .int .i64 p.b.v2, .int .i64 p.b.v3,p.ev,p.kv,p.cv], .int .i64 30] W fun e w'=>e= .returned (.bool (!vw p))∧aj ay W w' from(aaA (fun _=>True) p.b.es p.b.ks p.b.c 30 W p.b.dc p.b.af p.b.la p.b.v0 p.b.v1 p.b.v2 p.b.v3 p.ev p.kv p.cv ((h.bs.dD p hp).aO f) (hfe p hp).1 (hfe p hp).2.2 (by decide) (by decide)).mono fun e w' h=>⟨by rw[h.1];unfold vw ql;rw[Bool.not_not],h.2⟩))
 have qc:=ah (fun p hp=>(h.bs.dD p hp).shape)
 have hpl:ps.length≤140737488351232:=by rw[h.len];exact hf.len
 obtain⟨kind,fr,tt,v0,v1,v2,v3,bs,es,ks,c⟩:=m
 dsimp only at HST
 have hrd:=h.bs.rd
 obtain⟨a0,c0,a1,c1,a2,c2,rfl,rfl,rfl⟩:=h.dD.shape
 obtain⟨al,cl,rfl⟩:=h.bs.rd.sl
 have r_:=ah hrd
 clear h hf hfe hrd
 dsimp only[bF.ag]at HST⊢
 have aQ:=ah (fun W f=>Aq w (.int .i64 kind) (.int .i64 fr) (.int .i64 tt) (.int .i64 v0) (.int .i64 v1) (.int .i64 v2) (.int .i64 v3) (.slice al ps.length cl) (.slice a0 es.length c0) (.slice a1 ks.len c1) (.slice a2 c.length c2) 42 W f)
 have aU:=ah (aj.alloc ay w (.cells #[.int .i64 kind, .int .i64 fr, .int .i64 tt, .int .i64 v0, .int .i64 v1, .int .i64 v2, .int .i64 v3, .slice al ps.length cl, .slice a0 es.length c0, .slice a1 ks.len c1, .slice a2 c.length c2] 42))
 generalize ql es ks c=sl at*
 generalize es.length=n at*
 generalize ks.len=m at*
 generalize c.length=k at*
 generalize hln:ps.length=ln at*
 have HLEN:=ah hln;clear hln
 by_cases h20:ln≤20
 rotate_left 1
 ·rw[decide_eq_false h20,Bool.false_and]
  have abU:(20:Int)<(ln:Int):=by omega
  clear h20
  go_enter Tryz.func18,Tryz.ntmps18
  go_wp2
  go_ret
  exact⟨rfl,aU.out⟩
 rw[decide_eq_true h20,Bool.true_and]
 have abU:¬(20:Int)<(ln:Int):=by omega
 cases sl with
 |false=>
  rw[Bool.false_and]
  clear h20
  go_enter Tryz.func18,Tryz.ntmps18
  go_wp2_with(go_at_call 50;refine(HST.out _ aU.out).mono ?_;rintro e w1 ⟨rfl,hw1⟩;have HW1:=ah (aU.out.au hw1);clear hw1)
  go_ret
  exact⟨rfl,HW1.out⟩
 |true=>
  rw[Bool.true_and]
  go_enter Tryz.func18,Tryz.ntmps18
  go_wp2_with(go_at_call 50;refine(HST.out _ aU.out).mono ?_;rintro e w1 ⟨rfl,hw1⟩;obtain⟨-,-,-,-,-,-,-,y7,-,-,-⟩:=aQ.out w1 hw1;have hlb:=World.block_lt_of_cell? _ _ y7;have HW1:=ah hw1;clear hw1)
  clear y7 hlb
  go_loopw [20] (fun i W=>∃q:Nat,q≤ln∧i= .int .i64 q∧(ps.take q).any vw=false∧aj ay (w.alloc (.cells #[.int .i64 kind, .int .i64 fr, .int .i64 tt, .int .i64 v0, .int .i64 v1, .int .i64 v2, .int .i64 v3, .slice al ln cl, .slice a0 n c0, .slice a1 m c1, .slice a2 k c2] 42)) W) (fun i _=>ln-(intOf i).toNat)
  case atStart=>exact⟨0,Nat.zero_le _,rfl,by simp,HW1.out⟩
  case round=>
   obtain⟨q,hq,rfl,ha,hw⟩:=hrel
   have qg:=ah ha;clear ha
   have HW:=ah hw;clear hw
   clear HW1
   by_cases hlt:q<ln
   ·have hlk:q<ps.length:=by rw[HLEN.out];exact hlt
    obtain⟨-,-,-,-,-,-,-,y7,-,-,-⟩:=aQ.out wr HW.out
    have hlb:=World.block_lt_of_cell? _ _ y7
    have hrd:=r_.out.aO (aU.out.au HW.out)
    rcases Rd.shape hrd with⟨ad,he,h0⟩|⟨b,off,cc,he,hmax⟩
    ·exfalso;omega
    ·injection he with e1 e2 e3
     subst e1 e3
     clear e2
     obtain⟨q0,q1,q2,q3,q4,q5,q6,q7,q8,q9⟩:=wF hrd q hlk
     clear hrd
     have hm:=getD_mem aY.zero hlk
     have hbc:=uN.out _ hm
     have hsh:=qc.out _ hm
     have HT:=ah (J_ (p:=vw) hlk)
     have HE:=ah (Ko (p:=vw) hlk)
     clear hm
     generalize vw (ps.getD q aY.zero)=y at*
     obtain⟨p,hgd⟩:∃p,p=ps.getD q aY.zero:=⟨_,rfl⟩
     rw[←hgd]at q0 q1 q2 q3 q4 q5 q6 q7 q8 q9 hbc hsh
     clear hgd
     obtain⟨⟨dc,af,la,u0,u1,u2,u3,es',ks',c'⟩,ev',kv',cv'⟩:=p
     dsimp only at q0 q1 q2 q3 q4 q5 q6 q7 q8 q9 hbc hsh
     obtain⟨a3,c3,a4,c4,a5,c5,rfl,rfl,rfl⟩:=hsh
     have lY:=ah hbc;clear hbc
     generalize es'.length=n' at*
     generalize ks'.len=m' at*
     generalize c'.length=k' at*
     cases y with
     |true=>
      have DW:=ah (HE.out rfl)
      clear HE HT
      go_wp2_with(go_at_call 23;refine(lY.out _ (aU.out.au HW.out)).mono ?_;rintro e w3 ⟨rfl,hw3⟩;have HW3:=ah (HW.out.au hw3);clear hw3)
      go_ret
      exact⟨by rw[DW.out];rfl,aU.out.au HW3.out⟩
     |false=>
      have Df:=ah (show(ps.take (q+1)).any vw=false by rw[HT.out,qg.out];rfl)
      clear HE HT
      go_wp2_with(go_at_call 23;refine(lY.out _ (aU.out.au HW.out)).mono ?_;rintro e w3 ⟨rfl,hw3⟩;have HW3:=ah (HW.out.au hw3);clear hw3)
      go_roundw
      case rel=>exact⟨q+1,by omega,by go_num,Df.out,HW3.out⟩
      case measure=>simp[intOf];omega
   ·obtain rfl:ln=q:=by omega
    have hall:ps.any vw=false:=by
     have:=qg.out
     rwa [List.take_of_length_le (by rw[HLEN.out];exact Nat.le_refl _)]at this
    have qV:=ah hall
    clear hall hlt hq
    go_wp2
    go_ret
    exact⟨by rw[qV.out];rfl,aU.out.au HW.out⟩
open Go.RowKit
def uz (f:aY→aY→Bool) (ps qs:List aY):Bool:=(List.range ps.length).all fun j=>f (ps.getD j aY.zero) (qs.getD j aY.zero)
theorem DX {f:aY→aY→Bool} {ps qs:List aY}:uz f ps qs=true↔∀j,j<ps.length→f (ps.getD j aY.zero) (qs.getD j aY.zero)=true:=by
 unfold uz
 simp only[List.all_eq_true,List.mem_range]
theorem Tt {f:aY→aY→Bool} {ps qs:List aY} {j:Nat} (hj:j<ps.length) (h:f (ps.getD j aY.zero) (qs.getD j aY.zero)=false):uz f ps qs=false:=by
 rw[Bool.eq_false_iff]
 intro ht
 rw[DX.1 ht j hj]at h
 cases h
theorem map_eq_iff {ps qs:List aY} (hl:ps.length=qs.length):ps.map (·.b)=qs.map (·.b)↔∀j,j<ps.length→(ps.getD j aY.zero).b=(qs.getD j aY.zero).b:=by
 constructor
 ·intro h j hj
  have h1:=congrArg (fun l=>l[j]?) h
  simp only[List.getElem?_map]at h1
  rw[List.getElem?_eq_getElem hj,List.getElem?_eq_getElem (hl▸hj)]at h1
  simp only[Option.map_some,Option.some.injEq]at h1
  rw[List.getD_eq_getElem?_getD,List.getD_eq_getElem?_getD,List.getElem?_eq_getElem hj,List.getElem?_eq_getElem (hl▸hj)]
  exact h1
 ·intro h
  refine List.ext_getElem (by simpa using hl) fun j h1 h2=>?_
  have h1':j<ps.length:=by simpa using h1
  have:=h j h1'
  rw[List.getD_eq_getElem?_getD,List.getD_eq_getElem?_getD,List.getElem?_eq_getElem h1',List.getElem?_eq_getElem (hl▸h1')]at this
  simpa using this
abbrev aY.GI (p q:aY):Prop:=Ap p.b.dc p.b.af p.b.la p.b.v0 p.b.v1 p.b.v2 p.b.v3 q.b.dc q.b.af q.b.la q.b.v0 q.b.v1 q.b.v2 q.b.v3 p.b.es p.b.ks p.b.c q.b.es q.b.ks q.b.c
theorem LU {p q:aY}:p.GI q↔p.b=q.b:=by
 obtain⟨⟨_,_,_,_,_,_,_,_,_,_⟩,_,_,_⟩:=p
 obtain⟨⟨_,_,_,_,_,_,_,_,_,_⟩,_,_,_⟩:=q
 unfold aY.GI Ap
 dsimp only
 simp only[dh.mk.injEq]
 constructor
 ·rintro⟨h1,h2,h3,⟨h4,h5,h6,h7⟩,⟨h8,h9⟩,h10⟩;exact⟨h1,h2,h3,h4,h5,h6,h7,h8,h9,h10⟩
 ·rintro⟨h1,h2,h3,h4,h5,h6,h7,h8,h9,h10⟩;exact⟨h1,h2,h3,⟨h4,h5,h6,h7⟩,⟨h8,h9⟩,h10⟩
noncomputable def sF (p q:aY):Bool:=tf (je p.b.dc p.b.af p.b.la (bG p.b.v0 p.b.v1 p.b.v2 p.b.v3) p.b.es p.b.ks p.b.c∧je q.b.dc q.b.af q.b.la (bG q.b.v0 q.b.v1 q.b.v2 q.b.v3) q.b.es q.b.ks q.b.c∧p.GI q)
noncomputable def vC (p q:aY):Bool:=tf (p.GI q)
theorem Tv {ps qs:List aY} (hl:ps.length=qs.length):uz vC ps qs=true↔ps.map (·.b)=qs.map (·.b):=by
 rw[DX,map_eq_iff hl]
 exact forall_congr' fun j=>imp_congr_right fun _=>sG.trans LU
theorem Tz {ps qs:List aY} (hl:ps.length=qs.length) (h1:∀b∈ps.map (·.b),b.right) (h2:∀b∈qs.map (·.b),b.right):uz sF ps qs=true↔ps.map (·.b)=qs.map (·.b):=by
 rw[DX,map_eq_iff hl]
 refine forall_congr' fun j=>imp_congr_right fun hj=>sG.trans ⟨fun h=>LU.1 h.2.2,fun h=>⟨?_,?_,LU.2 h⟩⟩
 ·exact h1 _ (List.mem_map.2 ⟨_,getD_mem aY.zero hj,rfl⟩)
 ·exact h2 _ (List.mem_map.2 ⟨_,getD_mem aY.zero (hl▸hj),rfl⟩)
theorem abV (Q Q':Nat→Prop) (ps qs:List aY) (w:World) (v u:Value) (h:tZ Q w v ps) (g:tZ Q' w u qs) (hok:∀p∈ps,fP p.b.es p.b.ks p.b.c) (lJ:∀p∈qs,fP p.b.es p.b.ks p.b.c) (hl:ps.length≤100000):
 Calls Tryz.prog 79 #[v,u, .func (.func 80) #[] #[]] w fun e w'=>e= .returned (.bool (decide (ps.length=qs.length)&&uz sF ps qs))∧aj ay w w':=by
 have eg:∀args w,(callFunc 80 args).run Tryz.prog w= .ok (.enter 80 args) w:=enters_of Tryz.func80 (by kernel_rfl) rfl
 have HB:=ah (fun p hp q hq W (f:aj ay w W)=>(show Calls Tryz.prog 80 #[.agg #[.int .i64 p.b.dc, .int .i64 p.b.af, .int .i64 p.b.la, .int .i64 p.b.v0, .int .i64 p.b.v1, .int .i64 p.b.v2, .int .i64 p.b.v3,p.ev,p.kv,p.cv], .agg #[.int .i64 q.b.dc, .int .i64 q.b.af, .int .i64 q.b.la, .int .i64 q.b.v0, .int .i64 q.b.v1, .int .i64 q.b.v2, .int .i64 q.b.v3,q.ev,q.kv,q.cv]] W fun e w'=>e= .returned (.bool (sF p q))∧aj ay W w' from YI Q Q' p.b.es p.b.ks p.b.c q.b.es q.b.ks q.b.c W p.b.dc p.b.af p.b.la p.b.v0 p.b.v1 p.b.v2 p.b.v3 q.b.dc q.b.af q.b.la q.b.v0 q.b.v1 q.b.v2 q.b.v3 p.ev p.kv p.cv q.ev q.kv q.cv ((h.dD p hp).aO f) (hok p hp) ((g.dD q hq).aO f) (lJ q hq)))
 have qc:=ah (fun p hp=>(h.dD p hp).shape)
 have LV:=ah (fun p hp=>(g.dD p hp).shape)
 have hrd:=h.rd
 have grd:=g.rd
 obtain⟨a,c,rfl⟩:=hrd.sl
 obtain⟨a',c',rfl⟩:=grd.sl
 clear h g hok lJ
 have HH:=ah hrd;clear hrd
 have GG:=ah grd;clear grd
 by_cases hlen:ps.length=qs.length
 rotate_left 1
 ·rw[decide_eq_false hlen,Bool.false_and]
  have hle':((ps.length:Int) !=(qs.length:Int))=true:=by simp;omega
  generalize ps.length=n at*
  generalize qs.length=n' at*
  have hle2:¬((n:Int)=(n':Int)):=by omega
  have hle3:((n:Int)==(n':Int))=false:=beq_false_of_ne hle2
  clear hlen hle2
  go_enter Tryz.func79,Tryz.ntmps79
  go_wp2
  go_ret
  exact⟨rfl,aj.refl _ _⟩
 rw[decide_eq_true hlen,Bool.true_and]
 rw[←hlen]at GG
 have HL:=ah hlen
 rw[←hlen]
 clear hlen
 have HHR:=ah (fun q (hq:q<ps.length)=>(show q<qs.length by rw[←HL.out];exact hq))
 have HAT:=ah (fun j (hj:j<ps.length)=>Tt (f:=sF) (ps:=ps) (qs:=qs) hj)
 have AL:=ah (fun(hj:∀j,j<ps.length→sF (ps.getD j aY.zero) (qs.getD j aY.zero)=true)=>DX.2 hj)
 generalize uz sF ps qs=R at*
 generalize hn:ps.length=n at*
 have HN:=ah hn;clear hn
 go_enter Tryz.func79,Tryz.ntmps79
 go_wp2
 go_loopw [17] (fun i W=>∃k:Nat,k≤n∧i= .int .i64 k∧(∀j,j<k→sF (ps.getD j aY.zero) (qs.getD j aY.zero)=true)∧aj ay w W) (fun i _=>n-(intOf i).toNat)
 case atStart=>exact⟨0,Nat.zero_le _,rfl,fun j hj=>absurd hj (Nat.not_lt_zero _),aj.refl _ _⟩
 case round=>
  obtain⟨k,hk,rfl,ha,hw⟩:=hrel
  have qg:=ah ha;clear ha
  have HW:=ah hw;clear hw
  by_cases hlt:k<n
  ·have hlk:k<ps.length:=by rw[HN.out];exact hlt
   have hlq:k<qs.length:=HHR.out k hlt
   have hrd:=HH.out.aO HW.out
   have grd:=GG.out.aO HW.out
   rcases Rd.shape hrd with⟨ad,he,h0⟩|⟨b,off,cc,he,hmax⟩
   ·exfalso;omega
   rcases Rd.shape grd with⟨ad,he',h0⟩|⟨b',off',cc',he',abX⟩
   ·exfalso;omega
   injection he with e1 e2 e3
   subst e1 e3
   clear e2
   injection he' with e1 e2 e3
   subst e1 e3
   clear e2
   obtain⟨q0,q1,q2,q3,q4,q5,q6,q7,q8,q9⟩:=wF hrd k hlk
   obtain⟨r0,r1,r2,r3,r4,r5,r6,r7,r8,r9⟩:=wF grd k hlq
   clear hrd grd
   have hbl:=World.block_lt_of_cell? _ _ q0
   have ac0:=World.block_lt_of_cell? _ _ r0
   have hm:=getD_mem aY.zero hlk
   have gm:=getD_mem aY.zero hlq
   have hbc:=HB.out _ hm _ gm
   have hsh:=qc.out _ hm
   have zq:=LV.out _ gm
   have hat:=HAT.out k hlt
   have HST:=ah (fun(he:sF (ps.getD k aY.zero) (qs.getD k aY.zero)=true)=>(show ∀j,j<k+1→sF (ps.getD j aY.zero) (qs.getD j aY.zero)=true from fun j hj=>by
    rcases Nat.lt_or_ge j k with h|h
    ·exact qg.out j h
    ·rw[show j=k by omega];exact he))
   clear hm gm
   generalize sF (ps.getD k aY.zero) (qs.getD k aY.zero)=y at*
   obtain⟨p,hgd⟩:∃p,p=ps.getD k aY.zero:=⟨_,rfl⟩
   obtain⟨o,zu⟩:∃o,o=qs.getD k aY.zero:=⟨_,rfl⟩
   rw[←hgd]at q0 q1 q2 q3 q4 q5 q6 q7 q8 q9 hsh
   rw[←zu]at r0 r1 r2 r3 r4 r5 r6 r7 r8 r9 zq
   rw[←hgd,←zu]at hbc
   clear hgd zu
   obtain⟨⟨dc,af,la,u0,u1,u2,u3,es',ks',c'⟩,ev',kv',cv'⟩:=p
   obtain⟨⟨dd,ag,lb,x0,x1,x2,x3,ep,kp,cp⟩,ew,kw,cw⟩:=o
   dsimp only at q0 q1 q2 q3 q4 q5 q6 q7 q8 q9 r0 r1 r2 r3 r4 r5 r6 r7 r8 r9 hbc hsh zq
   obtain⟨a3,c3,a4,c4,a5,c5,rfl,rfl,rfl⟩:=hsh
   obtain⟨b3,d3,b4,d4,b5,d5,rfl,rfl,rfl⟩:=zq
   have lY:=ah hbc;clear hbc
   have zx:=ah hat;clear hat
   generalize es'.length=n1 at*
   generalize ks'.len=n2 at*
   generalize c'.length=n3 at*
   generalize ep.length=n4 at*
   generalize kp.len=n5 at*
   generalize cp.length=n6 at*
   have bg:=ah ((HW.out.au (aj.alloc ay wr (.cells #[.int .i64 dc, .int .i64 af, .int .i64 la, .int .i64 u0, .int .i64 u1, .int .i64 u2, .int .i64 u3, .slice a3 n1 c3, .slice a4 n2 c4, .slice a5 n3 c5] 59))).au (aj.alloc ay _ (.cells #[.int .i64 dd, .int .i64 ag, .int .i64 lb, .int .i64 x0, .int .i64 x1, .int .i64 x2, .int .i64 x3, .slice b3 n4 d3, .slice b4 n5 d4, .slice b5 n6 d5] 59)))
   cases y with
   |false=>
    have LW:=ah (zx.out rfl)
    clear zx HST
    go_wp2_with(go_at_call 80;refine(lY.out _ bg.out).mono ?_;rintro e w1 ⟨rfl,hw1⟩;have HW1:=ah (bg.out.au hw1);clear hw1)
    go_ret
    exact⟨by rw[LW.out];rfl,HW1.out⟩
   |true=>
    have LX:=ah (HST.out rfl)
    clear zx HST
    go_wp2_with(go_at_call 80;refine(lY.out _ bg.out).mono ?_;rintro e w1 ⟨rfl,hw1⟩;have HW1:=ah (bg.out.au hw1);clear hw1)
    go_roundw
    case rel=>exact⟨k+1,by omega,by go_num,LX.out,HW1.out⟩
    case measure=>simp[intOf];omega
  ·obtain rfl:n=k:=by omega
   have hall:=AL.out qg.out
   have qV:=ah hall
   clear hall hlt hk
   go_wp2
   go_ret
   exact⟨by rw[qV.out];rfl,HW.out⟩
end Go.Proofs.YtabkpccdnkjoiaaGreat
