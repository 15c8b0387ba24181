/- Words for the law ShardPlays: Pj8, Ps2, Ps8. -/
import Derived.Test.YtlhmbkjdfjoilaaGreatShardPlaysG0
import Derived.Test.YtlhmbkjdfjoilaaGreatShardPlaysG16
import Derived.Test.YtlhmbkjdfjoilaaGreatShardPlaysG20
import Derived.Test.YtlhmbkjdfjoilaaGreatShardPlaysG22
import Derived.Test.YtlhmbkjdfjoilaaGreatShardPlaysG23
import Derived.Test.YtlhmbkjdfjoilaaGreatShardPlaysG25
import Derived.Test.YtlhmbkjdfjoilaaGreatShardPlaysG26
set_option linter.unusedSimpArgs false
set_option linter.unusedVariables false
set_option maxHeartbeats 32000000
set_option maxRecDepth 1000000
namespace Go.Proofs.YtlhmbkjdfjoilaaGreat
open Go.RowKit
def jT (p:ByteArray→Bool) (x:Lf):Bool:=match x.1 with
 |[]=>false
 |k::_=>p k
theorem Ry (p:ByteArray→Bool):∀ks:aT,fZ (bF p ks)=(fZ ks).filter (jT p)
 | .nil=>rfl
 | .cons key es sub rest=>by
   have ih:=Ry p rest
   show fZ (if p key=true then aT.cons key es sub (bF p rest)else bF p rest)=((lI es++fZ sub).map (fun x=>(key::x.1,x.2))++fZ rest).filter (jT p)
   rw[List.filter_append,List.filter_map,←ih]
   have e:jT p∘(fun x:Lf=>(key::x.1,x.2))=fun _=>p key:=rfl
   rw[e]
   cases hp:p key with
   |true=>
    rw[if_pos rfl,List.filter_eq_self.2 (fun _ _=>rfl)]
    rfl
   |false=>
    rw[if_neg (by decide),List.filter_eq_nil_iff.2 (fun _ _=>by decide)]
    rfl
theorem agO (p:ByteArray→Bool) (ks:aT):(dI [] ks).filter (jT p)=dI [] (bF p ks):=(Ry p ks).symm
theorem agP (p:ByteArray→Bool) (ks:aT):(dI [] ks).filter (fun x=> !jT p x)=dI [] (bF (fun k=> !p k) ks):=by
 refine Eq.trans ?_ (Ry _ ks).symm
 show(fZ ks).filter _=_
 refine List.filter_congr fun x hx=>?_
 unfold jT
 cases h:x.1 with
 |nil=>exact absurd h (Hl hx)
 |cons k q=>rfl
theorem YF {α:Type} {d:α} (f:α→Bool) {l:List α} {k:Nat} (h:k<l.length):(l.take (k+1)).filter f=(l.take k).filter f++(if f (l.getD k d)=true then [l.getD k d]else []):=by
 rw[take_succ d h,List.filter_append]
 congr 1
 rw[List.filter_cons]
 split<;>rfl
theorem OwnAt.other {w W W2:World} {e e':TypeId} {s s' n n':Nat} {u v:Value} {xs ys:List Value} (h:OwnAt w W e s u n xs) (hv:OwnAt w W e' s' v n' ys) (f:aj (eG v) W W2) (hd:∀i,v.ownBlock=some i→u.ownBlock≠some i):OwnAt w W2 e s u n xs:=
 ⟨f.owns h.own fun k hk s=>hd k s hk,h.new,h.aI.trans f fun k hk s=>by have:=hv.new k s;omega⟩
theorem YG (f:ByteArray→Bool) {ks:aT} (h:bM 5 [] ks=true):bM 5 [] (bF f ks)=true:=by
 simp only[bM,Bool.and_eq_true]at h⊢
 exact⟨h.1,Qr f h.2⟩
def Rz (w:World) (p:ByteArray→Bool) (ks:aT) (e:Ending) (w':World):Prop:=
 ∃e1 k1 e2 k2,e= .returned (.tuple #[.agg #[e1,k1], .agg #[e2,k2]])∧bZ (fun k=>w.heap.size≤k) w' e1 k1 [] (bF p ks)∧bZ (fun k=>w.heap.size≤k) w' e2 k2 [] (bF (fun k=> !p k) ks)∧aj aF w w'
theorem agQ (Q:Nat→Prop) (ks:aT) (w:World) (ev kv:Value) (ht:bZ Q w ev kv [] ks) (hr:bM 5 [] ks=true) (hsz:dM ks≤2000) (keys:List ByteArray) (sv:Value) (hk:Rd w sv keys.length (fA keys)) (hkl:keys.length≤100000):
 Calls Tryz.prog 116 #[.agg #[ev,kv],sv] w (Rz w (fun s=>keys.any fun k=>decide (k=s)) ks):=by
 obtain⟨i0,hi0,hz0,hz1,hz2⟩:=info_parts DW
 obtain⟨A0,C0,rfl⟩:=ht.ents.rd.sl
 obtain⟨os,hkr,-⟩:=ht.kids
 obtain⟨A1,C1,rfl⟩:=hkr.rd.sl
 obtain⟨A2,C2,rfl⟩:=hk.sl
 obtain⟨p,hp⟩:∃p:ByteArray→Bool,p=fun s=>keys.any fun k=>decide (k=s):=⟨_,rfl⟩
 rw[←hp]
 have uH:=ah (fun W (f:aj aF w W) s=>(show Calls Tryz.prog 157 #[.slice A2 keys.length C2, .string s] W (fun e w'=>e= .returned (.bool (p s))∧aj aF W w') by rw[hp];exact agN keys s W _ (hk.aS f) hkl))
 have HT:=ah (fun W (f:aj aF w W)=>ht.aS f)
 have HLT:=ah (show(dI [] ks).length≤2000 by have:=Ie [] ks;unfold sizeT at this;simp only[List.length_nil]at this;omega)
 have HR1:=ah (YG p hr)
 have HR2:=ah (YG (fun k=> !p k) hr)
 have VO:=ah (Nat.le_trans (Aq p ks) hsz)
 have HS2:=ah (Nat.le_trans (Aq (fun k=> !p k) ks) hsz)
 have LU:=ah (agO p ks)
 have HP2:=ah (agP p ks)
 clear ht hkr hk hr hp
 unfold Rz
 generalize keys.length=kn at*
 generalize hkm:ks.len=km at*
 clear hkm
 obtain⟨hf3,hz3,hb0,hb1,hb2⟩:=oD w #[.slice A0 0 C0, .slice A1 km C1] #[.slice none 0 0, .slice none 0 0] #[.slice none 0 0, .slice none 0 0] 28 28 28
 obtain⟨W3,hW3⟩:∃W3,W3=((w.alloc (.cells #[.slice A0 0 C0, .slice A1 km C1] 28)).alloc (.cells #[.slice none 0 0, .slice none 0 0] 28)).alloc (.cells #[.slice none 0 0, .slice none 0 0] 28):=⟨_,rfl⟩
 rw[←hW3]at hf3 hz3 hb0 hb1 hb2
 have HW3:=ah hW3
 have HF3:=ah hf3
 have HB1:=ah hb1
 have HB2:=ah hb2
 have HZ3:=ah hz3
 have x0:=aG hb0 0 rfl
 have x1:=aG hb0 1 rfl
 have hl0:=lt_of_block hb0
 have Iu:=ah (Lh Q [] ks W3 _ _ (HT.out W3 hf3) (by unfold sizeT;simp only[List.length_nil];omega))
 clear hf3 hb0 hb1 hb2 hW3 hz3
 go_enter Tryz.func116,Tryz.ntmps116
 go_upto_region 1 with fail
 rw[←HW3.out]
 go_upto_region 3 with(go_at_call 24;refine Iu.out.mono ?_;rintro e W4 ⟨v1,l,rfl,ho1,hd1⟩;obtain⟨a1,c1,rfl⟩:=ho1.own.shape;have dZ:=ah ho1;have HD1:=ah hd1;clear ho1 hd1 x0 x1 hl0)
 have dR:=ah (HF3.out.aH dZ.out.own.aI)
 have nO:=ah (show l.length≤2000 by have h:=congrArg List.length HD1.out;rw[List.length_map]at h;have:=HLT.out;omega)
 have hl2:=nO.out
 obtain⟨m,hm⟩:∃m,m=l.length:=⟨_,rfl⟩
 rw[←hm]at hl2⊢
 have HM:=ah hm
 clear hm
 have RD:=ah (fun W (f:aj aF W4 W)=>(show wE _ W (.slice a1 m c1) l by rw[HM.out];exact dZ.out.Ig.aS f))
 go_wp2
 go_loopw [6,7,14] (fun v u iv W=>∃k:Nat,k≤m∧iv= .int .i64 k∧OwnAt W4 W 103 5 v ((l.take k).filter fun x=>jT p x.con).length (jS ((l.take k).filter fun x=>jT p x.con))∧OwnAt W4 W 103 5 u ((l.take k).filter fun x=> !jT p x.con).length (jS ((l.take k).filter fun x=> !jT p x.con))∧∀i,v.ownBlock=some i→u.ownBlock≠some i) (fun _ _ iv _=>m-(intOf iv).toNat)
 case atStart=>exact⟨0,Nat.zero_le _,rfl,OwnAt.nil (aj.refl _ _) _ _,OwnAt.nil (aj.refl _ _) _ _,fun i hi=>by simp[Value.ownBlock]at hi⟩
 case round=>
  obtain⟨k,hk,rfl,hov,hou,hdj⟩:=hrel
  obtain⟨av,cv,rfl⟩:=hov.shape
  obtain⟨au,cu,rfl⟩:=hou.shape
  have HF:=ah hov.aI
  by_cases hlt:k<m
  ·have hkl:k<l.length:=by rw[←HM.out];exact hlt
   have hlv:=RD.out _ HF.out
   obtain⟨g0,g1,g2,g3,g4⟩:=Ag l k hkl
   have hpk:=hlv.each _ (getD_mem default hkl)
   have hrd:=hlv.rd
   rw[←HM.out]at hrd
   have hsv:=YF (d:=default) (fun x:dB=>jT p x.con) hkl
   have hsu:=YF (d:=default) (fun x:dB=> !jT p x.con) hkl
   have PD:((l.take k).filter fun x=>jT p x.con).length≤k:=Nat.le_trans (List.length_filter_le _ _) (by rw[List.length_take];omega)
   have hnu:((l.take k).filter fun x=> !jT p x.con).length≤k:=Nat.le_trans (List.length_filter_le _ _) (by rw[List.length_take];omega)
   rcases Rd.shape hrd with⟨ad,he,h0⟩|⟨g,off,cc,he,hmx⟩
   ·omega
   injection he with e1 e2 e3
   subst e1 e3
   clear e2
   generalize l.getD k default=qb at*
   obtain⟨path,pv,ed,en,es,ek⟩:=qb
   have hpk:gy _ wr pv path.length (fA path):=hpk
   obtain⟨ap,cpp,rfl⟩:=hpk.rd.sl
   have RF:=ah (show(l.take (k+1)).filter (fun x=>jT p x.con)=(l.take k).filter (fun x=>jT p x.con)++(if jT p (path,⟨ed,en,es,ek⟩)=true then [(⟨path, .slice ap path.length cpp,⟨ed,en,es,ek⟩⟩:dB)]else [])from hsv)
   have ER:=ah (show(l.take (k+1)).filter (fun x=> !jT p x.con)=(l.take k).filter (fun x=> !jT p x.con)++(if(!jT p (path,⟨ed,en,es,ek⟩))=true then [(⟨path, .slice ap path.length cpp,⟨ed,en,es,ek⟩⟩:dB)]else [])from hsu)
   clear hsv hsu
   have HOV:=ah hov
   have Eb:=ah hou
   have zZ:=ah hdj
   generalize (l.take k).filter (fun x=>jT p x.con)=la at*
   generalize (l.take k).filter (fun x=> !jT p x.con)=lb at*
   have y0:wr.cell? ⟨g,off+k*5,none⟩=some (.slice ap path.length cpp):=hrd.cell _ _ g0
   have y1:wr.cell? ⟨g,off+k*5+1,none⟩=some (.int .i64 ed):=hrd.cell (k*5+1) _ g1
   have y2:wr.cell? ⟨g,off+k*5+2,none⟩=some (.int .i64 en):=hrd.cell (k*5+2) _ g2
   have y3:wr.cell? ⟨g,off+k*5+3,none⟩=some (.string es):=hrd.cell (k*5+3) _ g3
   have y4:wr.cell? ⟨g,off+k*5+4,none⟩=some (.int .i64 ek):=hrd.cell (k*5+4) _ g4
   have wS:=ah (fun W (f:aj aF wr W)=>(⟨f.cell' y0 id,f.cell' y1 id,f.cell' y2 id,f.cell' y3 id,f.cell' y4 id⟩:W.cell? ⟨g,off+k*5,none⟩=some (.slice ap path.length cpp)∧W.cell? ⟨g,off+k*5+1,none⟩=some (.int .i64 ed)∧W.cell? ⟨g,off+k*5+2,none⟩=some (.int .i64 en)∧W.cell? ⟨g,off+k*5+3,none⟩=some (.string es)∧W.cell? ⟨g,off+k*5+4,none⟩=some (.int .i64 ek)))
   have lD:=World.block_lt_of_cell? _ _ y0
   have hki:(k:Int)<(m:Int):=by omega
   clear hrd hlv g0 g1 g2 g3 g4 hkl hov hou hdj y1 y2 y3 y4
   obtain⟨x9,RG⟩:∃x9:dB,x9=⟨path, .slice ap path.length cpp,⟨ed,en,es,ek⟩⟩:=⟨_,rfl⟩
   rw[←RG]at RF ER
   have hxc:jS [x9]=[.slice ap path.length cpp, .int .i64 ed, .int .i64 en, .string es, .int .i64 ek]:=by rw[RG];rfl
   have YH:=ah hxc
   clear RG hxc
   go_upto_region 6 with fail
   go_cut [34] (fun v W=>v= .bool (jT p (path,⟨ed,en,es,ek⟩))∧aj aF wr W)
   case first=>
    cases path with
    |nil=>
     go_wp2
     go_meet
     case rel=>exact⟨rfl,aj.refl _ _⟩
    |cons k0 pt=>
     rcases Rd.shape hpk.rd with⟨ad,he,h0⟩|⟨pg,po,pc,he,V_⟩
     ·simp at h0
     injection he with e1 e2 e3
     subst e1 e3
     clear e2
     have z0:=hpk.rd.cell 0 (.string k0) rfl
     rw[Nat.add_zero]at z0
     have hlz:=World.block_lt_of_cell? _ _ z0
     have y0:wr.cell? ⟨g,off+k*5,none⟩=some (.slice (some ⟨pg,po,none⟩) (pt.length+1) cpp):=y0
     have hps:(pt.length+1:Nat)=pt.length+1:=rfl
     obtain⟨pn,hpn⟩:∃pn,pn=pt.length+1:=⟨_,rfl⟩
     rw[←hpn]at y0
     have hpt:(0:Int)<(pn:Int):=by omega
     have HI1:=ah (uH.out wr (dR.out.aH HF.out) k0)
     clear hps hpn hpk
     go_wp2_with(go_at_call 157;refine HI1.out.mono ?_;rintro e w6 ⟨rfl,jO⟩;have HF6:=ah jO;clear jO y0 z0 hlz lD)
     go_meet
     case rel=>exact⟨rfl,HF6.out⟩
   case rest=>
    obtain⟨rfl,hfr⟩:=hcut
    obtain⟨W5,rfl⟩:∃W5,W5=wc:=⟨_,rfl⟩
    have IB:=ah (HOV.out.keep hfr)
    have CW:=ah (Eb.out.keep hfr)
    clear y0 lD
    obtain⟨y0,y1,y2,y3,y4⟩:=wS.out _ hfr
    have lD:=World.block_lt_of_cell? _ _ y0
    clear hfr hpk
    generalize path.length=pl at*
    cases hh:jT p (path,⟨ed,en,es,ek⟩)with
    |true=>
     have HH:=ah hh
     clear hh
     go_wp2_with(at_builtin;refine zM _ [.slice ap pl cpp, .int .i64 ed, .int .i64 en, .string es, .int .i64 ek] rfl (.tmp 35) (.tmp 40) 50 rfl 103 i0 _ 5 64 Tryz.underlying50 hi0 hz0 hz1 hz2 (by decide) (by decide) _ _ _ IB.out.own 1 1 rfl (by simp[Act.eval]) rfl (by simp[Value.oneCell']) (by simp only[maxLen];omega) (by omega) ?_;intro ad cc w9 tC qW qX;have OV:=ah (IB.out.step tC qW qX);have OU:=ah (CW.out.other IB.out qW zZ.out);have DJ:=ah (fun i (hi:(Value.slice ad (la.length+1) cc).ownBlock=some i)=>(show(Value.slice au lb.length cu).ownBlock≠some i from fun e=>(qX i hi).elim (fun s=>zZ.out i s e) fun s=>by obtain⟨cur,h4⟩:=jB CW.out.own e;have:=lt_of_block h4;omega));clear tC qW qX)
     go_roundw
     case rel=>exact⟨k+1,by omega,by go_num,by rw[RF.out,if_pos HH.out,List.length_append,Hg,YH.out];exact OV.out,by rw[ER.out,if_neg (by rw[HH.out];decide),List.append_nil];exact OU.out,DJ.out⟩
     case measure=>simp[intOf];omega
    |false=>
     have HH:=ah hh
     clear hh
     go_wp2_with(at_builtin;refine zM _ [.slice ap pl cpp, .int .i64 ed, .int .i64 en, .string es, .int .i64 ek] rfl (.tmp 42) (.tmp 47) 50 rfl 103 i0 _ 5 64 Tryz.underlying50 hi0 hz0 hz1 hz2 (by decide) (by decide) _ _ _ CW.out.own 1 1 rfl (by simp[Act.eval]) rfl (by simp[Value.oneCell']) (by simp only[maxLen];omega) (by omega) ?_;intro ad cc w9 tC qW qX;have OU:=ah (CW.out.step tC qW qX);have OV:=ah (IB.out.other CW.out qW fun i hi e=>zZ.out i e hi);have DJ:=ah (fun i (hi:(Value.slice av la.length cv).ownBlock=some i)=>(show(Value.slice ad (lb.length+1) cc).ownBlock≠some i from fun e=>(qX i e).elim (fun s=>zZ.out i hi s) fun s=>by obtain⟨cur,h4⟩:=jB IB.out.own hi;have:=lt_of_block h4;omega));clear tC qW qX)
     go_roundw
     case rel=>exact⟨k+1,by omega,by go_num,by rw[RF.out,if_neg (by rw[HH.out];decide),List.append_nil];exact OV.out,by rw[ER.out,if_pos (by rw[HH.out];decide),List.length_append,Hg,YH.out];exact OU.out,DJ.out⟩
     case measure=>simp[intOf];omega
  ·obtain rfl:m=k:=by omega
   have hta:l.take m=l:=List.take_of_length_le (by rw[HM.out];exact Nat.le_refl _)
   rw[hta]at hov hou⊢
   have hma:∀x∈l.filter (fun x=>jT p x.con),x∈l:=fun x hx=>(List.mem_filter.1 hx).1
   have hmb:∀x∈l.filter (fun x=> !jT p x.con),x∈l:=fun x hx=>(List.mem_filter.1 hx).1
   have hca:(l.filter (fun x=>jT p x.con)).map dB.con=dI [] (bF p ks):=by
    rw[←LU.out,←HD1.out,List.filter_map];rfl
   have hcb:(l.filter (fun x=> !jT p x.con)).map dB.con=dI [] (bF (fun k=> !p k) ks):=by
    rw[←HP2.out,←HD1.out,List.filter_map];rfl
   have hna:(l.filter (fun x=>jT p x.con)).length≤2000:=Nat.le_trans (List.length_filter_le _ _) nO.out
   have hnb:(l.filter (fun x=> !jT p x.con)).length≤2000:=Nat.le_trans (List.length_filter_le _ _) nO.out
   generalize l.filter (fun x=>jT p x.con)=la at*
   generalize l.filter (fun x=> !jT p x.con)=lb at*
   have yx:=ah (fun W (f:aj aF wr W)=>LH _ _ [] (bF p ks) 5 la W (.slice av la.length cv) (Nat.lt_succ_self _) ⟨(hov.keep f).rd,fun x hx=>(RD.out W (HF.out.aH f)).each x (hma x hx)⟩ (by rw[hca]) HR1.out (by omega) (by have:=VO.out;unfold sizeT;simp only[List.length_nil];omega))
   have xR:=ah (fun W (f:aj aF wr W)=>LH _ _ [] (bF (fun k=> !p k) ks) 5 lb W (.slice au lb.length cu) (Nat.lt_succ_self _) ⟨(hou.keep f).rd,fun x hx=>(RD.out W (HF.out.aH f)).each x (hmb x hx)⟩ (by rw[hcb]) HR2.out (by omega) (by have:=HS2.out;unfold sizeT;simp only[List.length_nil];omega))
   have YI:=ah ((dZ.out.own.aI.aH HF.out).blk HB1.out id)
   have YJ:=ah ((dZ.out.own.aI.aH HF.out).blk HB2.out id)
   have iC:=ah (show w.heap.size+1+1<wr.heap.size by have h1:=(dZ.out.own.aI.aH HF.out).size;have h2:=HZ3.out;omega)
   clear hov hou hma hmb hca hcb hta
   generalize la.length=na at*
   generalize lb.length=nb at*
   obtain⟨p2,hp2⟩:∃p2,p2=w.heap.size+1+1:=⟨_,rfl⟩
   obtain⟨p1,hp1⟩:∃p1,p1=w.heap.size+1:=⟨_,rfl⟩
   rw[←hp2]at YJ iC⊢
   rw[←hp1]at YI⊢
   have hne:p1≠p2:=by omega
   have hne2:p2≠p1:=by omega
   have HQ1:=ah (show w.heap.size≤p1∧p1<p2 by omega)
   clear hp1 hp2
   go_wp2_with(first
    |(go_at_call 26;have q9:=gK.out;clear q9;refine(xR.out _ gK.out).mono ?_;rintro e w8 ⟨Fa,AP,rfl,ht2,hf2⟩;obtain⟨b3,d3,rfl⟩:=ht2.ents.rd.sl;obtain⟨os2,yA,-⟩:=ht2.kids;obtain⟨b4,d4,rfl⟩:=yA.rd.sl;have HT2:=ah ht2;have b_:=ah hf2;have hb1:=(gK.out.aH hf2).blk YI.out id;have hb2:=(gK.out.aH hf2).blk YJ.out id;clear ht2 hf2 yA;have x0:=aG hb1 0 rfl;have x1:=aG hb1 1 rfl;have f0:=aW hb1 0;have f1:=aW hb1 1;have x2:=aG hb2 0 rfl;have x3:=aG hb2 1 rfl;have f2:=aW hb2 0;have f3:=aW hb2 1;have hl1:=lt_of_block hb1;have hl2:=lt_of_block hb2;have H1:=ah hb1;have H2:=ah hb2;clear hb1 hb2)
    |(go_at_call 26;refine(yx.out _ (aj.refl _ _)).mono ?_;rintro e w7 ⟨ev1,wP,rfl,ht1,hf1⟩;obtain⟨b1,d1,rfl⟩:=ht1.ents.rd.sl;obtain⟨os1,uK,-⟩:=ht1.kids;obtain⟨b2,d2,rfl⟩:=uK.rd.sl;have HT1:=ah ht1;have gK:=ah hf1;clear ht1 hf1 uK))
   have s1:=eY (eY H1.out 0 (.slice b1 0 d1)) 1 (.slice b2 (bF p ks).len d2)
   have t1:=(aj.setCell (S:=fun x=>x=p1) w8 (p:=⟨p1,0,none⟩) (.inl rfl) (.slice b1 0 d1)).trans (aj.setCell (S:=fun x=>x=p1) _ (p:=⟨p1,1,none⟩) (.inl rfl) (.slice b2 (bF p ks).len d2)) fun _ _ h=>h
   have s2:=eY (eY (t1.blk H2.out (by omega)) 0 (.slice b3 0 d3)) 1 (.slice b4 (bF (fun k=> !p k) ks).len d4)
   have t2:=fun w0=>(aj.setCell (S:=fun x=>x=p2) w0 (p:=⟨p2,0,none⟩) (.inl rfl) (.slice b3 0 d3)).trans (aj.setCell (S:=fun x=>x=p2) _ (p:=⟨p2,1,none⟩) (.inl rfl) (.slice b4 (bF (fun k=> !p k) ks).len d4)) fun _ _ h=>h
   have YK:=(t2 _).blk s1 (by omega)
   have z0:=aG YK 0 rfl
   have z1:=aG YK 1 rfl
   have z2:=aG s2 0 rfl
   have z3:=aG s2 1 rfl
   have ajB:=iC.out
   have hq1:=HQ1.out
   have hfw:=dR.out.aH HF.out
   have hst:w.heap.size≤wr.heap.size:=hfw.size
   refine bodyPost_ret (v:= .tuple #[.agg #[.slice b1 0 d1, .slice b2 (bF p ks).len d2], .agg #[.slice b3 0 d3, .slice b4 (bF (fun k=> !p k) ks).len d4]]) (by simp[results,Tryz.results116,go_sem,z0,z1,z2,z3]) rfl ⟨_,_,_,_,rfl,?_,?_,?_⟩
   ·refine(HT1.out.aS b_.out).turn (Q':=fun k=>w.heap.size≤k) fun k hk hq=>⟨((t2 _).block k (by have:=t1.size;omega) (by omega)).trans (t1.block k hk (by omega)),by omega⟩
   ·refine HT2.out.turn (Q':=fun k=>w.heap.size≤k) fun k hk hq=>⟨((t2 _).block k (by have:=t1.size;omega) (by have:=gK.out.size;omega)).trans (t1.block k hk (by have:=gK.out.size;omega)),by have:=gK.out.size;omega⟩
   ·exact(((hfw.aH gK.out).aH b_.out).trans t1 fun k hk e=>by omega).trans (t2 _) fun k hk e=>by omega
open Go.RowKit
noncomputable def jP (n:Nat) (es:List aQ) (ks:aT) (c:bD) (k:Int):Bool:=decide (0≤k∧k<n)&&(tf (jA es ks c)&&decide (es.length=0))
theorem vO {n:Nat} {es:List aQ} {ks:aT} {c:bD} {k:Int}:jP n es ks c k=true↔(0≤k∧k<n)∧jA es ks c∧es=[]:=by
 unfold jP
 rw[Bool.and_eq_true,Bool.and_eq_true,decide_eq_true_eq,decide_eq_true_eq]
 constructor
 ·rintro⟨h1,h2,h3⟩
  refine⟨h1,?_,List.eq_nil_of_length_eq_zero h3⟩
  by_cases h:jA es ks c
  ·exact h
  ·rw[eH h]at h2;cases h2
 ·rintro⟨h1,h2,h3⟩
  exact⟨h1,gu h2,by rw[h3];rfl⟩
section
variable {Q:Nat→Prop} {w:World} {n:Nat} {vv sv:Value} {vs:List aU} {rs:List bn}
theorem LV (QA:Nat→Prop) (n:Nat) (n4:n≤4) (a0 a1:Option Addr) (c0 m1 c1:Nat) (w:World) (es:List aQ) (ks:aT) (c:bD) (ev kv cv:Value) (h:dU QA w ev kv cv es ks c) (hok:iD es ks c) (k:Int):
 Calls Tryz.prog 80 #[.agg #[.slice a0 n c0, .slice a1 m1 c1], .agg #[ev,kv,cv], .int .i64 k] w fun e w'=>e= .returned (.bool (jP n es ks c k))∧aj aF w w':=by
 have HR:=ah (fun W (f:aj aF w W)=>af8 QA es ks c W _ _ _ (h.aS f) hok)
 obtain⟨d0,b0,d1,b1,d2,b2,rfl,rfl,rfl⟩:=h.shape
 clear h hok
 unfold jP
 generalize ks.len=km at*
 generalize c.length=cm at*
 generalize tf (jA es ks c)=r at*
 generalize es.length=en at*
 have HF2:=ah ((aj.alloc aF w (.cells #[.slice a0 n c0, .slice a1 m1 c1] 62)).alloc1 (o:= .cells #[.slice d0 en b0, .slice d1 km b1, .slice d2 cm b2] 32))
 have HB2:=ah (lY w (.cells #[.slice a0 n c0, .slice a1 m1 c1] 62) #[.slice d0 en b0, .slice d1 km b1, .slice d2 cm b2] 32).1
 by_cases h0:0≤k
 ·by_cases h1:k<(n:Int)
  ·have hd:decide (0≤k∧k<(n:Int))=true:=decide_eq_true ⟨h0,h1⟩
   rw[hd]
   clear hd
   cases r with
   |false=>
    go_enter Tryz.func80,Tryz.ntmps80
    go_wp2_with(go_at_call 37;refine(HR.out _ HF2.out).mono ?_;rintro e w3 ⟨rfl,hf3⟩;have HF3:=ah hf3;clear hf3)
    go_ret
    exact⟨rfl,HF2.out.aH HF3.out⟩
   |true=>
    by_cases he:en=0
    ·subst he
     go_enter Tryz.func80,Tryz.ntmps80
     go_wp2_with(go_at_call 37;refine(HR.out _ HF2.out).mono ?_;rintro e w3 ⟨rfl,hf3⟩;have HF3:=ah hf3;have x0:=aG (hf3.blk HB2.out id) 0 rfl;have hl3:=lt_of_block (hf3.blk HB2.out id);clear hf3)
     go_ret
     exact⟨rfl,HF2.out.aH HF3.out⟩
    ·have hz:((en:Int)==0)=false:=by simpa using he
     have hde:decide (en=0)=false:=decide_eq_false he
     rw[hde]
     clear hde
     go_enter Tryz.func80,Tryz.ntmps80
     go_wp2_with(go_at_call 37;refine(HR.out _ HF2.out).mono ?_;rintro e w3 ⟨rfl,hf3⟩;have HF3:=ah hf3;have x0:=aG (hf3.blk HB2.out id) 0 rfl;have hl3:=lt_of_block (hf3.blk HB2.out id);clear hf3)
     go_ret
     exact⟨rfl,HF2.out.aH HF3.out⟩
  ·have hd:decide (0≤k∧k<(n:Int))=false:=decide_eq_false fun h=>h1 h.2
   have hkn:decide (k<(n:Int))=false:=decide_eq_false h1
   rw[hd]
   clear hd
   go_enter Tryz.func80,Tryz.ntmps80
   go_wp2
   go_ret
   exact⟨rfl,HF2.out⟩
 ·have hd:decide (0≤k∧k<(n:Int))=false:=decide_eq_false fun h=>h0 h.1
  have hkn:decide (0≤k)=false:=decide_eq_false h0
  rw[hd]
  clear hd
  go_enter Tryz.func80,Tryz.ntmps80
  go_wp2
  go_ret
  exact⟨rfl,HF2.out⟩
theorem agU {p:ByteArray→Bool} {ks:aT}:bF (fun s=>(ks.keys.filter p).any fun k=>decide (k=s)) ks=bF p ks:=
 Qe fun s hs=>by
  cases hp:p s with
  |true=>exact List.any_eq_true.2 ⟨s,List.mem_filter.2 ⟨hs,hp⟩,decide_eq_true rfl⟩
  |false=>
   rw[List.any_eq_false]
   intro x hx e
   rw[decide_eq_true_eq]at e
   subst e
   rw[(List.mem_filter.1 hx).2]at hp
   cases hp
def Fp (w:World) (p:ByteArray→Bool) (ks:aT) (cv:Value) (e:Ending) (w':World):Prop:=
 ∃ev kv,e= .returned (.agg #[ev,kv,cv])∧bZ (fun b=>w.heap.size≤b) w' ev kv [] (bF p ks)∧aj aF w w'
theorem RH (QA:Nat→Prop) (n:Nat) (n4:n≤4) (a0 a1:Option Addr) (c0 m1 c1:Nat) (w:World) (ks:aT) (c:bD) (ev kv cv:Value) (h:dU QA w ev kv cv [] ks c) (hg:Good (ks,c)) (k:Int):
 Calls Tryz.prog 81 #[.agg #[.slice a0 n c0, .slice a1 m1 c1], .agg #[ev,kv,cv], .int .i64 k] w (Fp w (bQ n k) ks cv):=by
 obtain⟨j0,hj,hy0,hy1,hy2⟩:=info_parts Pv
 have Ez:=ah (fun W (f:aj aF w W) keys vk h1 h2=>agQ QA ks W _ _ (h.tree.aS f) hg.right.tree (by have:=hg.ok.small;unfold sizeT at this;simp only[List.length_nil]at this;omega) keys vk h1 h2)
 have hsk:dM ks≤2000:=by have h:=hg.ok.small;unfold sizeT at h;have h:([]:List aQ).length+dM ks≤2000:=h;simp only[List.length_nil]at h;omega
 have HL:=ah (show ks.len≤2000 by have:=oQ ks;omega)
 have iZ:=ah ks.sH
 obtain⟨os,hk,hf⟩:=h.tree.kids
 have Ci:=ah (En hf)
 have iT:=ah (fun W (f:aj aF w W)=>hk.rd.aS f)
 have dJ:=ah (fun s (hs:s∈ks.keys)=>(show s.size≤100000 by
  have:=((qO _ _ _ (oZ hg.right.tree).2).2 s hs).2
  unfold oN at this
  simp only[decide_eq_true_eq]at this
  omega))
 obtain⟨d0,b0,d1,b1,d2,b2,rfl,rfl,rfl⟩:=h.shape
 clear h hg hk hf
 unfold Fp
 generalize jG ks os=xs at*
 generalize hkn:ks.len=m at*
 have u_:=ah hkn;clear hkn
 generalize c.length=n2 at*
 obtain⟨hf3,hz3,hb0,hb1,hb2⟩:=oD w #[.slice a0 n c0, .slice a1 m1 c1] #[.slice d0 0 b0, .slice d1 m b1, .slice d2 n2 b2] #[.slice none 0 0, .slice none 0 0, .slice none 0 0] 62 32 32
 obtain⟨W3,hW3⟩:∃W3,W3=((w.alloc (.cells #[.slice a0 n c0, .slice a1 m1 c1] 62)).alloc (.cells #[.slice d0 0 b0, .slice d1 m b1, .slice d2 n2 b2] 32)).alloc (.cells #[.slice none 0 0, .slice none 0 0, .slice none 0 0] 32):=⟨_,rfl⟩
 rw[←hW3]at hf3 hz3 hb0 hb1 hb2
 have HW3:=ah hW3
 have HF3:=ah hf3
 have HB0:=ah hb0
 have HB1:=ah hb1
 have HB2:=ah hb2
 have HZ3:=ah hz3
 have x1:=aG hb1 1 rfl
 have hl1:=lt_of_block hb1
 have hm2:=HL.out
 clear hf3 hb0 hb1 hb2 hW3 hz3
 go_enter Tryz.func81,Tryz.ntmps81
 go_upto_region 1 with fail
 rw[←HW3.out]
 go_wp2
 clear x1 hl1
 go_loopw [7,15] (fun kv iv W=>∃i:Nat,i≤m∧iv= .int .i64 i∧OwnAt W3 W 9 1 kv ((ks.keys.take i).filter (bQ n k)).length (((ks.keys.take i).filter (bQ n k)).map .string)) (fun _ iv _=>m-(intOf iv).toNat)
 case atStart=>exact⟨0,by omega,rfl,OwnAt.nil (aj.refl _ _) _ _⟩
 case round=>
  obtain⟨i,hi1,rfl,ho⟩:=hrel
  obtain⟨av,cv,rfl⟩:=ho.shape
  have HO:=ah ho
  have eX:=ah (HF3.out.aH ho.aI)
  have tq:=ah ho.aI
  clear ho
  by_cases hlt:i<m
  ·have hil:i<ks.keys.length:=by rw[iZ.out];exact hlt
   obtain⟨e0,g0,f0,e1,g1,f1,q0,q1,q2⟩:=Ci.out i hil
   have hsz:=dJ.out _ (getD_mem ByteArray.empty hil)
   have pX:=ah (fun W=>aei (ks.keys.getD i ByteArray.empty) n W hsz)
   have HST:=ah (WI (p:=bQ n k) hil)
   have hfl:((ks.keys.take i).filter (bQ n k)).length≤2000:=by have:=List.length_filter_le (bQ n k) (ks.keys.take i);rw[List.length_take]at this;omega
   rcases Rd.shape (iT.out _ eX.out)with⟨ad,he,h0⟩|⟨g,off,cc,he,hmax⟩
   ·omega
   injection he with e1 e2 e3
   subst e1 e3
   clear e2 hil hsz
   have r:=iT.out _ eX.out
   replace q0:=r.cell _ _ q0
   clear r q1 q2
   generalize ks.keys.getD i ByteArray.empty=key at*
   generalize ((ks.keys.take i).filter (bQ n k))=l at*
   have Pz:(i:Int)<(m:Int):=by omega
   have Gu:=ah q0
   have hbs:=tq.out.blk HB0.out id
   have hbc:=tq.out.blk HB1.out id
   go_upto_region 5 with fail
   go_cut [30] (fun v W=>v= .bool (bQ n k key)∧aj aF wr W)
   case first=>
    obtain⟨α,hne,K,hK1,hK0,hK2⟩:=worlds wr
    have dS:=ah hK1
    have k0:∀s,(K s).cell? ⟨g,off+i*3,none⟩=some (.string key):=fun s=>(hK1 s).cell' q0 id
    have k1:∀s,(K s).cell? ⟨w.heap.size,0,none⟩=some (.slice a0 n c0):=fun s=>(hK1 s).cell' (aG hbs 0 rfl) id
    have k2:∀s,(K s).cell? ⟨w.heap.size+1,1,none⟩=some (.slice (some ⟨g,off,none⟩) m b1):=fun s=>(hK1 s).cell' (aG hbc 1 rfl) id
    clear hK1 hbs hbc q0
    by_cases hd:vF key n=k
    ·have HI:=ah (show bQ n k key=true by simp[bQ,hd])
     rw[hd]at pX
     refine dX K (by kernel_rfl) (by kernel_rfl) hK0 ?_
     repeat(go_big_quiet_step ((go_at_call 11;exact Calls.bT hK2 (pX.out _))))
     refine wpQuiet_nil ?_
     intro w' hw'
     obtain⟨s,rfl⟩:=hw'
     go_wp2
     go_meet
     case rel=>exact⟨by rw[HI.out],dS.out s⟩
    ·have HI:=ah (show bQ n k key=false by simp[bQ,hd])
     have hdb:(vF key n==k)=false:=by simpa using hd
     refine dX K (by kernel_rfl) (by kernel_rfl) hK0 ?_
     repeat(go_big_quiet_step ((go_at_call 11;exact Calls.bT hK2 (pX.out _))))
     refine wpQuiet_nil ?_
     intro w' hw'
     obtain⟨s,rfl⟩:=hw'
     go_wp2
     go_meet
     case rel=>exact⟨by rw[HI.out],dS.out s⟩
   case rest=>
    obtain⟨rfl,hfr⟩:=hcut
    obtain⟨W5,rfl⟩:∃W5,W5=wc:=⟨_,rfl⟩
    have mV:=ah (HO.out.keep hfr)
    have y0:=hfr.cell' Gu.out id
    have fB:=hfr.blk hbc id
    have y1:=aG fB 1 rfl
    have zC:=lt_of_block fB
    have lD:=World.block_lt_of_cell? _ _ y0
    clear q0 hbs hbc hfr fB
    cases hin:bQ n k key with
    |true=>
     have hst:=HST.out
     rw[if_pos hin]at hst
     have HS2:=ah hst
     clear hst HST hin
     go_wp2_with(at_builtin;refine kT W3 _ [.string key] rfl (.tmp 31) (.tmp 39) 101 rfl 9 j0 _ 1 16 Tryz.underlying101 hj hy0 hy1 hy2 (by decide) (by decide) _ _ _ mV.out 1 1 rfl (by simp[Act.eval]) rfl (by simp[Value.oneCell']) (by simp only[maxLen];omega) (by omega) ?_;intro ad cc w5 dP;have OW:=ah dP;clear dP)
     go_roundw
     case rel=>exact⟨i+1,by omega,by go_num,by have hl:=congrArg List.length HS2.out;simp only[List.length_map,List.length_append,List.length_cons,List.length_nil]at hl;rw[HS2.out,hl];exact OW.out⟩
     case measure=>simp[intOf];omega
    |false=>
     have hst:=HST.out
     rw[if_neg (by rw[hin];decide),List.append_nil]at hst
     have HS2:=ah hst
     clear hst HST hin
     go_wp2
     go_roundw
     case rel=>exact⟨i+1,by omega,by go_num,by have hl:=congrArg List.length HS2.out;simp only[List.length_map]at hl;rw[HS2.out,hl];exact mV.out⟩
     case measure=>simp[intOf];omega
  ·obtain rfl:m=i:=by omega
   have hta:ks.keys.take m=ks.keys:=List.take_of_length_le (by rw[iZ.out];exact Nat.le_refl _)
   rw[hta]at HO⊢
   have hkl:(ks.keys.filter (bQ n k)).length≤100000:=Nat.le_trans (List.length_filter_le _ _) (by rw[iZ.out];omega)
   have hon:=Ez.out wr eX.out (ks.keys.filter (bQ n k)) (.slice av (ks.keys.filter (bQ n k)).length cv) HO.out.rd hkl
   have YL:Calls Tryz.prog 116 #[.agg #[.slice d0 0 b0, .slice d1 m b1], .slice av (ks.keys.filter (bQ n k)).length cv] wr fun e w'=>∃p1 q1 p2 q2 p3 n3 q3 p4 n4 q4,e= .returned (.tuple #[.agg #[.slice p1 0 q1, .slice p2 (bF (bQ n k) ks).len q2], .agg #[.slice p3 n3 q3, .slice p4 n4 q4]])∧bZ (fun b=>wr.heap.size≤b) w' (.slice p1 0 q1) (.slice p2 (bF (bQ n k) ks).len q2) [] (bF (bQ n k) ks)∧aj aF wr w':=by
    refine hon.mono fun e w' hp=>?_
    unfold Rz at hp
    rw[agU]at hp
    obtain⟨e1,k1,e2,k2,rfl,ht1,ht2,jO⟩:=hp
    obtain⟨p1,q1,rfl⟩:=ht1.ents.rd.sl
    obtain⟨os1,uK,-⟩:=ht1.kids
    obtain⟨p2,q2,rfl⟩:=uK.rd.sl
    obtain⟨p3,q3,rfl⟩:=ht2.ents.rd.sl
    obtain⟨os2,yA,-⟩:=ht2.kids
    obtain⟨p4,q4,rfl⟩:=yA.rd.sl
    exact⟨p1,q1,p2,q2,p3,_,q3,p4,_,q4,rfl,ht1,jO⟩
   have HO9:=ah YL
   clear hon YL hta
   generalize (ks.keys.filter (bQ n k)).length=kl at*
   have hbc:=tq.out.blk HB1.out id
   have HBC:=ah hbc
   have oV:=ah (tq.out.blk HB2.out id)
   have x0:=aG hbc 0 rfl
   have x1:=aG hbc 1 rfl
   have hlc:=lt_of_block hbc
   clear hbc
   go_upto_region 9 with(go_at_call 116;refine HO9.out.mono ?_;rintro e w6 ⟨p1,q1,p2,q2,p3,n3,q3,p4,n5,q4,rfl,ht1,jO⟩;have HT1:=ah ht1;have HF6:=ah jO;clear ht1 jO x0 x1 hlc)
   obtain⟨g1,g2,g3⟩:=lY w6 (.cells #[.slice p1 0 q1, .slice p2 (bF (bQ n k) ks).len q2] 28) #[.slice p3 n3 q3, .slice p4 n5 q4] 28
   have g0:=(aj.alloc aF (w6.alloc (.cells #[.slice p1 0 q1, .slice p2 (bF (bQ n k) ks).len q2] 28)) (.cells #[.slice p3 n3 q3, .slice p4 n5 q4] 28)).blk (heap_alloc_new w6 _) id
   obtain⟨q9,RI⟩:∃q9,q9=w6.heap.size:=⟨_,rfl⟩
   obtain⟨p9,kM⟩:∃p9,p9=w.heap.size+1+1:=⟨_,rfl⟩
   rw[←RI]at g0⊢
   rw[←kM]at oV⊢
   have hqp:p9<q9:=by rw[RI];have h1:=HF6.out.size;have h2:=lt_of_block oV.out;omega
   have hpw:w.heap.size≤p9:=by omega
   have hne:q9≠p9:=by omega
   have hne2:p9≠q9:=by omega
   clear RI kM g1 g3
   generalize World.alloc (World.alloc w6 _) _=W9 at*
   have qw:=ah (HF6.out.aH g2)
   have HT9:=ah (HT1.out.aS g2)
   have HX:=ah (qw.out.blk oV.out id)
   have hbc:=qw.out.blk HBC.out id
   have c2:=aG hbc 2 rfl
   have hlc:=lt_of_block hbc
   have y0:=aG g0 0 rfl
   have y1:=aG g0 1 rfl
   have zC:=lt_of_block g0
   have z0:=aG HX.out 0 rfl
   have z1:=aG HX.out 1 rfl
   have z2:=aG HX.out 2 rfl
   have f0:=aW HX.out 0
   have f1:=aW HX.out 1
   have f2:=aW HX.out 2
   have hlp:=lt_of_block HX.out
   have bH:=ah (m_ HX.out (.slice p1 0 q1) (.slice p2 (bF (bQ n k) ks).len q2) (.slice d2 n2 b2))
   have bU:=ah (mJ W9 p9 (.slice p1 0 q1) (.slice p2 (bF (bQ n k) ks).len q2) (.slice d2 n2 b2))
   have dV:=ah (lt_of_block oV.out)
   clear g0 g2 hbc
   go_wp2
   clear y0 y1 c2 z0 z1 z2 f0 f1 f2
   have z0:=aG bH.out 0 rfl
   have z1:=aG bH.out 1 rfl
   have z2:=aG bH.out 2 rfl
   have hpl:=dV.out
   refine bodyPost_ret (v:= .agg #[.slice p1 0 q1, .slice p2 (bF (bQ n k) ks).len q2, .slice d2 n2 b2]) (by simp[results,Tryz.results81,go_sem,z0,z1,z2]) rfl ⟨_,_,rfl,HT9.out.turn (Q':=fun k=>w.heap.size≤k) fun x hx hq=>⟨bU.out.block x hx (by omega),by have:=eX.out.size;omega⟩,(eX.out.aH qw.out).trans bU.out fun x hx e=>by omega⟩
theorem YM (QA:Nat→Prop) (n:Nat) (n4:n≤4) (a0 a1:Option Addr) (c0 m1 c1:Nat) (w:World) (es:List aQ) (ks:aT) (c:bD) (ev kv cv:Value) (h:dU QA w ev kv cv es ks c) (hok:iD es ks c) (k:Int) (hm:jP n es ks c k=false):
 Calls Tryz.prog 56 #[.agg #[.slice a0 n c0, .slice a1 m1 c1], .agg #[ev,kv,cv], .int .i64 k] w fun e w'=>e= .returned (.tuple #[.agg #[.slice none 0 0, .slice none 0 0, .slice none 0 0], .int .i64 1])∧aj aF w w':=by
 have HM:=ah (fun W (f:aj aF w W)=>hm▸LV QA n n4 a0 a1 c0 m1 c1 W es ks c ev kv cv (h.aS f) hok k)
 obtain⟨d0,b0,d1,b1,d2,b2,rfl,rfl,rfl⟩:=h.shape
 clear h hok hm
 generalize es.length=en at*
 generalize ks.len=km at*
 generalize c.length=cm at*
 obtain⟨hf3,hz3,hb0,hb1,hb2⟩:=oD w #[.slice a0 n c0, .slice a1 m1 c1] #[.slice d0 en b0, .slice d1 km b1, .slice d2 cm b2] #[.slice none 0 0, .slice none 0 0, .slice none 0 0] 62 32 32
 obtain⟨W3,hW3⟩:∃W3,W3=((w.alloc (.cells #[.slice a0 n c0, .slice a1 m1 c1] 62)).alloc (.cells #[.slice d0 en b0, .slice d1 km b1, .slice d2 cm b2] 32)).alloc (.cells #[.slice none 0 0, .slice none 0 0, .slice none 0 0] 32):=⟨_,rfl⟩
 rw[←hW3]at hf3 hz3 hb0 hb1 hb2
 have HW3:=ah hW3
 have HF3:=ah hf3
 have HB2:=ah hb2
 have s0:=aG hb0 0 rfl
 have s1:=aG hb0 1 rfl
 have x0:=aG hb1 0 rfl
 have x1:=aG hb1 1 rfl
 have x2:=aG hb1 2 rfl
 have hl1:=lt_of_block hb1
 clear hf3 hb0 hb1 hb2 hW3 hz3
 go_enter Tryz.func56,Tryz.ntmps56
 go_upto_region 1 with fail
 rw[←HW3.out]
 go_upto_region 2 with(go_at_call 80;refine(HM.out _ HF3.out).mono ?_;rintro e w4 ⟨rfl,hf4⟩;have dR:=ah hf4;have hbr:=hf4.blk HB2.out id;have oV:=ah hbr;clear hf4 hbr s0 s1 x0 x1 x2 hl1)
 have z0:=aG oV.out 0 rfl
 have z1:=aG oV.out 1 rfl
 have z2:=aG oV.out 2 rfl
 have f0:=aW oV.out 0
 have f1:=aW oV.out 1
 have f2:=aW oV.out 2
 have hlp:=lt_of_block oV.out
 have bH:=ah (m_ oV.out (.slice none 0 0) (.slice none 0 0) (.slice none 0 0))
 have bU:=ah (mJ w4 (w.heap.size+1+1) (.slice none 0 0) (.slice none 0 0) (.slice none 0 0))
 go_wp2
 clear z0 z1 z2 f0 f1 f2
 have z0:=aG bH.out 0 rfl
 have z1:=aG bH.out 1 rfl
 have z2:=aG bH.out 2 rfl
 refine bodyPost_ret (v:= .tuple #[.agg #[.slice none 0 0, .slice none 0 0, .slice none 0 0], .int .i64 1]) (by simp[results,Tryz.results56,go_sem,z0,z1,z2]) rfl ⟨rfl,(HF3.out.aH dR.out).trans bU.out fun x hx e=>by omega⟩
def Fq (w:World) (p:ByteArray→Bool) (ks:aT) (cv:Value) (e:Ending) (w':World):Prop:=
 ∃ev kv,e= .returned (.tuple #[.agg #[ev,kv,cv], .int .i64 0])∧bZ (fun b=>w.heap.size≤b) w' ev kv [] (bF p ks)∧aj aF w w'
theorem RJ (QA:Nat→Prop) (n:Nat) (n4:n≤4) (a0 a1:Option Addr) (c0 m1 c1:Nat) (w:World) (ks:aT) (c:bD) (ev kv cv:Value) (h:dU QA w ev kv cv [] ks c) (hg:Good (ks,c)) (k:Int) (hm:jP n [] ks c k=true):
 Calls Tryz.prog 56 #[.agg #[.slice a0 n c0, .slice a1 m1 c1], .agg #[ev,kv,cv], .int .i64 k] w (Fq w (bQ n k) ks cv):=by
 have HM:=ah (fun W (f:aj aF w W)=>hm▸LV QA n n4 a0 a1 c0 m1 c1 W [] ks c ev kv cv (h.aS f) hg.ok k)
 have hcut:=fun W (f:aj aF w W)=>RH QA n n4 a0 a1 c0 m1 c1 W ks c ev kv cv (h.aS f) hg k
 unfold Fp at hcut
 have yB:=ah hcut
 obtain⟨d0,b0,d1,b1,d2,b2,rfl,rfl,rfl⟩:=h.shape
 clear h hg hm hcut
 unfold Fq
 generalize ks.len=km at*
 generalize c.length=cm at*
 obtain⟨hf3,hz3,hb0,hb1,hb2⟩:=oD w #[.slice a0 n c0, .slice a1 m1 c1] #[.slice d0 0 b0, .slice d1 km b1, .slice d2 cm b2] #[.slice none 0 0, .slice none 0 0, .slice none 0 0] 62 32 32
 obtain⟨W3,hW3⟩:∃W3,W3=((w.alloc (.cells #[.slice a0 n c0, .slice a1 m1 c1] 62)).alloc (.cells #[.slice d0 0 b0, .slice d1 km b1, .slice d2 cm b2] 32)).alloc (.cells #[.slice none 0 0, .slice none 0 0, .slice none 0 0] 32):=⟨_,rfl⟩
 rw[←hW3]at hf3 hz3 hb0 hb1 hb2
 have HW3:=ah hW3
 have HF3:=ah hf3
 have HB0:=ah hb0
 have HB1:=ah hb1
 have HB2:=ah hb2
 have s0:=aG hb0 0 rfl
 have s1:=aG hb0 1 rfl
 have x0:=aG hb1 0 rfl
 have x1:=aG hb1 1 rfl
 have x2:=aG hb1 2 rfl
 have hl1:=lt_of_block hb1
 clear hf3 hb0 hb1 hb2 hW3 hz3
 go_enter Tryz.func56,Tryz.ntmps56
 go_upto_region 1 with fail
 rw[←HW3.out]
 go_wp2_with(first
  |(go_at_call 80;refine(HM.out _ HF3.out).mono ?_;rintro e w4 ⟨rfl,hf4⟩;have dR:=ah (HF3.out.aH hf4);have LW:=ah hf4;clear s0 s1 x0 x1 x2 hl1;have s0:=aG (hf4.blk HB0.out id) 0 rfl;have s1:=aG (hf4.blk HB0.out id) 1 rfl;have x0:=aG (hf4.blk HB1.out id) 0 rfl;have x1:=aG (hf4.blk HB1.out id) 1 rfl;have x2:=aG (hf4.blk HB1.out id) 2 rfl;have hl1:=lt_of_block (hf4.blk HB1.out id);clear hf4)
  |(go_at_call 81;refine(yB.out _ dR.out).mono ?_;rintro e w5 ⟨e5,k5,rfl,LX,hf5⟩;obtain⟨p1,q1,rfl⟩:=LX.ents.rd.sl;obtain⟨uy,kH,-⟩:=LX.kids;obtain⟨p2,q2,rfl⟩:=kH.rd.sl;have HT5:=ah LX;have iV:=ah hf5;have hbr:=hf5.blk (LW.out.blk HB2.out id) id;have oV:=ah hbr;clear s0 s1 x0 x1 x2 hl1 LX hf5 kH;have z0:=aG hbr 0 rfl;have z1:=aG hbr 1 rfl;have z2:=aG hbr 2 rfl;have f0:=aW hbr 0;have f1:=aW hbr 1;have f2:=aW hbr 2;have hlp:=lt_of_block hbr;clear hbr))
 clear z0 z1 z2 f0 f1 f2
 have bH:=ah (m_ oV.out (.slice p1 0 q1) (.slice p2 (bF (bQ n k) ks).len q2) (.slice d2 cm b2))
 have bU:=ah (mJ w5 (w.heap.size+1+1) (.slice p1 0 q1) (.slice p2 (bF (bQ n k) ks).len q2) (.slice d2 cm b2))
 have z0:=aG bH.out 0 rfl
 have z1:=aG bH.out 1 rfl
 have z2:=aG bH.out 2 rfl
 have hq:=dR.out.size
 have hq3:=LW.out.size
 have hq2:=lt_of_block HB2.out
 refine bodyPost_ret (v:= .tuple #[.agg #[.slice p1 0 q1, .slice p2 (bF (bQ n k) ks).len q2, .slice d2 cm b2], .int .i64 0]) (by simp[results,Tryz.results56,go_sem,z0,z1,z2]) rfl ⟨_,_,rfl,HT5.out.turn (Q':=fun k=>w.heap.size≤k) fun x hx hq=>⟨bU.out.block x hx (by omega),by omega⟩,(dR.out.aH iV.out).trans bU.out fun x hx e=>by omega⟩
end
open Go.RowKit
theorem agZ (k:Int) (hk:k<1∨4<k) (w:World):Calls Tryz.prog 14 #[.int .i64 k] w fun e w'=>e= .returned (.tuple #[.pointer none, .int .i64 1])∧w'=w:=by
 by_cases h1:k<1
 ·go_enter Tryz.func14,Tryz.ntmps14
  go_wp2
  go_ret2
  exact⟨rfl,rfl⟩
 ·have h2:4<k:=by omega
  have h1a:decide (k<1)=false:=by simpa using h1
  go_enter Tryz.func14,Tryz.ntmps14
  go_wp2
  go_ret2
  exact⟨rfl,rfl⟩
section
variable {L:Nat→Prop} {w:World} {b n vb:Nat} {sv:Value} {vs:List aU} {rs:List bC}
theorem YN (h:dW L w b n vb sv vs rs) (QA:Nat→Prop) (es:List aQ) (ks:aT) (c:bD) (ev kv cv:Value) (ha:dU QA w ev kv cv es ks c) (hok:iD es ks c) (k:Int) (hm:jP n es ks c k=false):
 Calls Tryz.prog 16 #[.pointer (some ⟨b,0,none⟩), .agg #[ev,kv,cv], .int .i64 k] w fun e w'=>e= .returned (.tuple #[.agg #[.slice none 0 0, .slice none 0 0, .slice none 0 0], .int .i64 1])∧aj aF w w':=by
 have HH:=ah (fun W (f:aj aF w W)=>Ey b n n (some ⟨vb,0,none⟩) k W (h.aS f).mX)
 have HR:=ah (fun W (f:aj aF w W)=>xQ QA es ks c W ev kv cv (ha.aS f) hok)
 obtain⟨d0,e0,d1,e1,d2,e2,rfl,rfl,rfl⟩:=ha.shape
 clear h ha hok
 unfold jP at hm
 generalize tf (jA es ks c)=r at*
 generalize es.length=el at*
 generalize ks.len=kl at*
 generalize c.length=cl at*
 obtain⟨hb1,hf2,-⟩:=lY w (.cells #[.slice d0 el e0, .slice d1 kl e1, .slice d2 cl e2] 32) #[.slice none 0 0, .slice none 0 0, .slice none 0 0] 32
 have hb0:=(aj.alloc aF (w.alloc (.cells #[.slice d0 el e0, .slice d1 kl e1, .slice d2 cl e2] 32)) (.cells #[.slice none 0 0, .slice none 0 0, .slice none 0 0] 32)).blk (heap_alloc_new w _) id
 obtain⟨W2,hW2⟩:∃W2,W2=(w.alloc (.cells #[.slice d0 el e0, .slice d1 kl e1, .slice d2 cl e2] 32)).alloc (.cells #[.slice none 0 0, .slice none 0 0, .slice none 0 0] 32):=⟨_,rfl⟩
 rw[←hW2]at hb0 hb1 hf2
 have HW2:=ah hW2
 have HF2:=ah hf2
 have HB0:=ah hb0
 have HB1:=ah hb1
 clear hW2 hf2 hb0 hb1
 have RN:=ah (fun W (f:aj aF W2 W)=>(show W.heap[w.heap.size+1]?=some (.cells #[.slice none 0 0, .slice none 0 0, .slice none 0 0] 32 (0,0))from f.blk HB1.out id))
 go_enter Tryz.func16,Tryz.ntmps16
 go_upto_region 1 with fail
 rw[←HW2.out]
 go_cut [23] (fun v W=>v= .bool true∧aj aF W2 W)
 case first=>
  cases hd:decide (0≤k∧k<(n:Int))with
  |false=>
   have LY:=ah (hd▸HH.out)
   clear hd hm
   go_wp2_with(go_at_call 39;refine(LY.out _ HF2.out).mono ?_;rintro e w1 ⟨rfl,rfl⟩)
   go_meet
   case rel=>exact⟨rfl,aj.refl _ _⟩
  |true=>
   have LY:=ah (hd▸HH.out)
   rw[hd,Bool.true_and]at hm
   clear hd
   have y0:=aG HB0.out 0 rfl
   have y1:=aG HB0.out 1 rfl
   have y2:=aG HB0.out 2 rfl
   have hl0:=lt_of_block HB0.out
   cases r with
   |false=>
    clear hm
    go_wp2_with(first
     |(go_at_call 39;refine(LY.out _ HF2.out).mono ?_;rintro e w1 ⟨rfl,rfl⟩)
     |(go_at_call 40;refine(HR.out _ HF2.out).mono ?_;rintro e w2 ⟨rfl,hw2⟩;have HF3:=ah hw2;clear hw2 y0 y1 y2 hl0))
    go_meet
    case rel=>exact⟨rfl,HF3.out⟩
   |true=>
    have hel:¬el=0:=by simpa using hm
    have ag0:(0:Int)<(el:Int):=by omega
    clear hm
    go_wp2_with(first
     |(go_at_call 39;refine(LY.out _ HF2.out).mono ?_;rintro e w1 ⟨rfl,rfl⟩)
     |(go_at_call 40;refine(HR.out _ HF2.out).mono ?_;rintro e w2 ⟨rfl,hw2⟩;have HF3:=ah hw2;clear y0 y1 y2 hl0;have y0:=aG (hw2.blk HB0.out id) 0 rfl;have hl0:=lt_of_block (hw2.blk HB0.out id);clear hw2))
    go_meet
    case rel=>exact⟨by rw[decide_eq_true (show 0<el by omega)],HF3.out⟩
 case rest=>
  obtain⟨rfl,hfr⟩:=hcut
  obtain⟨W5,rfl⟩:∃W5,W5=wc:=⟨_,rfl⟩
  have hx:=RN.out _ hfr
  have x0:=aG hx 0 rfl
  have x1:=aG hx 1 rfl
  have x2:=aG hx 2 rfl
  have f0:=aW hx 0
  have f1:=aW hx 1
  have f2:=aW hx 2
  have hlx:=lt_of_block hx
  have bH:=ah (m_ hx (.slice none 0 0) (.slice none 0 0) (.slice none 0 0))
  have bU:=ah (mJ W5 (w.heap.size+1) (.slice none 0 0) (.slice none 0 0) (.slice none 0 0))
  have iV:=ah (HF2.out.aH hfr)
  clear hx hfr
  go_wp2
  clear x0 x1 x2 f0 f1 f2
  have z0:=aG bH.out 0 rfl
  have z1:=aG bH.out 1 rfl
  have z2:=aG bH.out 2 rfl
  refine bodyPost_ret (v:= .tuple #[.agg #[.slice none 0 0, .slice none 0 0, .slice none 0 0], .int .i64 1]) (by simp[results,Tryz.results16,go_sem,z0,z1,z2]) rfl ⟨rfl,iV.out.trans bU.out fun y hy e=>by omega⟩
theorem YO (h:dW L w b n vb sv vs rs) (k:Int) (hk:¬(0≤k∧k<(n:Int))):
 Calls Tryz.prog 53 #[.pointer (some ⟨b,0,none⟩), .int .i64 k] w fun e w'=>e= .returned (.agg #[.slice none 0 0, .slice none 0 0, .slice none 0 0])∧aj aF w w':=by
 have HH:=ah (fun W (f:aj aF w W)=>decide_eq_false hk▸Ey b n n (some ⟨vb,0,none⟩) k W (h.aS f).mX)
 clear h hk
 have HB:=ah (heap_alloc_new w (.cells #[.slice none 0 0, .slice none 0 0, .slice none 0 0] 32))
 have HF:=ah (aj.alloc aF w (.cells #[.slice none 0 0, .slice none 0 0, .slice none 0 0] 32))
 have bH:=ah (m_ HB.out (.slice none 0 0) (.slice none 0 0) (.slice none 0 0))
 have bU:=ah (mJ (w.alloc (.cells #[.slice none 0 0, .slice none 0 0, .slice none 0 0] 32)) w.heap.size (.slice none 0 0) (.slice none 0 0) (.slice none 0 0))
 go_enter Tryz.func53,Tryz.ntmps53
 go_wp2_with(go_at_call 39;refine(HH.out _ HF.out).mono ?_;rintro e w1 ⟨rfl,rfl⟩)
 have z0:=aG HB.out 0 rfl
 have z1:=aG HB.out 1 rfl
 have z2:=aG HB.out 2 rfl
 refine bodyPost_ret (v:= .agg #[.slice none 0 0, .slice none 0 0, .slice none 0 0]) (by simp[results,Tryz.results53,go_sem,z0,z1,z2]) rfl ⟨rfl,HF.out⟩
end
end Go.Proofs.YtlhmbkjdfjoilaaGreat
