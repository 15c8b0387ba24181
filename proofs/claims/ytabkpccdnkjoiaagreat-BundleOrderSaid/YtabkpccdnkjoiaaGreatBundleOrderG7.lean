/- Words for the law BundleOrder: R7e, Tree, BunLaw, Size, SOf, COf. -/
import Derived.Test.YtabkpccdnkjoiaaGreatBundleOrderG0
import Derived.Test.YtabkpccdnkjoiaaGreatBundleOrderG3
import Derived.Test.YtabkpccdnkjoiaaGreatBundleOrderG4
import Derived.Test.YtabkpccdnkjoiaaGreatBundleOrderG6
set_option linter.unusedSimpArgs false
set_option linter.unusedVariables false
set_option maxHeartbeats 32000000
set_option maxRecDepth 1000000
namespace Go.Proofs.YtabkpccdnkjoiaaGreat
open Go.RowKit
def numsL (l:aQ) (d:Int):List Int:=(l.filter fun r=>r.1==d).map (·.2)
theorem FW {l:aQ} {k:Nat} (d:Int) (hk:k<l.length):numsL (l.take (k+1)) d=numsL (l.take k) d++(if(l.getD k (0,0)).1=d then [(l.getD k (0,0)).2]else []):=by
 rw[take_succ (0,0) hk]
 unfold numsL
 rw[List.filter_append,List.map_append]
 congr 1
 generalize l.getD k (0,0)=r
 by_cases h:r.1=d
 ·rw[if_pos h,List.filter_cons_of_pos (by simpa using h)];rfl
 ·rw[if_neg h,List.filter_cons_of_neg (by simpa using h)];rfl
theorem yA {l:aQ} {d n:Int}:n∈numsL l d↔(d,n)∈l:=by
 unfold numsL
 simp only[List.mem_map,List.mem_filter]
 constructor
 ·rintro⟨r,⟨hr,he⟩,rfl⟩
  have:r.1=d:=by simpa using he
  subst this
  exact hr
 ·intro h
  exact⟨(d,n),⟨h,by simp⟩,rfl⟩
theorem A_ (l:aQ) (d:Int):(numsL l d).length≤l.length:=by
 unfold numsL;rw[List.length_map];exact List.length_filter_le _ _
def oG (l:aQ):Prop:=∀r∈l,0≤r.1∧r.1<4∧1≤r.2∧r.2≤1099511627776
def Ba (l:aQ) (d:Int) (o:aQ):Prop:=bG o∧∀n,aV o n↔(d,n)∈l
theorem g_.Bc {l:aQ} {c:aU} (h:g_ (Ba l) 4 c):ku l c:=
 ⟨⟨h.rise,fun d h0 h4=>(h.parts d h0 h4).1⟩,fun d n h0 h4=>(h.parts d h0 h4).2 n⟩
theorem qA.MP {l:aQ} (hl:oG l) {d:Int} {o:aQ} (h:qA (numsL l d) o none):Ba l d o:=by
 have hm:∀n,aV o n↔(d,n)∈l:=fun n=>by
  rw[h.none_ rfl n,yA]
  exact⟨fun h=>h.2,fun h=>⟨by have:=hl _ h;show 0<n;have:1≤n:=this.2.2.1;omega,h⟩⟩
 exact⟨bG.of h.from_ fun n hn=>(hl _ ((hm n).1 hn)).2.2.2,hm⟩
theorem MQ {l:aQ} (hl:oG l) (d:Int):∀x∈numsL l d,1≤x∧x≤1099511627777:=fun x hx=>by
 have:=hl _ (yA.1 hx)
 have h1:1≤x:=this.2.2.1
 have h2:x≤1099511627776:=this.2.2.2
 omega
theorem Bf {c:aU} {k:Nat} {d:Int} {l o:aQ} (h:c.length≤10000*k) (hk:k≤4) (hl:o.length≤10000):(c++cO d o).length≤10000*(k+1)∧c.length+o.length≤1000000:=by
 rw[List.length_append,pI];omega
theorem MR (w:World) (v:Value) (l:aQ) (hv:f_ w v l) (hd:oG l) (hl:l.length≤10000):
 Calls Tryz.prog 153 #[v] w fun e w'=>∃v' c,e= .returned v'∧OwnAt w w' 144 3 v' c.length (bT c)∧ku l c∧c.length≤40000:=by
 obtain⟨i0,hi,hz0,hz1,hz2⟩:=info_parts qE
 obtain⟨j0,hji,hy0,hy1,hy2⟩:=info_parts rW
 obtain⟨aA,cA,rfl⟩:=hv.sl
 have HH:=ah hv;clear hv
 have HD:=ah hd;clear hd
 have HL:=ah hl;clear hl
 generalize hn:l.length=n at*
 have HN:=ah hn;clear hn
 go_enter Tryz.func153,Tryz.ntmps153
 go_wp2
 go_loopw [3,7] (fun v i ww=>∃(k:Nat) (c:aU),k≤4∧i= .int .i64 k∧OwnAt w ww 144 3 v c.length (bT c)∧g_ (Ba l) k c∧c.length≤10000*k) (fun _ i _=>4-(intOf i).toNat)
 case atStart=>exact⟨0,[],by omega,rfl,OwnAt.nil (aj.refl _ _) _ _,g_.zero _,Nat.zero_le _⟩
 case round=>
  obtain⟨k,c,hk,rfl,ho,hu,hlen⟩:=hrel
  obtain⟨av,cv,rfl⟩:=ho.shape
  have HO:=ah ho;clear ho
  have HU:=ah hu;clear hu
  have HLEN:=ah hlen;clear hlen
  by_cases hlt:k<4
  ·have hki:(k:Int)<4:=by omega
   have hkd:decide ((k:Int)<4)=true:=by simpa using hki
   go_wp2
   go_loopw [5,12] (fun v i ww=>∃(j m:Nat),j≤n∧m≤j∧i= .int .i64 j∧m=(numsL (l.take j) k).length∧OwnAt wr ww 2 1 v m (jJ (numsL (l.take j) k))) (fun _ i _=>n-(intOf i).toNat)
   case atStart=>exact⟨0,0,Nat.zero_le _,Nat.le_refl _,rfl,rfl,OwnAt.nil (aj.refl _ _) _ _⟩
   case round=>
    obtain⟨j,m,hj,hmj,rfl,hm,hoi⟩:=hrel
    obtain⟨ai,ci,rfl⟩:=hoi.shape
    have qI:=ah hoi;clear hoi
    have HM:=ah hm;clear hm
    have uS:=ah hmj;clear hmj
    by_cases hjl:j<n
    ·rcases Rd.shape HH.out with⟨ad,he,h0⟩|⟨b,off,cc,he,hmax⟩
     ·exfalso;have:=HN.out;omega
     ·injection he with e1 e2 e3
      subst e1 e3
      clear e2
      rw[HN.out]at hmax
      obtain⟨p0,p1⟩:=kN HH.out HN.out.symm j (by rw[HN.out];exact hjl)
      have q0:=qI.out.aH.cell' (HO.out.aH.cell' p0 id) id
      have q1:=qI.out.aH.cell' (HO.out.aH.cell' p1 id) id
      have hE:=FW (l:=l) (k:=j) k (by rw[HN.out];exact hjl)
      generalize l.getD j (0,0)=s at*
      clear p0 p1
      by_cases he:s.1=k
      ·rw[if_pos he]at hE
       have he':((s.1:Int)==(k:Int))=true:=by simp[he]
       have HE:=ah hE;clear hE
       clear he
       go_wp2_with(at_builtin;refine jg _ _ [.int .i64 s.2] rfl (.tmp 22) (.tmp 28) 252 rfl 2 j0 _ 1 8 Tryz.underlying252 hji hy0 hy1 hy2 (by decide) (by decide) _ _ _ qI.out 1 1 rfl rfl rfl (by simp[Value.oneCell']) (by have:=HL.out;have:=uS.out;simp only[maxLen];omega) (by have:=HL.out;have:=uS.out;omega) ?_;intro ad iP w2 bC;have OW:=ah bC;clear bC)
       go_roundw
       case rel=>
        refine⟨j+1,m+1,by omega,by have:=uS.out;omega,by go_num,by rw[HE.out,List.length_append,←HM.out];rfl,?_⟩
        rw[HE.out,xH]
        exact OW.out
       case measure=>simp[intOf];omega
      ·rw[if_neg he,List.append_nil]at hE
       have he':((s.1:Int)==(k:Int))=false:=by simpa using he
       have HE:=ah hE;clear hE
       clear he
       go_wp2
       go_roundw
       case rel=>exact⟨j+1,m,by omega,by have:=uS.out;omega,by go_num,by rw[HE.out];exact HM.out,by rw[HE.out];exact qI.out⟩
       case measure=>simp[intOf];omega
    ·obtain rfl:j=n:=by omega
     rw[List.take_of_length_le (by rw[HN.out];exact Nat.le_refl _)]at qI HM
     have hob:=qI.out.rd
     rw[HM.out]at hob
     have mg:=ah hob;clear hob
     have MS:=ah (HO.out.keep qI.out.aH)
     have hlm:m≤10000:=Nat.le_trans uS.out HL.out
     have FX:=ah (HM.out▸hlm:(numsL l k).length≤10000)
     clear hlm
     rw[HM.out]
     go_wp2_with(first
      |(go_at_call 194;refine(KD _ _ (numsL l k) mg.out (Nat.le_trans FX.out (by decide)) (MQ HD.out k)).mono ?_;rintro e w3 ⟨v3,o,rfl,ho3,hof,hol⟩;obtain⟨a3,c3,rfl⟩:=ho3.shape;have bI:=ah ho3;clear ho3;have eX:=ah hof;clear hof;have HOL:=ah (Nat.le_trans hol FX.out);clear hol)
      |(go_at_call 151;refine(EU _ _ o k bI.out.rd (Nat.le_trans HOL.out (by decide))).mono ?_;rintro e w4 ⟨v4,rfl,dh⟩;obtain⟨a4,c4,rfl⟩:=dh.shape;have iD:=ah dh;clear dh;have HKK:=ah (MS.out.keep (bI.out.aH.ay iD.out.aH)))
      |(at_builtin;refine lq w _ _ rfl (.tmp 31) (.tmp 35) 32 32 rfl 144 144 i0 _ 3 24 Tryz.underlying32 Tryz.underlying32 hi hz0 hz1 hz2 (by decide) (by decide) _ _ _ HKK.out _ o.length rfl rfl iD.out.rd (by rw[xI,pI]) (zZ _) (by have:=(Bf (d:=k) (l:=[]) HLEN.out (Nat.le_of_lt hlt) HOL.out).2;simp only[maxLen];omega) (by have:=(Bf (d:=k) (l:=[]) HLEN.out (Nat.le_of_lt hlt) HOL.out).2;omega) ?_;intro ad cc w5 dF;have OW:=ah dF;clear dF))
     go_roundw
     case rel=>
      refine⟨k+1,c++cO k o,by omega,by go_num,?_,?_,(Bf (l:=[]) HLEN.out (Nat.le_of_lt hlt) HOL.out).1⟩
      ·rw[List.length_append,pI,rV];exact OW.out
      ·exact HU.out.step (by omega) (by omega) (eX.out.MP HD.out)
     case measure=>simp[intOf];omega
  ·obtain rfl:k=4:=by omega
   go_wp2
   go_ret
   exact⟨_,c,rfl,HO.out,HU.out.Bc,HLEN.out⟩
open Go.RowKit
structure aG where
 dc:Int
 n:Int
 s:ByteArray
 k:Int
inductive aI where
 |nil:aI
 |cons (key:ByteArray) (es:List aG) (sub rest:aI):aI
def aI.len:aI→Nat
 | .nil=>0
 | .cons _ _ _ rest=>rest.len+1
def aG.zero:aG:=⟨0,0,ByteArray.empty,0⟩
def aG.cells (e:aG):List Value:=[.int .i64 e.dc, .int .i64 e.n, .string e.s, .int .i64 e.k]
def eY (es:List aG):List Value:=es.flatMap aG.cells
theorem FY (e:aG) (es:List aG):eY (e::es)= .int .i64 e.dc:: .int .i64 e.n:: .string e.s:: .int .i64 e.k::eY es:=rfl
theorem Bg (a b:List aG):eY (a++b)=eY a++eY b:=by simp[eY]
theorem FZ:∀es:List aG,(eY es).length=es.length*4
 |[]=>rfl
 |e::es=>by rw[FY];simp only[List.length_cons,FZ es];omega
theorem MV (es:List aG):∀v∈eY es,v.oneCell'=true:=by
 intro v hv
 simp only[eY,List.mem_flatMap]at hv
 obtain⟨r,_,hv⟩:=hv
 simp[aG.cells]at hv
 rcases hv with rfl|rfl|rfl|rfl<;>rfl
theorem Gf:∀(es:List aG) (k:Nat),k<es.length→(eY es)[k*4]?=some (.int .i64 (es.getD k aG.zero).dc)∧(eY es)[k*4+1]?=some (.int .i64 (es.getD k aG.zero).n)∧
 (eY es)[k*4+2]?=some (.string (es.getD k aG.zero).s)∧(eY es)[k*4+3]?=some (.int .i64 (es.getD k aG.zero).k)
 |[],_,h=>by cases h
 |e::es,0,_=>⟨rfl,rfl,rfl,rfl⟩
 |e::es,k+1,h=>by
  obtain⟨h1,h2,h3,h4⟩:=Gf es k (by simpa using h)
  rw[FY,show(k+1)*4=k*4+1+1+1+1 by omega,show k*4+1+1+1+1+1=(k*4+1)+1+1+1+1 by omega,show k*4+1+1+1+1+2=(k*4+2)+1+1+1+1 by omega,show k*4+1+1+1+1+3=(k*4+3)+1+1+1+1 by omega]
  exact⟨h1,h2,h3,h4⟩
def fM:aI→List (Value×Value)→List Value
 | .cons key _ _ rest,o::outs=> .string key::o.1::o.2::fM rest outs
 |_,_=> []
structure jA (Q:Nat→Prop) (w:World) (v:Value) (n:Nat) (xs:List Value):Prop where
 rd:Rd w v n xs
 q:xs≠ []→∀k,v.ownBlock=some k→Q k
theorem jA.keep {Q S:Nat→Prop} {w w':World} {v:Value} {n:Nat} {xs:List Value} (h:jA Q w v n xs) (f:aj S w w') (hs:∀k,k<w.heap.size→S k→¬Q k):jA Q w' v n xs:=by
 refine⟨?_,h.q⟩
 rcases h.rd with h1|⟨b,off,c,rfl,h1,h2,h3⟩
 ·exact .inl h1
 ·refine .inr ⟨b,off,c,rfl,h1,h2,fun j u hu=>f.cell' (h3 j u hu) fun s=>?_⟩
  have hlt:b<w.heap.size:=World.block_lt_of_cell? _ _ (h3 j u hu)
  exact hs b hlt s (h.q (fun e=>by rw[e]at hu;simp at hu) b rfl)
def gu (Q:Nat→Prop) (w:World):aI→List (Value×Value)→Prop
 | .nil,outs=>outs=[]
 | .cons _ es sub rest,outs=>∃ev kv lC os,outs=(ev,kv)::lC∧jA Q w ev es.length (eY es)∧jA Q w kv sub.len (fM sub os)∧gu Q w sub os∧gu Q w rest lC
structure bJ (Q:Nat→Prop) (w:World) (ev kv:Value) (es:List aG) (ks:aI):Prop where
 ents:jA Q w ev es.length (eY es)
 kids:∃os,jA Q w kv ks.len (fM ks os)∧gu Q w ks os
theorem gu.keep {Q S:Nat→Prop} {w w':World} (f:aj S w w') (hs:∀k,k<w.heap.size→S k→¬Q k):∀ {ks:aI} {os:List (Value×Value)},gu Q w ks os→gu Q w' ks os
 | .nil,_,h=>h
 | .cons _ _ _ _,_,⟨ev,kv,lC,os,h1,h2,h3,h4,h5⟩=>⟨ev,kv,lC,os,h1,h2.keep f hs,h3.keep f hs,h4.keep f hs,h5.keep f hs⟩
theorem bJ.keep {Q S:Nat→Prop} {w w':World} {ev kv:Value} {es:List aG} {ks:aI} (h:bJ Q w ev kv es ks) (f:aj S w w') (hs:∀k,k<w.heap.size→S k→¬Q k):bJ Q w' ev kv es ks:=
 ⟨h.ents.keep f hs,let⟨os,h1,h2⟩:=h.kids;⟨os,h1.keep f hs,h2.keep f hs⟩⟩
theorem bJ.aP {Q:Nat→Prop} {w w':World} {ev kv:Value} {es:List aG} {ks:aI} (h:bJ Q w ev kv es ks) (f:aj au w w'):bJ Q w' ev kv es ks:=h.keep f fun _ _ s=>s.elim
theorem gu.aP {Q:Nat→Prop} {w w':World} {ks:aI} {os:List (Value×Value)} (h:gu Q w ks os) (f:aj au w w'):gu Q w' ks os:=h.keep f fun _ _ s=>s.elim
theorem gu.length {Q:Nat→Prop} {w:World}:∀ {ks:aI} {os:List (Value×Value)},gu Q w ks os→(fM ks os).length=ks.len*3
 | .nil,_,h=>by cases h;rfl
 | .cons _ _ _ _,_,⟨ev,kv,lC,os,h1,_,_,_,h5⟩=>by
   subst h1
   have:=h5.length
   show(_::_::_::fM _ lC).length=_
   simp only[List.length_cons,this,aI.len]
   omega
def aI.drop:Nat→aI→aI
 |0,ks=>ks
 |_+1, .nil=> .nil
 |n+1, .cons _ _ _ rest=>rest.drop n
theorem gu.drop {Q:Nat→Prop} {w:World}:∀(n:Nat) {ks:aI} {os:List (Value×Value)},gu Q w ks os→∃os',gu Q w (ks.drop n) os'∧(fM ks os).drop (n*3)=fM (ks.drop n) os'
 |0,ks,os,h=>⟨os,h,by simp[aI.drop]⟩
 |n+1, .nil,os,h=>by cases h;exact⟨[],rfl,by simp[fM,aI.drop]⟩
 |n+1, .cons key es sub rest,_,⟨ev,kv,lC,os,h1,_,_,_,h5⟩=>by
  subst h1
  obtain⟨os',h6,h7⟩:=gu.drop n h5
  refine⟨os',h6,?_⟩
  show(_::_::_::fM rest lC).drop ((n+1)*3)=_
  rw[show(n+1)*3=n*3+1+1+1 by omega]
  exact h7
theorem aI.yB:∀(n:Nat) (ks:aI),(ks.drop n).len=ks.len-n
 |0,ks=>by simp[aI.drop]
 |n+1, .nil=>by simp[aI.drop,aI.len]
 |n+1, .cons _ _ _ rest=>by
  show(rest.drop n).len=rest.len+1-(n+1)
  rw[aI.yB n rest];omega
theorem aI.pU:∀(n:Nat) (ks:aI) {key:ByteArray} {es:List aG} {sub rest:aI},ks.drop n= .cons key es sub rest→ks.drop (n+1)=rest
 |0, .cons _ _ _ _,_,_,_,_,h=>by cases h;rfl
 |0, .nil,_,_,_,_,h=>by cases h
 |n+1, .nil,_,_,_,_,h=>by cases h
 |n+1, .cons _ _ _ r,_,_,_,_,h=>aI.pU n r h
theorem aI.nI {n:Nat} {ks:aI} (h:n<ks.len):∃key es sub rest,ks.drop n= .cons key es sub rest:=by
 have hl:=aI.yB n ks
 cases hd:ks.drop n with
 |nil=>rw[hd]at hl;simp[aI.len]at hl;omega
 |cons key es sub rest=>exact⟨_,_,_,_,rfl⟩
theorem aI.pV {n:Nat} {ks:aI} (h:ks.len≤n):ks.drop n= .nil:=by
 have hl:=aI.yB n ks
 cases hd:ks.drop n with
 |nil=>rfl
 |cons key es sub rest=>rw[hd]at hl;simp[aI.len]at hl;omega
theorem lS {Q:Nat→Prop} {w:World} {b off c m:Nat} {ks:aI} {os:List (Value×Value)} (h:Rd w (.slice (some ⟨b,off,none⟩) m c) m (fM ks os)) (hf:gu Q w ks os) {n:Nat} {key:ByteArray} {es:List aG} {sub rest:aI} (hd:ks.drop n= .cons key es sub rest):
 ∃ev kv,w.cell? ⟨b,off+n*3,none⟩=some (.string key)∧w.cell? ⟨b,off+n*3+1,none⟩=some ev∧w.cell? ⟨b,off+n*3+2,none⟩=some kv∧bJ Q w ev kv es sub:=by
 obtain⟨os',h1,h2⟩:=hf.drop n
 rw[hd]at h1 h2
 obtain⟨ev,kv,lC,os2,rfl,g2,g3,g4,_⟩:=h1
 have sJ:∀j u,(fM (.cons key es sub rest) ((ev,kv)::lC))[j]?=some u→w.cell? ⟨b,off+n*3+j,none⟩=some u:=fun j u hu=>by
  rw[←h2,List.getElem?_drop]at hu
  have:=h.cell _ u hu
  rwa [←Nat.add_assoc]at this
 exact⟨ev,kv,sJ 0 _ rfl,sJ 1 _ rfl,sJ 2 _ rfl,g2,os2,g3,g4⟩
theorem nJ {w:World} {b off c n:Nat} {es:List aG} (h:Rd w (.slice (some ⟨b,off,none⟩) n c) n (eY es)) (k:Nat) (hk:k<es.length):
 w.cell? ⟨b,off+k*4,none⟩=some (.int .i64 (es.getD k aG.zero).dc)∧w.cell? ⟨b,off+k*4+1,none⟩=some (.int .i64 (es.getD k aG.zero).n)∧w.cell? ⟨b,off+k*4+2,none⟩=some (.string (es.getD k aG.zero).s)∧w.cell? ⟨b,off+k*4+3,none⟩=some (.int .i64 (es.getD k aG.zero).k):=by
 obtain⟨h1,h2,h3,h4⟩:=Gf es k hk
 exact⟨h.cell _ _ h1,h.cell (k*4+1) _ h2,h.cell (k*4+2) _ h3,h.cell (k*4+3) _ h4⟩
def aG.fits (e:aG):Prop:=(-9223372036854775808≤e.dc∧e.dc≤9223372036854775807)∧(-9223372036854775808≤e.n∧e.n≤9223372036854775807)∧(-9223372036854775808≤e.k∧e.k≤9223372036854775807)∧e.s.size≤9223372036854775807
structure sK (es:List aG):Prop where
 len:es.length≤140737488351232
 fits:∀e∈es,e.fits
def aI.Ok:aI→Prop
 | .nil=>True
 | .cons key es sub rest=>key.size≤9223372036854775807∧sK es∧sub.len≤140737488351232∧sub.Ok∧rest.Ok
theorem aI.Ok.drop:∀(n:Nat) {ks:aI},ks.Ok→(ks.drop n).Ok
 |0,_,h=>h
 |_+1, .nil,_=>trivial
 |n+1, .cons _ _ _ _,h=>aI.Ok.drop n h.2.2.2.2
structure gG (es:List aG) (ks:aI):Prop where
 es:sK es
 len:ks.len≤140737488351232
 ks:ks.Ok
def dJ (e:aG):Bool:=iO e.dc e.n&&decide (e.s.size≤30∧e.k≤1099511627776∧-1099511627776≤e.k)
def mJ:Option aG→aG→Bool
 |none,_=>true
 |some p,e=>lJ p.dc p.n e.dc e.n
def dO:Option aG→List aG→Bool
 |_,[]=>true
 |p,e::l=>dJ e&&mJ p e&&dO (some e) l
def dW (a b:ByteArray):Bool:=Op.bytesLess a.toList b.toList
def ltK:Option ByteArray→ByteArray→Bool
 |none,_=>true
 |some p,s=>dW p s
def isNil (es:List aG) (ks:aI):Bool:=decide (es.length=0∧ks.len=0)
def gI:aI→Nat→Option ByteArray→Bool
 | .nil,_,_=>true
 | .cons key es sub rest,d,p=>kC key&&ltK p key&& !isNil es sub&&(decide (1≤d)&&dO none es&&gI sub (d-1) none)&&gI rest d (some key)
def aX (d:Nat) (es:List aG) (ks:aI):Bool:=decide (1≤d)&&dO none es&&gI ks (d-1) none
theorem qJ (key:ByteArray) (es:List aG) (sub rest:aI) (d:Nat) (p:Option ByteArray):gI (.cons key es sub rest) d p=(kC key&&ltK p key&& !isNil es sub&&aX d es sub&&gI rest d (some key)):=rfl
def jT (es:List aG):aQ:=es.map fun e=>(e.dc,e.n)
def iE:aI→aQ
 | .nil=> []
 | .cons _ es sub rest=>jT es++iE sub++iE rest
def bU (es:List aG) (ks:aI):aQ:=jT es++iE ks
def dX:aI→Nat
 | .nil=>0
 | .cons _ es sub rest=>1+es.length+dX sub+dX rest
def sizeT (es:List aG) (ks:aI):Nat:=es.length+dX ks
end Go.Proofs.YtabkpccdnkjoiaaGreat
namespace Go.Proofs.YtabkpccdnkjoiaaGreat
def dA (f:Int→Int) (d x:Int):Int→Int:=fun e=>if e=d then x else f e
def jl (dc af la:Int) (f:Int→Int):Prop:=0≤dc∧dc<4∧0≤af∧af<la∧la≤1099511627776∧f dc≤af∧jO f
def mM (l:aQ) (c:aU):Prop:=∀r∈l,fC c r.1 r.2
theorem ku.leq {l:aQ} {c d:aU} (hd:oG l) (h:ku l d):fK d c↔mM l c:=by
 constructor
 ·intro hl r hr
  obtain⟨h0,h4,_⟩:=hd r hr
  exact hl r.1 r.2 h0 h4 ((h.mem r.1 r.2 h0 h4).2 hr)
 ·intro hl e n h0 h4 hi
  exact hl (e,n) ((h.mem e n h0 h4).1 hi)
theorem bH.ge {c:aU} (h:bH c) {d n:Int} (h0:0≤d) (h4:d<4) (hi:fC c d n):1≤n∧n≤1099511627776:=(h.2 d h0 h4).xu hi
theorem MW {dc af la:Int} {f:Int→Int} {c o:aU} (hn:jl dc af la f) (hc:bH c) (hb:fU 2 c [(dc,af+1,la)] o):
 fK c (eH (dA f dc la))↔fK o (eH (dA f dc af)):=by
 obtain⟨h1,h2,h3,h4,h5,h6,h7⟩:=hn
 have hm:∀d n,0≤d→d<4→(fC o d n↔fC c d n∧¬(d=dc∧af+1≤n∧n≤la)):=fun d n h0 h4=>by
  rw[hb.mem d n h0 h4,rU]
  unfold cZ
  rw[if_pos rfl]
 constructor
 ·intro hl d n h0 h4 hi
  obtain⟨hi1,hi2⟩:=(hm d n h0 h4).1 hi
  have:=(uD _ n h0 h4).1 (hl d n h0 h4 hi1)
  rw[uD _ n h0 h4]
  unfold dA at this⊢
  by_cases he:d=dc
  ·rw[if_pos he]at this⊢
   refine⟨this.1,?_⟩
   by_cases hg:af+1≤n
   ·exact absurd ⟨he,hg,this.2⟩ hi2
   ·omega
  ·rw[if_neg he]at this⊢
   exact this
 ·intro hl d n h0 h4 hi
  rw[uD _ n h0 h4]
  have h1n:=(hc.ge h0 h4 hi).1
  by_cases he:d=dc∧af+1≤n∧n≤la
  ·unfold dA;rw[if_pos he.1];exact⟨h1n,he.2.2⟩
  ·have:=(uD _ n h0 h4).1 (hl d n h0 h4 ((hm d n h0 h4).2 ⟨hi,he⟩))
   unfold dA at this⊢
   by_cases hd:d=dc
   ·rw[if_pos hd]at this⊢;omega
   ·rw[if_neg hd]at this⊢;exact this
structure fO (dc af la:Int) (f:Int→Int) (es:List aG) (ks:aI) (c:aU):Prop where
 nums:jl dc af la f
 tree:aX 5 es ks=true
 ctx:bH c
 dots:mM (bU es ks) c
 bare:es=[]
 mine:mM (bU es ks) [(dc,af+1,la)]
 own:fK [(dc,af+1,la)] c
 may:fK c (eH (dA f dc la))
theorem Bh:∀ {l:List aG} {p:Option aG},dO p l=true→oG (jT l)
 |[],_,_=>fun r hr=>by cases hr
 |e::l,p,h=>by
  have h:(dJ e&&mJ p e&&dO (some e) l)=true:=h
  simp only[Bool.and_eq_true]at h
  intro r hr
  rcases List.mem_cons.1 hr with rfl|hr
  ·have:=h.1.1
   unfold dJ iO at this
   simp at this
   exact this.1
  ·exact Bh h.2 r hr
theorem Bj:∀ {ks:aI} {d:Nat} {p:Option ByteArray},gI ks d p=true→oG (iE ks)
 | .nil,_,_,_=>fun r hr=>by cases hr
 | .cons key es sub rest,d,p,h=>by
   rw[qJ]at h
   unfold aX at h
   simp only[Bool.and_eq_true]at h
   intro r hr
   have hr:r∈jT es++iE sub++iE rest:=hr
   rcases List.mem_append.1 hr with hr|hr
   ·rcases List.mem_append.1 hr with hr|hr
    ·exact Bh h.1.2.1.2 r hr
    ·exact Bj h.1.2.2 r hr
   ·exact Bj h.2 r hr
theorem uT {d:Nat} {es:List aG} {ks:aI} (h:aX d es ks=true):oG (bU es ks):=by
 unfold aX at h
 simp only[Bool.and_eq_true]at h
 intro r hr
 rcases List.mem_append.1 hr with hr|hr
 ·exact Bh h.1.2 r hr
 ·exact Bj h.2 r hr
theorem Bl (es:List aG):(jT es).length=es.length:=by simp[jT]
theorem Bo:∀ks:aI,(iE ks).length≤dX ks
 | .nil=>Nat.le_refl _
 | .cons _ es sub rest=>by
   have h1:=Bo sub
   have h2:=Bo rest
   show(jT es++iE sub++iE rest).length≤1+es.length+dX sub+dX rest
   rw[List.length_append,List.length_append,Bl]
   omega
theorem uU (es:List aG) (ks:aI):(bU es ks).length≤sizeT es ks:=by
 have:=Bo ks
 unfold bU sizeT
 rw[List.length_append,Bl]
 omega
end Go.Proofs.YtabkpccdnkjoiaaGreat
namespace Go.Proofs.YtabkpccdnkjoiaaGreat
theorem MX (p:Int→aQ):(gZ p).length=(p 0).length+((p 1).length+((p 2).length+(p 3).length)):=by simp[gZ,cO]
theorem bH.length {c:aU} (h:bH c) {n:Nat} (hp:∀d,0≤d→d<4→(aZ c d).length≤n):c.length≤4*n:=by
 have e:=congrArg List.length (pz (Int.le_refl 0) h.1)
 rw[MX]at e
 have h0:=hp 0 (by decide) (by decide)
 have h1:=hp 1 (by decide) (by decide)
 have h2:=hp 2 (by decide) (by decide)
 have h3:=hp 3 (by decide) (by decide)
 omega
theorem ku.length {l:aQ} {c:aU} (h:ku l c):c.length≤4*l.length:=by
 refine h.right.length fun d h0 h4=>?_
 have hr:=(h.right.2 d h0 h4).1
 have hn:=yw hr
 have hs:∀x∈(aZ c d).map (·.1),x∈l.map (·.2):=fun x hx=>by
  obtain⟨r,hr1,rfl⟩:=List.mem_map.1 hx
  have hi:fC c d r.1:=⟨r,hr1,Int.le_refl _,(iI hr r hr1).2⟩
  exact List.mem_map.2 ⟨_,(h.mem d r.1 h0 h4).1 hi,rfl⟩
 have:=yu hn hs
 simpa using this
theorem fU.Bq {a b c:aU} (h:fU 2 a b c) (ra:bH a) (rb:bH b):c.length≤4*(a.length+b.length):=by
 refine h.right.length fun d h0 h4=>?_
 have pa:=ra.2 d h0 h4
 have pb:=rb.2 d h0 h4
 have e:aZ c d=kL (aZ a d) (aZ b d):=by
  refine zM (h.right.2 d h0 h4).1 (wW _ _ _ _ pa.1 pb.1) fun n=>?_
  rw[wX _ _ _ _ pb.1]
  have:=h.mem d n h0 h4
  unfold cZ fC at this
  simpa using this
 rw[e]
 have:=FN pa pb
 have h1:=pG a d
 have h2:=pG b d
 omega
theorem bH.fits {c:aU} (h:bH c):gB c:=fun s hs=>by
 have hd:∀ {c:aU} {lo:Int},dU lo c→∀s∈c,lo≤s.1∧s.1<4:=by
  intro c
  induction c with
  |nil=>intro lo _ s hs;cases hs
  |cons x c ih=>
   intro lo h s hs
   rcases List.mem_cons.1 hs with rfl|hs
   ·exact⟨h.1,h.2.1⟩
   ·have:=ih h.2.2 s hs
    have:=h.1
    omega
 have h1:=hd h.1 s hs
 have h2:=(h.2 s.1 h1.1 h1.2)
 have hm:s.2∈aZ c s.1:=by
  unfold aZ
  exact List.mem_map.2 ⟨s,List.mem_filter.2 ⟨hs,by simp⟩,rfl⟩
 have h3:=iI h2.1 s.2 hm
 have h4:=h2.2 s.2 hm
 omega
end Go.Proofs.YtabkpccdnkjoiaaGreat
namespace Go.Proofs.YtabkpccdnkjoiaaGreat
open Go.RowKit Go.Sort
def oH (l:List Int):aQ:=l.map fun x=>(x,x)
theorem MZ {l:List Int} {k:Nat} (hk:k<l.length):oH (l.take (k+1))=oH (l.take k)++ [(l.getD k 0,l.getD k 0)]:=by
 rw[take_succ 0 hk];simp[oH]
theorem M_ (l:List Int) (n:Int):aV (oH l) n↔n∈l:=by
 constructor
 ·rintro⟨r,hr,h⟩
  obtain⟨x,hx,rfl⟩:=List.mem_map.1 hr
  have:n=x:=by have h1:x≤n:=h.1;have h2:n≤x:=h.2;omega
  rw[this];exact hx
 ·exact fun h=>⟨(n,n),List.mem_map.2 ⟨n,h,rfl⟩,Int.le_refl _,Int.le_refl _⟩
theorem Na (w:World) (v:Value) (l:List Int) (hv:xK w v l) (hl:l.length≤100000) (hb:∀x∈l,1≤x∧x≤1099511627776):
 Calls Tryz.prog 237 #[v] w fun e w'=>∃v' out,e= .returned (.tuple #[v', .int .i64 0])∧OwnAt w w' 288 2 v' out.length (bP out)∧bG out∧(∀n,aV out n↔n∈l)∧out.length≤l.length:=by
 obtain⟨i0,hi,hz0,hz1,hz2⟩:=info_parts rZ
 obtain⟨aA,cA,rfl⟩:=hv.sl
 have HH:=ah hv;clear hv
 have HB:=ah hb;clear hb
 have hone:(oH l).length=l.length:=by simp[oH]
 have nK:=ah hone;clear hone
 have HL:=ah hl;clear hl
 generalize hn:l.length=n at*
 have HN:=ah hn;clear hn
 have eg:∀args w,(callFunc 268 args).run Tryz.prog w= .ok (.enter 268 args) w:=enters_of Tryz.func268 (by kernel_rfl) rfl
 go_enter Tryz.func237,Tryz.ntmps237
 go_wp2
 go_loopw [4,9] (fun v i ww=>∃k:Nat,k≤n∧i= .int .i64 k∧OwnAt w ww 288 2 v k (bP (oH (l.take k)))) (fun _ i _=>n-(intOf i).toNat)
 case atStart=>exact⟨0,Nat.zero_le _,rfl,OwnAt.nil (aj.refl _ _) _ _⟩
 case round=>
  obtain⟨k,hk,rfl,ho⟩:=hrel
  obtain⟨av,cv,rfl⟩:=ho.shape
  have HO:=ah ho;clear ho
  by_cases hlt:k<n
  ·rcases Rd.shape HH.out with⟨ad,he,h0⟩|⟨b,off,cc,he,hmax⟩
   ·exfalso;have:=HN.out;omega
   ·injection he with e1 e2 e3
    subst e1 e3
    clear e2
    rw[HN.out]at hmax
    have hlk:k<l.length:=by rw[HN.out];exact hlt
    have p0:=EF HH.out HN.out.symm k hlk
    have q0:=HO.out.aH.cell' p0 id
    clear p0
    have hbx:=HB.out _ (getD_mem 0 hlk)
    have hE:=MZ hlk
    generalize l.getD k 0=x at*
    have HE:=ah hE;clear hE
    have hnb:ni x=true:=by unfold ni;simpa using hbx
    have Nb:=ah (fun W=>hnb▸qB x W);clear hnb
    have hk1:k≤100000:=Nat.le_trans hk HL.out
    go_wp2_with(first
     |(go_at_call 267;refine(Nb.out _).mono ?_;rintro e w1 ⟨rfl,hw1⟩;rw[hw1];clear hw1 w1)
     |(at_builtin;refine jg w _ [.int .i64 x, .int .i64 x] rfl (.tmp 16) (.tmp 20) 266 rfl 288 i0 _ 2 16 Tryz.underlying266 hi hz0 hz1 hz2 (by decide) (by decide) _ _ _ HO.out 1 1 rfl (by simp[Act.eval]) rfl (by simp[Value.oneCell']) (by simp only[maxLen];omega) (by omega) ?_;intro yc iP w2 bC;have OW:=ah bC;clear bC))
    go_roundw
    case rel=>exact⟨k+1,by omega,by go_num,by rw[HE.out,kD];exact OW.out⟩
    case measure=>simp[intOf];omega
  ·obtain rfl:n=k:=by omega
   rw[List.take_of_length_le (by rw[HN.out];exact Nat.le_refl _)]at HO
   have hbd:∀r∈oH l,1≤r.1∧r.1≤r.2∧r.2≤1099511627776:=fun r hr=>by
    obtain⟨x,hx,rfl⟩:=List.mem_map.1 hr
    have:=HB.out x hx
    exact⟨this.1,Int.le_refl _,this.2⟩
   have lY:=ah hbd;clear hbd
   have hl5:=HL.out
   go_wp2_with(first
    |(go_at_call 232;refine(FI 268 eg LQ _ _ _ n (oH l) HO.out nK.out (Nat.le_trans HL.out (by decide))).mono ?_;rintro e w3 ⟨rfl,l',hp,hs,ho3⟩;have HP:=ah hp;clear hp;have HS:=ah hs;clear hs;have bI:=ah ho3;clear ho3)
    |(go_at_call 235;refine(Fj _ _ l' (by have:=bI.out.rd;rw[←nK.out,←HP.out.length_eq]at this;rw[←nK.out,←HP.out.length_eq];exact this) (by rw[HP.out.length_eq,nK.out];exact Nat.le_trans HL.out (by decide)) (yt HP.out HS.out lY.out).2.2).mono ?_;rintro e w4 ⟨v4,rfl,dh⟩;obtain⟨a4,c4,rfl⟩:=dh.shape;have iD:=ah dh;clear dh))
   go_ret2
   have hj:=yt HP.out HS.out lY.out
   exact⟨_,kM l',rfl,iD.out.base bI.out.aH,hj.1,fun x=>by rw[hj.2.1,M_],Nat.le_trans (FM l') (by rw[HP.out.length_eq,nK.out];exact Nat.le_refl _)⟩
open Go.RowKit
structure Bv (l:aQ) (k:Nat) (p:Nat→aQ):Prop where
 done:∀d,d<k→bG (p d)∧(∀n,aV (p d) n↔((d:Int),n)∈l)∧(p d).length≤20000
 todo:∀d,k≤d→d<4→p d=[]
theorem Bv.Bc {l:aQ} {p:Nat→aQ} (h:Bv l 4 p):ku l (gZ fun d=>p d.toNat):=by
 refine⟨zW fun d h0 h4=>(h.done d.toNat (by omega)).1,fun d n h0 h4=>?_⟩
 unfold fC
 rw[xE _ h0 h4]
 have:=(h.done d.toNat (by omega)).2.1 n
 rwa [Int.toNat_of_nonneg h0]at this
theorem Nc (w:World) (v:Value) (l:aQ) (hv:f_ w v l) (hd:oG l) (hl:l.length≤20000):
 Calls Tryz.prog 186 #[v] w fun e w'=>∃v' c,e= .returned (.tuple #[v', .int .i64 0])∧OwnAt w w' 144 3 v' c.length (bT c)∧ku l c∧c.length≤800000:=by
 obtain⟨i0,hi,hz0,hz1,hz2⟩:=info_parts rW
 obtain⟨aA,cA,rfl⟩:=hv.sl
 have HH:=ah hv;clear hv
 have HD:=ah hd;clear hd
 have HL:=ah hl;clear hl
 generalize hn:l.length=n at*
 have HN:=ah hn;clear hn
 have HST:=ah (fH.start (M:=fun _=>False) 303 2 1 (aj.refl au w) (fun k hk=>hk.elim))
 go_enter Tryz.func186,Tryz.ntmps186
 go_wp2
 go_loopw [12] (fun i ww=>∃(k:Nat) (vs:Nat→Value),k≤n∧i= .int .i64 k∧fH (fun _=>False) 303 2 1 w ww w.heap.size vs (fun d=>(numsL (l.take k) d).length) (fun d=>jJ (numsL (l.take k) d))) (fun i _=>n-(intOf i).toNat)
 case atStart=>exact⟨0,fun _=> .slice none 0 0,Nat.zero_le _,rfl,HST.out⟩
 case round=>
  obtain⟨k,vs,hk,rfl,h4⟩:=hrel
  have H4:=ah h4;clear h4
  by_cases hlt:k<n
  ·rcases Rd.shape HH.out with⟨ad,he,h0⟩|⟨b,off,cc,he,hmax⟩
   ·exfalso;have:=HN.out;omega
   ·injection he with e1 e2 e3
    subst e1 e3
    clear e2
    rw[HN.out]at hmax
    have hlk:k<l.length:=by rw[HN.out];exact hlt
    obtain⟨p0,p1⟩:=kN HH.out HN.out.symm k hlk
    have q0:=H4.out.aH.cell' p0 id
    have q1:=H4.out.aH.cell' p1 id
    clear p0 p1
    have hdk:=HD.out _ (getD_mem (0,0) hlk)
    have qF:=ah (fun d=>FW (l:=l) (k:=k) d hlk)
    obtain⟨s,hgd⟩:∃s,s=l.getD k (0,0):=⟨_,rfl⟩
    rw[←hgd]at qF q0 q1 hdk
    clear hgd
    have hdr:iO s.1 s.2=true:=by unfold iO;simpa using hdk
    have HDR:=ah (fun W=>hdr▸qC s.1 s.2 W);clear hdr
    obtain⟨dn,hdn⟩:∃dn:Nat,s.1=dn:=⟨s.1.toNat,by omega⟩
    have hd4:dn<4:=by omega
    rw[hdn]at q0 HDR
    have ig:=ah hdn;clear hdn hdk
    have hc4:(dn:Int)<4:=by omega
    have hsp:(wr.alloc (.cells #[.int .i64 dn, .int .i64 s.2] 170)).heap[wr.heap.size]?=some (.cells #[.int .i64 dn, .int .i64 s.2] 170 (0,0)):=heap_alloc_new wr _
    have qG:=ah hsp;clear hsp
    have HB4:=ah (H4.out.box (.cells #[.int .i64 dn, .int .i64 s.2] 170))
    have hlen:(numsL (l.take k) dn).length≤k:=Nat.le_trans (A_ _ _) (List.length_take_le _ _)
    have HLEN:=ah (Nat.le_trans hlen (Nat.le_trans hk HL.out))
    clear hlen
    go_wp2_with(go_at_call 236;refine(HDR.out _).mono ?_;rintro e w1 ⟨rfl,hw1⟩;have HW1:=ah hw1;clear hw1;have n0:w1.cell? ⟨wr.heap.size,0,none⟩=some (.int .i64 dn):=HW1.out.cell' (aF qG.out 0 rfl) id;have n1:w1.cell? ⟨wr.heap.size,1,none⟩=some (.int .i64 s.2):=HW1.out.cell' (aF qG.out 1 rfl) id)
    have lZ:=ah ((HB4.out.keep HW1.out).keep (aj.drew _ _))
    have hsb:wr.heap.size<w1.heap.size:=World.block_lt_of_cell? _ _ n0
    obtain⟨pl,hpl⟩:∃pl,pl=(numsL (l.take k) dn).length:=⟨_,rfl⟩
    have hob:dM (pJ (fun k=>False∨k=wr.heap.size) w.heap.size vs dn) w w1.drew 2 1 (vs dn) pl (jJ (numsL (l.take k) dn)):=by rw[hpl];exact lZ.out.but hd4
    have mg:=ah hob;clear hob
    rw[←hpl]at HLEN
    have kP:=ah hpl;clear hpl
    clear q0 q1
    generalize wr.heap.size=sb at*
    refine gX (S:=fun w'=>w'.cell? ⟨sb,0,none⟩=some (.int .i64 dn)∧w'.cell? ⟨sb,1,none⟩=some (.int .i64 s.2)∧w'.cell? ⟨w.heap.size,dn,none⟩=some (vs dn)) 11 (by kernel_rfl) ⟨n0,n1,lZ.out.cell hd4⟩ ?_
    intro hS
    have hsb:sb<w1.drew.heap.size:=hsb
    clear n0 n1
    generalize w1.drew=Y at*
    refine aT 0 19 rfl rfl (v:=?_) (.inl ⟨by rfl,?_⟩) ?_
    rotate_left 1
    ·(intro w hSw;(try dsimp only at hSw);go_simp;(try with_reducible rfl))
    refine aT 1 20 rfl rfl (v:=?_) (.inl ⟨by rfl,?_⟩) ?_
    rotate_left 1
    ·(intro w hSw;(try dsimp only at hSw);go_simp;(try with_reducible rfl))
    try simp only[Act.put,aJ,aN,aO]
    refine aT 2 21 rfl rfl (v:=?_) (.inl ⟨by rfl,?_⟩) ?_
    rotate_left 1
    ·(intro w hSw;(try dsimp only at hSw);go_simp;(try with_reducible rfl))
    refine aT 3 22 rfl rfl (v:=?_) (.inl ⟨by rfl,?_⟩) ?_
    rotate_left 1
    ·(intro w hSw;(try dsimp only at hSw);go_simp;(try with_reducible rfl))
    try simp only[Act.put,aJ,aN,aO]
    refine aT 4 23 rfl rfl (v:=?_) (.inl ⟨by rfl,?_⟩) ?_
    rotate_left 1
    ·(intro w hSw;(try dsimp only at hSw);go_simp;(try with_reducible rfl))
    refine aT 5 24 rfl rfl (v:=?_) (.inl ⟨by rfl,?_⟩) ?_
    rotate_left 1
    ·(intro w hSw;(try dsimp only at hSw);go_simp;(try with_reducible rfl))
    try simp only[Act.put,aJ,aN,aO]
    refine aT 6 25 rfl rfl (v:=?_) (.inl ⟨by rfl,?_⟩) ?_
    rotate_left 1
    ·(intro w hSw;(try dsimp only at hSw);go_simp;(try with_reducible rfl))
    refine aT 7 26 rfl rfl (v:=?_) (.inl ⟨by rfl,?_⟩) ?_
    rotate_left 1
    ·(intro w hSw;(try dsimp only at hSw);go_simp;(try with_reducible rfl))
    try simp only[Act.put,aJ,aN,aO]
    refine bD (i:=8) (by kernel_rfl) rfl (fun K hK=>?_)
    go_simp
    have hS1:(Y.alloc (.cells #[.int .i64 s.2] 2)).cell? ⟨sb,0,none⟩=some (.int .i64 dn)∧(Y.alloc (.cells #[.int .i64 s.2] 2)).cell? ⟨sb,1,none⟩=some (.int .i64 s.2)∧(Y.alloc (.cells #[.int .i64 s.2] 2)).cell? ⟨w.heap.size,dn,none⟩=some (vs dn):=⟨(aj.alloc au Y _).cell' hS.1 id,(aj.alloc au Y _).cell' hS.2.1 id,(aj.alloc au Y _).cell' hS.2.2 id⟩
    refine hK.out _ _ hS1 ?_
    clear hK K
    try simp only[Act.put,aJ,aN,aO]
    refine bD (i:=9) (by kernel_rfl) rfl (fun K hK=>?_)
    refine Aw (pJ (fun k=>False∨k=sb) w.heap.size vs dn) w Y [.int .i64 s.2] rfl (.tmp 24) (.tmp 27) 252 rfl 2 i0 _ 1 8 Tryz.underlying252 hi hz0 hz1 hz2 (by decide) (by decide) (vs dn) pl _ mg.out (lZ.out.lt dn) 1 1 (by simp[Act.eval]) (by simp[Act.eval]) rfl (by simp[Value.oneCell']) (by have:=HLEN.out;simp only[maxLen];omega) (by have:=HLEN.out;omega) ?_
    intro ad iP w2 bC fF
    have hS2:w2.cell? ⟨sb,0,none⟩=some (.int .i64 dn)∧w2.cell? ⟨sb,1,none⟩=some (.int .i64 s.2)∧w2.cell? ⟨w.heap.size,dn,none⟩=some (vs dn):=⟨fF.cell (.inr (.inl (.inr rfl))) hS.1,fF.cell (.inr (.inl (.inr rfl))) hS.2.1,fF.cell (.inl rfl) hS.2.2⟩
    refine hK.out _ _ hS2 ?_
    clear hK K hS1
    have qH:=ah (((lZ.out.step hd4 fF bC).mono (M':=fun _=>False) fun k hk=>hk.elim).congr (n':=fun d=>(numsL (l.take (k+1)) d).length) (xs':=fun d=>jJ (numsL (l.take (k+1)) d)) (fun d hd=>by
     rw[qF.out]
     by_cases he:d=dn
     ·subst he;rw[upd_same,if_pos ig.out,List.length_append,←kP.out];rfl
     ·rw[jP _ _ he,if_neg (by rw[ig.out];omega),List.append_nil]) (fun d hd=>by
     rw[qF.out]
     by_cases he:d=dn
     ·subst he;rw[upd_same,if_pos ig.out,xH];rfl
     ·rw[jP _ _ he,if_neg (by rw[ig.out];omega),List.append_nil]))
    have hcf:=fF.frozen (p:=⟨w.heap.size,dn,none⟩) (.inl rfl) (aY lZ.out.blk dn)
    clear bC fF
    try simp only[Act.put,aJ,aN,aO]
    refine aT 10 29 rfl rfl (v:=?_) (.inl ⟨by rfl,?_⟩) ?_
    rotate_left 1
    ·(intro w hSw;(try dsimp only at hSw);go_simp;(try with_reducible rfl))
    try simp only[Act.put,aJ,aN,aO]
    refine fD (by kernel_rfl) (by kernel_rfl) rfl (fun K hK=>?_)
    have hcz:=hS2.2.2
    clear hS2 hS
    go_simp
    refine hK.out _ _ ?_
    clear hK K hcz hcf
    go_wp2
    go_roundw
    case rel=>exact⟨k+1,_,by omega,by go_num,qH.out⟩
    case measure=>simp[intOf];omega
  ·obtain rfl:n=k:=by omega
   rw[List.take_of_length_le (by rw[HN.out];exact Nat.le_refl _)]at H4
   obtain⟨wo,rfl⟩:∃wo:World,wo=wr:=⟨_,rfl⟩
   have hsh:∀d,d<4→∃t:Option Addr×Nat×Nat,vs d= .slice t.1 t.2.1 t.2.2:=fun d hd=>by
    obtain⟨a,c,h⟩:=(H4.out.own d hd).at_.shape
    exact⟨(a,_,c),h⟩
   obtain⟨A,hA⟩:=Go.Deep.choose_lt hsh
   clear hsh
   have c0:wo.cell? ⟨w.heap.size,0,none⟩=some (.slice (A 0).1 (A 0).2.1 (A 0).2.2):=hA 0 (by omega)▸H4.out.cell (d:=0) (by omega)
   have c1:wo.cell? ⟨w.heap.size,1,none⟩=some (.slice (A 1).1 (A 1).2.1 (A 1).2.2):=hA 1 (by omega)▸H4.out.cell (d:=1) (by omega)
   have c2:wo.cell? ⟨w.heap.size,2,none⟩=some (.slice (A 2).1 (A 2).2.1 (A 2).2.2):=hA 2 (by omega)▸H4.out.cell (d:=2) (by omega)
   have c3:wo.cell? ⟨w.heap.size,3,none⟩=some (.slice (A 3).1 (A 3).2.1 (A 3).2.2):=hA 3 (by omega)▸H4.out.cell (d:=3) (by omega)
   have pO:=ah hA;clear hA
   have hgw:w.heap.size<wo.heap.size:=World.block_lt_of_cell? _ _ c0
   have hp0:=kE.start (w0:=w) (w:=wo) (A:=fun _=>(none,0,0)) (p:=fun _=> []) ⟨fun d hd=>OwnAt.nil H4.out.aH _ _⟩
   have AV:=ah hp0;clear hp0
   go_wp2
   clear c0 c1 c2 c3
   go_loopw [32] (fun i ww=>∃(j:Nat) (A':Nat→Sl) (p:Nat→aQ),j≤4∧i= .int .i64 j∧kE w ww wo.heap.size A' p∧Bv l j p∧
    aj (fun k=>k=wo.heap.size) (wo.alloc (.cells #[.slice none 0 0, .slice none 0 0, .slice none 0 0, .slice none 0 0] 268)) ww) (fun i _=>4-(intOf i).toNat)
   case atStart=>exact⟨0,fun _=>(none,0,0),fun _=> [],by omega,rfl,AV.out,⟨fun d hd=>by omega,fun d _ _=>rfl⟩,aj.refl _ _⟩
   case round=>
    obtain⟨j,A',p,hj,rfl,hp,hou,uP⟩:=hrel
    have HP:=ah hp;clear hp
    have yC:=ah hou;clear hou
    have sG:=ah uP;clear uP
    by_cases pR:j<4
    ·have hki:(j:Int)<4:=by omega
     have hkd:decide ((j:Int)<4)=true:=by simpa using hki
     have hix:∀W,(Instr.index 303 (.agg #[.slice (A 0).1 (A 0).2.1 (A 0).2.2, .slice (A 1).1 (A 1).2.1 (A 1).2.2, .slice (A 2).1 (A 2).2.1 (A 2).2.2, .slice (A 3).1 (A 3).2.1 (A 3).2.2]) (.int .i64 (j:Int))).run Tryz.prog W= .ok (.slice (A j).1 (A j).2.1 (A j).2.2) W:=by
      rcases(by omega:j=0∨j=1∨j=2∨j=3)with rfl|rfl|rfl|rfl<;>exact fun _=>by kernel_rfl
     have hob:=((H4.out.own j pR).at_.keep (aj.alloc au wo (.cells #[.slice none 0 0, .slice none 0 0, .slice none 0 0, .slice none 0 0] 268)))
     have hno:=Rd.keep hob.rd sG.out (fun q hq h=>by have:=(H4.out.own j pR).at_.lt q hq;have h:q=wo.heap.size:=h;omega)
     rw[pO.out j pR]at hno
     have hcall:=Na wr _ (numsL l j) hno (Nat.le_trans (A_ l j) (by rw[HN.out];exact Nat.le_trans HL.out (by decide))) (fun x hx=>by have:=HD.out _ (yA.1 hx);exact⟨this.2.2.1,this.2.2.2⟩)
     have HC:=ah hcall;clear hcall hob hno
     have hpc:=HP.out.cell pR
     have Nh:=ah hpc;clear hpc
     go_wp2_with(go_at_call 237;refine HC.out.mono ?_;rintro e w3 ⟨v3,out,rfl,ho3,hr3,oD,hl3⟩;obtain⟨a3,c3,rfl⟩:=ho3.shape;have bI:=ah ho3;clear ho3;have HR3:=ah hr3;clear hr3;have nD:=ah oD;clear oD;have jk:=ah hl3;clear hl3;have hcz:=bI.out.aH.cell' Nh.out id;have hfz:w3.frozen? ⟨wo.heap.size,j,none⟩=false:=aY (HP.out.keep bI.out.aH).blk j)
     have AY:=ah (HP.out.set pR (t:=(a3,out.length,c3)) bI.out)
     go_roundw
     case rel=>exact⟨j+1,_,_,by omega,by go_num,AY.out,⟨fun d hd=>by
      by_cases he:d=j
      ·subst he;rw[upd_same];exact⟨HR3.out,fun n=>by rw[nD.out,yA],Nat.le_trans jk.out (Nat.le_trans (A_ l d) (by rw[HN.out];exact HL.out))⟩
      ·rw[jP _ _ he];exact yC.out.done d (by omega),fun d h1 h2=>by
      rw[jP _ _ (by omega)];exact yC.out.todo d (by omega) h2⟩,(sG.out.ay bI.out.aH).trans (aj.setCell (S:=fun k=>k=wo.heap.size) w3 (p:=⟨wo.heap.size,j,none⟩) (.inl rfl) _) fun _ _ h=>h⟩
     case measure=>simp[intOf];omega
    ·obtain rfl:j=4:=by omega
     have c0:wr.cell? ⟨wo.heap.size,0,none⟩=some (.slice (A' 0).1 (A' 0).2.1 (A' 0).2.2):=HP.out.cell (by omega)
     have c1:wr.cell? ⟨wo.heap.size,1,none⟩=some (.slice (A' 1).1 (A' 1).2.1 (A' 1).2.2):=HP.out.cell (by omega)
     have c2:wr.cell? ⟨wo.heap.size,2,none⟩=some (.slice (A' 2).1 (A' 2).2.1 (A' 2).2.2):=HP.out.cell (by omega)
     have c3:wr.cell? ⟨wo.heap.size,3,none⟩=some (.slice (A' 3).1 (A' 3).2.1 (A' 3).2.2):=HP.out.cell (by omega)
     go_wp2_with(go_at_call 229;refine(FB _ A' p (fun d hd=>(HP.out.own d hd).at_.rd) (fun d hd=>Nat.le_trans (yC.out.done d hd).2.2 (by decide))).mono ?_;rintro e w3 ⟨v3,c,rfl,ho3,hc3,hl3⟩;obtain⟨a3,k3,rfl⟩:=ho3.shape;have bI:=ah ho3;clear ho3;have mG:=ah hc3;clear hc3;have jk:=ah hl3;clear hl3)
     go_ret2
     exact⟨_,c,rfl,bI.out.base (HP.out.own 0 (by omega)).at_.aH,by rw[mG.out];exact yC.out.Bc,jk.out⟩
end Go.Proofs.YtabkpccdnkjoiaaGreat
