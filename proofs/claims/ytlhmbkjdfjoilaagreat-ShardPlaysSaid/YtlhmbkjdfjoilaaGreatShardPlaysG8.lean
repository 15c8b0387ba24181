/- Words for the law ShardPlays: SMinus, SortK, SortLay, SUnion, SUnion2, CBy. -/
import Derived.Test.YtlhmbkjdfjoilaaGreatShardPlaysG0
import Derived.Test.YtlhmbkjdfjoilaaGreatShardPlaysG3
import Derived.Test.YtlhmbkjdfjoilaaGreatShardPlaysG6
import Derived.Test.YtlhmbkjdfjoilaaGreatShardPlaysG7
import Derived.Shelf.SlSortCmp.WholeK
import Derived.Ground.SlsfProg
import Derived.Test.YtlhmbkjdfjoilaaGreatProg
import Derived.Shelf.SlSortCmp.NoneTotal
import Derived.Lib.AppendZerosOnto
set_option linter.unusedSimpArgs false
set_option linter.unusedVariables false
set_option maxHeartbeats 32000000
set_option maxRecDepth 1000000
namespace Go.Proofs.YtlhmbkjdfjoilaaGreat
open Go.RowKit
theorem abD {a b:aZ} {k:Nat} (h:k<a.length):tN (a.drop k) b=ny (a.getD k (0,0)).1 (a.getD k (0,0)).2 b++tN (a.drop (k+1)) b:=by
 rw[JL h];rfl
theorem abE {b:aZ} {k:Nat} (h:k<b.length) (lo hi:Int):ny lo hi (b.drop k)=if(b.getD k (0,0)).2<lo∨hi<(b.getD k (0,0)).1 then ny lo hi (b.drop (k+1))else(if lo<(b.getD k (0,0)).1 then [(lo,(b.getD k (0,0)).1-1)]else [])++ny ((b.getD k (0,0)).2+1) hi (b.drop (k+1)):=by
 rw[JL h];rfl
def abG (w0:World) (gr:Nat) (b:aZ) (hi:Int) (m:Nat) (tot:aZ) (len:Nat) (v i:Value) (ww:World):Prop:=
 ∃(j:Nat) (out:aZ) (lo:Int),j≤m∧i= .int .i64 j∧iH (fun k=>k=gr) w0 ww 206 2 v out.length (fD out)∧ww.heap[gr]?=some (.cells #[.int .i64 lo, .int .i64 hi] 206 (0,0))∧
  tot=out++ny lo hi (b.drop j)∧out.length≤len+j∧1≤lo∧lo≤1099511627777
theorem abH (w:World) (va vb:Value) (a b:aZ) (ha:k_ w va a) (hb:k_ w vb b) (ra:dO a) (rb:dO b) (la:a.length≤20000) (lb:b.length≤20000):
 Calls Tryz.prog 130 #[va,vb] w fun e w'=>∃v',e= .returned v'∧OwnAt w w' 206 2 v' (tN a b).length (fD (tN a b)):=by
 obtain⟨i0,hi,hz0,hz1,hz2⟩:=info_parts DX
 obtain⟨aA,cA,rfl⟩:=ha.sl
 obtain⟨aB,cB,rfl⟩:=hb.sl
 have yT:=ah (both_any w _ _ a b ha ra.fits hb rb.fits)
 have hboth:tf (dO a∧dO b)=true:=gu ⟨ra,rb⟩
 have HA:=ah ha;clear ha
 have HB:=ah hb;clear hb
 have RA:=ah (fun r (h:r∈a)=>(⟨(mQ ra.1 r h).1,(mQ ra.1 r h).2,ra.2 r h⟩:1≤r.1∧r.1≤r.2∧r.2≤1099511627776));clear ra
 have RB:=ah (fun r (h:r∈b)=>(⟨(mQ rb.1 r h).1,(mQ rb.1 r h).2,rb.2 r h⟩:1≤r.1∧r.1≤r.2∧r.2≤1099511627776));clear rb
 generalize hn:a.length=n at*
 generalize hm:b.length=m at*
 have HN:=ah hn;clear hn
 have HM:=ah hm;clear hm
 have LA:=ah la;clear la
 have LB:=ah lb;clear lb
 rw[hboth]at yT
 clear hboth
 go_enter Tryz.func130,Tryz.ntmps130
 go_wp2_with(go_at_call 151;refine yT.out.mono ?_;rintro e w1 ⟨rfl,hw1⟩;have HW1:=ah hw1;clear hw1)
 go_loopw [5,16] (fun v i ww=>∃(k:Nat) (out:aZ),k≤n∧out.length≤k*(m+1)∧i= .int .i64 k∧OwnAt w ww 206 2 v out.length (fD out)∧tN a b=out++tN (a.drop k) b) (fun _ i _=>n-(intOf i).toNat)
 case atStart=>exact⟨0,[],Nat.zero_le _,by simp,rfl,OwnAt.nil HW1.out _ _,rfl⟩
 case round=>
  obtain⟨wo,rfl⟩:∃wo:World,wo=wr:=⟨_,rfl⟩
  obtain⟨k,out,hk,hok,rfl,ho,he⟩:=hrel
  have HO:=ah ho;clear ho
  have HE:=ah he;clear he
  obtain⟨av,cv,hv⟩:=HO.out.shape
  subst hv
  by_cases hlt:k<n
  ·rcases Rd.shape HA.out with⟨ad,he,h0⟩|⟨bb,off,cc,he,hmax⟩
   ·exfalso;have:=HN.out;omega
   ·injection he with e1 e2 e3
    subst e1 e3
    clear e2
    rw[HN.out]at hmax
    have hlk:k<a.length:=by rw[HN.out];exact hlt
    obtain⟨p0,p1⟩:=r_ HA.out HN.out.symm k hlk
    have q0:=HO.out.aI.cell' p0 id
    have q1:=HO.out.aI.cell' p1 id
    clear p0 p1
    have hbr:=RA.out _ (getD_mem (0,0) hlk)
    have HD:=ah (abD (b:=b) hlk)
    have hkm:k*(m+1)≤20000*20001:=Nat.mul_le_mul (Nat.le_trans hk LA.out) (Nat.succ_le_succ LB.out)
    generalize a.getD k (0,0)=r at*
    generalize hkk:k*(m+1)=km at*
    have HKK:=ah hkk;clear hkk
    have fH:=ah hok;clear hok
    have JQ:=ah hkm;clear hkm
    obtain⟨r1,r2,r3⟩:=hbr
    go_wp2
    go_loopw [5,22] (fun v i ww=>abG w wo.heap.size b r.2 m (out++ny r.1 r.2 b) out.length v i ww) (fun _ i _=>m-(intOf i).toNat)
    case atStart=>exact⟨0,out,r.1,Nat.zero_le _,rfl,HO.out.away (aj.alloc _ _ _) (fun k hk=>by rw[hk];exact Nat.le_refl _),heap_alloc_new wo _,rfl,Nat.le_refl _,r1,by omega⟩
    case round=>
     obtain⟨j,DZ,lo,hj,rfl,ho2,hbk,he2,hl2,l1,l2⟩:=hrel
     obtain⟨av2,Gp,rfl⟩:=ho2.at_.shape
     have gW:=ah ho2;clear ho2
     have HE2:=ah he2;clear he2
     have HL2:=ah hl2;clear hl2
     have jr:=ah hbk;clear hbk
     have z0:=aG jr.out 0 rfl
     have z1:=aG jr.out 1 rfl
     have zf:=aW jr.out 0
     have hgl:wo.heap.size<wr.heap.size:=World.block_lt_of_cell? _ _ z0
     by_cases hjl:j<m
     ·rcases Rd.shape HB.out with⟨ad,he,h0⟩|⟨b2,off2,lg,he,zY⟩
      ·exfalso;have:=HM.out;omega
      ·injection he with e1 e2 e3
       subst e1 e3
       clear e2
       rw[HM.out]at zY
       have hjb:j<b.length:=by rw[HM.out];exact hjl
       obtain⟨p0,p1⟩:=r_ HB.out HM.out.symm j hjb
       have x0:=gW.out.at_.aI.cell' p0 id
       have x1:=gW.out.at_.aI.cell' p1 id
       clear p0 p1
       have hbx:=RB.out _ (getD_mem (0,0) hjb)
       have zZ:=ah (fun lo hi=>abE hjb lo hi)
       generalize b.getD j (0,0)=x at*
       obtain⟨y1,y2,y3⟩:=hbx
       have hgw:w.heap.size≤wo.heap.size:=HO.out.aI.size
       by_cases c1:x.2<lo
       ·have HX:=ah (zZ.out lo r.2)
        rw[if_pos (.inl c1)]at HX
        go_wp2
        go_roundw
        case rel=>exact⟨j+1,DZ,lo,by omega,by go_num,gW.out.keep (aj.alloc _ _ _),(aj.alloc aF _ _).blk jr.out id,by rw[HE2.out,HX.out],Nat.le_trans HL2.out (by omega),l1,l2⟩
        case measure=>simp[intOf];omega
       ·by_cases c2:r.2<x.1
        ·have HX:=ah (zZ.out lo r.2)
         rw[if_pos (.inr c2)]at HX
         go_wp2
         go_roundw
         case rel=>exact⟨j+1,DZ,lo,by omega,by go_num,gW.out.keep (aj.alloc _ _ _),(aj.alloc aF _ _).blk jr.out id,by rw[HE2.out,HX.out],Nat.le_trans HL2.out (by omega),l1,l2⟩
         case measure=>simp[intOf];omega
        ·have HX:=ah (zZ.out lo r.2)
         rw[if_neg (by omega)]at HX
         by_cases c3:lo<x.1
         ·rw[if_pos c3]at HX
          have hx0:=aG (heap_alloc_new wr (.cells #[.int .i64 x.1, .int .i64 x.2] 206)) 0 rfl
          have hx1:=aG (heap_alloc_new wr (.cells #[.int .i64 x.1, .int .i64 x.2] 206)) 1 rfl
          have uj:=ah hx1;clear hx0 hx1
          go_wp2_with(at_builtin;refine UK (fun k=>k=wo.heap.size∨k=wr.heap.size) w _ [.int .i64 lo, .int .i64 (x.1-1)] rfl (.tmp 43) (.tmp 50) 175 rfl 206 i0 _ 2 16 Tryz.underlying175 hi hz0 hz1 hz2 (by decide) (by decide) _ _ _ (gW.out.box _) (fun k hk=>by simp;omega) 1 1 rfl (by simp[Act.eval]) rfl (by simp[Value.oneCell']) (by have:=HL2.out;have:=fH.out;have:=JQ.out;have:=LB.out;simp only[maxLen];omega) (by have:=HL2.out;have:=fH.out;have:=JQ.out;have:=LB.out;omega) ?_;intro ad gI w2 bP j_;have OW:=ah bP;clear bP;have b2:=j_.blk (.inl rfl) ((aj.alloc aF _ _).blk jr.out id);have B2:=ah b2;clear b2;have k0:=aG B2.out 0 rfl;have kf:=aW B2.out 0;have kx:=j_.cell (p:=⟨wr.heap.size,1,none⟩) (.inr rfl) uj.out)
          go_roundw
          case rel=>
           refine⟨j+1,DZ++ [(lo,x.1-1)],x.2+1,by omega,by go_num,?_,eY B2.out 0 _,by rw[HE2.out,HX.out];simp,by rw[List.length_append];have:=HL2.out;simp;omega,by omega,by omega⟩
           rw[List.length_append,oO]
           exact(OW.out.mono (fun k hk=> .inl hk)).set rfl hgw _
          case measure=>simp[intOf];omega
         ·rw[if_neg c3,List.nil_append]at HX
          go_wp2
          go_roundw
          case rel=>exact⟨j+1,DZ,x.2+1,by omega,by go_num,(gW.out.set (p:=⟨wo.heap.size,0,none⟩) rfl hgw _).keep (aj.alloc _ _ _),(aj.alloc aF _ _).blk (eY jr.out 0 _) id,by rw[HE2.out,HX.out],Nat.le_trans HL2.out (by omega),by omega,by omega⟩
          case measure=>simp[intOf];omega
     ·obtain rfl:m=j:=by omega
      have he3:=HE2.out
      rw[List.drop_of_length_le (by rw[HM.out];exact Nat.le_refl _)]at he3
      rw[show ny lo r.2 []=if lo≤r.2 then [(lo,r.2)]else []from rfl]at he3
      by_cases c1:lo≤r.2
      ·rw[if_pos c1]at he3
       have Oq:=ah he3;clear he3
       go_wp2_with(at_builtin;refine kT w _ [.int .i64 lo, .int .i64 r.2] rfl (.tmp 62) (.tmp 64) 175 rfl 206 i0 _ 2 16 Tryz.underlying175 hi hz0 hz1 hz2 (by decide) (by decide) _ _ _ gW.out.at_ 1 1 rfl (by simp[Act.eval]) rfl (by simp[Value.oneCell']) (by have:=HL2.out;have:=fH.out;have:=JQ.out;have:=LB.out;simp only[maxLen];omega) (by have:=HL2.out;have:=fH.out;have:=JQ.out;have:=LB.out;omega) ?_;intro ad gI w2 bP;have OW:=ah bP;clear bP)
       go_roundw
       case rel=>
        refine⟨k+1,DZ++ [(lo,r.2)],by omega,?_,by go_num,by rw[List.length_append,oO];exact OW.out,by rw[HE.out,HD.out,←List.append_assoc,Oq.out]⟩
        have h1:=HL2.out
        have h2:=fH.out
        have h3:(k+1)*(m+1)=km+(m+1):=by rw[Nat.succ_mul,HKK.out]
        rw[List.length_append]
        simp only[List.length_singleton]
        omega
       case measure=>simp[intOf];omega
      ·rw[if_neg c1,List.append_nil]at he3
       have Oq:=ah he3;clear he3
       go_wp2
       go_roundw
       case rel=>
        refine⟨k+1,DZ,by omega,?_,by go_num,gW.out.at_,by rw[HE.out,HD.out,←List.append_assoc,Oq.out]⟩
        have h1:=HL2.out
        have h2:=fH.out
        have h3:(k+1)*(m+1)=km+(m+1):=by rw[Nat.succ_mul,HKK.out]
        omega
       case measure=>simp[intOf];omega
  ·obtain rfl:n=k:=by omega
   go_wp2
   go_ret
   have:=HE.out
   rw[List.drop_of_length_le (by rw[HN.out];exact Nat.le_refl _)]at this
   have:out=tN a b:=by rw[this];simp[tN]
   subst this
   exact⟨_,rfl,HO.out⟩
end Go.Proofs.YtlhmbkjdfjoilaaGreat
namespace Go.Proofs.YtlhmbkjdfjoilaaGreat
open Go.RowKit Go.Sort
def encR (r:Int×Int):List Value:=[.int .i64 r.1, .int .i64 r.2]
theorem abI (d:Array (Int×Int)) {k:Nat} (h:k<d.size):d.toList.getD k (0,0)=d[k]! :=by
 rw[getD_at (0,0) (by simpa using h),getElem!_pos d k h];simp
theorem flat_get (d:Array (Int×Int)) {t:Nat} (ht:t<d.size*2):(fD d.toList)[t]?=some ((flatK encR 2 d)[t]!):=by
 rw[get_flatK _ _ _ _ ht]
 have hk:t/2<d.size:=by omega
 obtain⟨h1,h2⟩:=Ju d.toList (t/2) (by simpa using hk)
 rw[abI d hk]at h1 h2
 rcases Nat.mod_two_eq_zero_or_one t with h|h
 ·rw[h]
  have e:t/2*2=t:=by omega
  rw[e]at h1
  rw[h1];rfl
 ·rw[h]
  have e:t/2*2+1=t:=by omega
  rw[e]at h2
  rw[h2];rfl
theorem OwnAt.abJ {w0 w:World} {e:TypeId} {n c g:Nat} {l:aZ} (h:OwnAt w0 w e 2 (.slice (some ⟨g,0,none⟩) n c) n (fD l)) (hn:0<n) (hl:l.length=n):HoldsK encR 2 w g 0 l.toArray:=by
 obtain⟨g',c',he,_,_,_,h1,h2,_⟩:=h.row hn
 injection he with e1 e2 e3
 injection e1 with e1
 injection e1 with e4 e5
 subst e4
 intro j hj
 rw[size_flatK]at hj
 have hf:=flat_get l.toArray hj
 rw[Nat.zero_add]
 exact⟨h1 j _ hf,h2 j⟩
theorem Vf (F cur:Array Value) (h:F.size≤cur.size):(putCells id 0 F cur).toList.take F.size=F.toList:=by
 apply List.ext_getElem?
 intro k
 rw[List.getElem?_take]
 by_cases hk:k<F.size
 ·rw[if_pos hk]
  have hc:k<cur.size:=by omega
  simp[putCells,hc,hk]
 ·rw[if_neg hk]
  simp[Nat.le_of_not_lt hk]
theorem abK (d:Array (Int×Int)):(flatK encR 2 d).toList=fD d.toList:=by
 apply List.ext_getElem?
 intro t
 by_cases ht:t<d.size*2
 ·rw[flat_get d ht]
  simp[ht]
 ·rw[List.getElem?_eq_none (by simp;omega),List.getElem?_eq_none (by rw[xH];simp;omega)]
theorem OwnAt.sorted {w0 w:World} {e:TypeId} {n c g:Nat} {l:aZ} (h:OwnAt w0 w e 2 (.slice (some ⟨g,0,none⟩) n c) n (fD l)) (d':Array (Int×Int)) (hd:d'.size=n) (hn:0<n) (m:Nat) (os:Array Obj):
 OwnAt w0 (sortWorldK encR 2 w g 0 m d' os) e 2 (.slice (some ⟨g,0,none⟩) n c) n (fD d'.toList):=by
 rcases h.own.2 with⟨_,h0⟩|⟨g',cap,cur,he,hb,hg,hnc,hcm,hcs,htake⟩
 ·omega
 ·injection he with e1 e2 e3
  injection e1 with e1
  injection e1 with e4 e5
  subst e4 e3
  have hlt:g<w.heap.size:=lt_of_block hg
  have hnew:w0.heap.size≤g:=h.new g rfl
  have hF:(flatK encR 2 d').size=n*2:=by rw[size_flatK,hd]
  have hblk:(sortWorldK encR 2 w g 0 m d' os).heap[g]?=some (.cells (putCells id 0 (flatK encR 2 d') cur) e (0,0)):=by
   unfold sortWorldK putRowK
   rw[heap_grow_old _ _ (by unfold putRow mapBlock;simpa[Sort.ahead]using hlt)]
   show((Sort.ahead w m).heap.modify g (onCells _))[g]?=_
   rw[Array.getElem?_modify,if_pos rfl]
   show Option.map _ (w.heap[g]?)=_
   rw[hg]
   rfl
  have hcur:(flatK encR 2 d').size≤cur.size:=by rw[hF,hcs];exact Nat.mul_le_mul_right _ hnc
  refine⟨⟨by rw[xH];simp[hd], .inr ⟨g,c,_,rfl,hb,hblk,hnc,hcm,by simp[putCells,hcs],?_⟩⟩,h.new,?_⟩
  ·rw[←hF,Vf _ _ hcur,abK]
  ·refine h.aI.trans (T:=fun k=>k=g) ⟨rfl,rfl,rfl,?_,fun k hk hn=>?_⟩ (fun i hi he=>by have he:i=g:=he;omega)
   ·unfold sortWorldK putRowK
    rw[size_grow]
    show w.heap.size≤(w.heap.modify g _).size+_
    rw[Array.size_modify];omega
   ·unfold sortWorldK putRowK
    rw[heap_grow_old _ _ (by unfold putRow mapBlock;simpa[Sort.ahead]using hk)]
    show(w.heap.modify g (onCells _))[k]?=_
    rw[Array.getElem?_modify,if_neg (fun e=>hn e.symm)]
theorem abL {d d':Array (Int×Int)} (h:PermIn 0 d.size d d'):d'.toList.Perm d.toList:=by
 have h1:=h.2.2
 have hs:=h.1
 have e1:(d'.extract 0 d.size).toList=d'.toList:=by rw[←hs];simp
 have e2:(d.extract 0 d.size).toList=d.toList:=by simp
 rw[e1,e2]at h1
 exact h1
theorem tV.Vg:∀ {l:aZ} {lo:Int},l.Pairwise (fun a b=>a.1≤b.1)→(∀r∈l,lo≤r.1∧r.1≤r.2)→tV lo l
 |[],_,_,_=>trivial
 |r::l,lo,hp,h=>⟨(h r List.mem_cons_self).1,(h r List.mem_cons_self).2,tV.Vg (List.pairwise_cons.1 hp).2 fun x hx=>⟨(List.pairwise_cons.1 hp).1 x hx,(h x (List.mem_cons_of_mem _ hx)).2⟩⟩
def xM (x y:Int×Int):Int:=oh x.1 y.1
theorem JR (x y:Int×Int):ltOf xM x y=decide (x.1<y.1):=by
 unfold ltOf xM oh
 by_cases h1:x.1<y.1
 ·simp[h1]
 ·by_cases h2:y.1<x.1<;>simp[h1,h2]
theorem abM:SWO (ltOf xM) where
 irrefl x:=by rw[JR];simp
 trans x y z h1 h2:=by rw[JR]at*;simp at*;omega
 ntrans x y z h1 h2:=by rw[JR]at*;simp at*;omega
theorem abN {d:Array (Int×Int)} (h:SortedIn (ltOf xM) 0 d.size d):d.toList.Pairwise (fun a b=>a.1≤b.1):=by
 rw[List.pairwise_iff_getElem]
 intro i j hi hj hij
 have hi':i<d.size:=by simpa using hi
 have hj':j<d.size:=by simpa using hj
 have:=h i j (Nat.zero_le _) hij hj'
 rw[JR,getElem!_pos d i hi',getElem!_pos d j hj']at this
 simp at this⊢
 omega
end Go.Proofs.YtlhmbkjdfjoilaaGreat
namespace Go.Proofs
open Go.Shelf
def Tryz.sortRun_ren:Go.Shelf.Ren:=⟨fun|6=>153|15=>76|14=>185|28=>106|29=>107|20=>193|21=>194|22=>195|23=>196|24=>197|25=>198|26=>199|27=>200|46=>203|47=>139|48=>140|49=>204|50=>205|57=>206|n=>n,fun|22=>175|24=>206|25=>209|3=>3|39=>130|0=>0|53=>73|55=>153|4=>4|46=>145|45=>144|50=>149|5=>5|9=>9|66=>190|70=>194|76=>220|77=>221|n=>n,fun|n=>n⟩
theorem Tryz.sortRun:Go.Proofs.SlLaysF0.n6 Tryz.prog Tryz.sortRun_ren:= {
 mixed:=by kernel_rfl
 f6:=⟨Tryz.f153.name,by decide,Tryz.func153.trans (congrArg some (by kernel_rfl))⟩
 f14:=⟨Tryz.f185.name,by decide,Tryz.func185.trans (congrArg some (by kernel_rfl))⟩
 f15:=Tryz.func76.trans (congrArg some (by kernel_rfl))
 f20:=⟨Tryz.f193.name,by decide,Tryz.func193.trans (congrArg some (by kernel_rfl))⟩
 f21:=⟨Tryz.f194.name,by decide,Tryz.func194.trans (congrArg some (by kernel_rfl))⟩
 f22:=⟨Tryz.f195.name,by decide,Tryz.func195.trans (congrArg some (by kernel_rfl))⟩
 f23:=⟨Tryz.f196.name,by decide,Tryz.func196.trans (congrArg some (by kernel_rfl))⟩
 f24:=⟨Tryz.f197.name,by decide,Tryz.func197.trans (congrArg some (by kernel_rfl))⟩
 f25:=⟨Tryz.f198.name,by decide,Tryz.func198.trans (congrArg some (by kernel_rfl))⟩
 f26:=⟨Tryz.f199.name,by decide,Tryz.func199.trans (congrArg some (by kernel_rfl))⟩
 f27:=⟨Tryz.f200.name,by decide,Tryz.func200.trans (congrArg some (by kernel_rfl))⟩
 f28:=Tryz.func106.trans (congrArg some (by kernel_rfl))
 f29:=Tryz.func107.trans (congrArg some (by kernel_rfl))
 f46:=⟨Tryz.f203.name,by decide,Tryz.func203.trans (congrArg some (by kernel_rfl))⟩
 f47:=Tryz.func139.trans (congrArg some (by kernel_rfl))
 f48:=Tryz.func140.trans (congrArg some (by kernel_rfl))
 f49:=⟨Tryz.f204.name,by decide,Tryz.func204.trans (congrArg some (by kernel_rfl))⟩
 f50:=⟨Tryz.f205.name,by decide,Tryz.func205.trans (congrArg some (by kernel_rfl))⟩
 f57:=⟨Tryz.f206.name,by decide,Tryz.func206.trans (congrArg some (by kernel_rfl))⟩
 t0:=Tryz.underlying0
 a0:=Tryz.isAgg0
 z0:=Tryz.sizeOf0
 v0:=Tryz.zeroValue0
 t3:=Tryz.underlying3
 a3:=Tryz.isAgg3
 z3:=Tryz.sizeOf3
 v3:=Tryz.zeroValue3
 t4:=Tryz.underlying4
 a4:=Tryz.isAgg4
 z4:=Tryz.sizeOf4
 v4:=Tryz.zeroValue4
 t5:=Tryz.underlying5
 a5:=Tryz.isAgg5
 z5:=Tryz.sizeOf5
 v5:=Tryz.zeroValue5
 t9:=Tryz.underlying9
 a9:=Tryz.isAgg9
 z9:=Tryz.sizeOf9
 v9:=Tryz.zeroValue9
 t22:=Tryz.underlying175
 a22:=Tryz.isAgg175
 z22:=Tryz.sizeOf175
 v22:=Tryz.zeroValue175
 t25:=Tryz.underlying209
 a25:=Tryz.isAgg209
 z25:=Tryz.sizeOf209
 v25:=Tryz.zeroValue209
 t39:=Tryz.underlying130
 a39:=Tryz.isAgg130
 z39:=Tryz.sizeOf130
 v39:=Tryz.zeroValue130
 t45:=Tryz.underlying144
 a45:=Tryz.isAgg144
 z45:=Tryz.sizeOf144
 v45:=Tryz.zeroValue144
 t46:=Tryz.underlying145
 a46:=Tryz.isAgg145
 z46:=Tryz.sizeOf145
 v46:=Tryz.zeroValue145
 t50:=Tryz.underlying149
 a50:=Tryz.isAgg149
 z50:=Tryz.sizeOf149
 v50:=Tryz.zeroValue149
 t53:=Tryz.underlying73
 a53:=Tryz.isAgg73
 z53:=Tryz.sizeOf73
 v53:=Tryz.zeroValue73
 t55:=Tryz.underlying153
 a55:=Tryz.isAgg153
 z55:=Tryz.sizeOf153
 v55:=Tryz.zeroValue153
 t66:=Tryz.underlying190
 a66:=Tryz.isAgg190
 z66:=Tryz.sizeOf190
 v66:=Tryz.zeroValue190
 t70:=Tryz.underlying194
 a70:=Tryz.isAgg194
 z70:=Tryz.sizeOf194
 v70:=Tryz.zeroValue194
 t76:=Tryz.underlying220
 a76:=Tryz.isAgg220
 z76:=Tryz.sizeOf220
 v76:=Tryz.zeroValue220
 t77:=Tryz.underlying221
 a77:=Tryz.isAgg221
 z77:=Tryz.sizeOf221
 v77:=Tryz.zeroValue221}
end Go.Proofs
namespace Go.Proofs.YtlhmbkjdfjoilaaGreat
open Go.RowKit Go.Sort
theorem abO (x y:Int×Int) (W:World):Calls Tryz.prog 154 #[.agg #[.int .i64 x.1, .int .i64 x.2], .agg #[.int .i64 y.1, .int .i64 y.2]] W fun e w'=>e= .returned (.int .i64 (xM x y))∧∃q os',w'=grow (W.drewN q) os':=by
 unfold xM
 go_enter Tryz.func154,Tryz.ntmps154
 go_wp2_with(go_at_call 155;refine(FU _ _ _).mono ?_;rintro e w' ⟨rfl,rfl⟩)
 go_ret
 exact⟨rfl,0,_,by rw[alloc_eq_grow,alloc_eq_grow,grow_grow];rfl⟩
theorem abP (x y:Int×Int) (W:World):Calls Tryz.prog 166 #[.agg #[.int .i64 x.1, .int .i64 x.2], .agg #[.int .i64 y.1, .int .i64 y.2]] W fun e w'=>e= .returned (.int .i64 (xM x y))∧∃q os',w'=grow (W.drewN q) os':=by
 unfold xM
 go_enter Tryz.func166,Tryz.ntmps166
 go_wp2_with(go_at_call 155;refine(FU _ _ _).mono ?_;rintro e w' ⟨rfl,rfl⟩)
 go_ret
 exact⟨rfl,0,_,by rw[alloc_eq_grow,alloc_eq_grow,grow_grow];rfl⟩
theorem Vh (g:Nat) (eg:∀args w,(callFunc g args).run Tryz.prog w= .ok (.enter g args) w)
 (hg:∀x y W,Calls Tryz.prog g #[.agg #[.int .i64 x.1, .int .i64 x.2], .agg #[.int .i64 y.1, .int .i64 y.2]] W fun e w'=>e= .returned (.int .i64 (xM x y))∧∃q os',w'=grow (W.drewN q) os')
 (w0 w:World) (v:Value) (n:Nat) (l:aZ) (h:OwnAt w0 w 206 2 v n (fD l)) (hl:l.length=n) (hn:n≤1000000):
 Calls Tryz.prog 153 #[v, .func (.func g) #[] #[]] w fun e w'=>e= .returned (.tuple #[])∧∃l':aZ,l'.Perm l∧l'.Pairwise (fun a b=>a.1≤b.1)∧OwnAt w0 w' 206 2 v n (fD l'):=by
 rcases Nat.eq_zero_or_pos n with rfl|h0
 ·obtain⟨a,c,rfl⟩:=h.shape
  obtain rfl:l=[]:=List.eq_nil_of_length_eq_zero hl
  exact(AnyF.slices_SortFunc_none Tryz.sortRun a c _ w).mono fun _ _ ⟨he,hw⟩=>⟨he,[],List.Perm.refl _,List.Pairwise.nil,by rw[hw];exact h⟩
 ·obtain⟨g',c',rfl,_,hlt,_⟩:=h.row h0
  have hc:=AnyQ.slices_SortFunc Tryz.sortRun 2 Tryz.isAgg206 Tryz.sizeOf206 encR (fun _=>rfl) (fun x v hv=>by simp[encR]at hv;rcases hv with rfl|rfl<;>rfl) xM abM g #[] g' 0 c' l.toArray w eg (fun _ _ _ _ x y=>hg x y _) (h.abJ h0 hl) hlt (by simp;omega)
  have hs:l.toArray.size=n:=by simpa using hl
  rw[hs]at hc
  refine Calls.mono hc fun e w' ⟨he,d',m,os,hp,hq,hw⟩=>⟨he,d'.toList,?_,?_,?_⟩
  ·have:=abL (d:=l.toArray) (d':=d') (by rw[hs];exact hp)
   simpa using this
  ·have e1:d'.size=n:=by rw[hp.1,hs]
   exact abN (by rw[e1];exact hq)
  ·rw[hw]
   exact h.sorted d' (by rw[hp.1,hs]) h0 m os
theorem Gq {l l':aZ} (hp:l'.Perm l) (hs:l'.Pairwise (fun a b=>a.1≤b.1)) (hb:∀r∈l,1≤r.1∧r.1≤r.2∧r.2≤1099511627776):dO (rZ l')∧(∀n,bK (rZ l') n↔bK l n)∧∀r∈l',Bd r:=by
 have hb':∀r∈l',1≤r.1∧r.1≤r.2∧r.2≤1099511627776:=fun r hr=>hb r (hp.mem_iff.1 hr)
 have iF:tV 1 l':=tV.Vg hs fun r hr=>⟨(hb' r hr).1,(hb' r hr).2.1⟩
 have hm:∀n,bK (rZ l') n↔bK l n:=fun n=>by
  rw[aaA iF]
  exact⟨fun⟨r,hr,h⟩=>⟨r,hp.mem_iff.1 hr,h⟩,fun⟨r,hr,h⟩=>⟨r,hp.mem_iff.2 hr,h⟩⟩
 refine⟨dO.of (aaB iF) fun n hn=>?_,hm,fun r hr=>by have:=hb' r hr;unfold Bd;omega⟩
 obtain⟨r,hr,h⟩:=(hm n).1 hn
 have:=hb r hr
 omega
theorem Ot:∀(l:aZ) (c:Int×Int),(jn c l).length≤l.length+1
 |[],c=>by simp[jn]
 |r::l,c=>by
  unfold jn
  split
  ·have:=Ot l (c.1,max c.2 r.2);simp only[List.length_cons];omega
  ·have:=Ot l r;simp only[List.length_cons];omega
theorem Vj (l:aZ):(rZ l).length≤l.length:=by
 cases l with
 |nil=>exact Nat.le_refl _
 |cons r l=>exact Ot l r
theorem abQ (n:Nat) (w:World) (hn:n≤1000000):Calls Tryz.prog 184 #[.slice none 0 0, .int .i64 n] w fun e w'=>∃v,e= .returned v∧OwnAt w w' 206 2 v 0 []:=by
 rcases Nat.eq_zero_or_pos n with rfl|h0
 ·go_enter Tryz.func184,Tryz.ntmps184
  go_wp2
  go_ret
  exact⟨_,rfl,OwnAt.nil (aj.refl _ _) _ _⟩
 ·obtain⟨i0,hi,hz0,hz1,hz2⟩:=info_parts DX
  have hrz:∀ty,(Builtin.append_ #[175,3] ty #[.slice none 0 0, .int .i64 (n:Int)]).run Tryz.prog w=
   .ok (.slice (some ⟨w.heap.size,0,none⟩) n (grownCap w n 0 206)) (w.drew.alloc (.cells (Builtin.zeroCells #[.int .i64 0, .int .i64 0] n++Builtin.zeroCells #[.int .i64 0, .int .i64 0] (grownCap w n 0 206-n)) 206)):=fun ty=>by
   have h:=Lib.run_append_grow_zeros w 175 3 ty 206 i0 _ .i64 .i64 Tryz.underlying175 Tryz.underlying3 hi hz0 none 0 0 [] (by simp[Builtin.firstCells]) n h0 (by omega) (by omega) (by omega) (by rw[hz2];omega) (by rw[hz2];exact growslice_fits (by omega) (by omega))
   simp only[Nat.zero_add,Array.empty_append,List.nil_append]at h
   simpa[Value.cells]using h
  have hG:=grownCap_ge w n 0 206
  have hM:=grownCap_le_maxLen w n 0 206 (by unfold maxLen;omega)
  generalize grownCap w n 0 206=G at*
  have HG:=ah hG;clear hG
  have hM:(G:Int)≤9223372036854775807:=by unfold maxLen at hM;omega
  go_enter Tryz.func184,Tryz.ntmps184
  go_wp2_with(at_builtin;refine Lib.wpList_append_run _ rfl _ _ _ _ rfl _ _ rfl rfl _ _ (hrz _) ?_)
  go_ret
  refine⟨_,rfl,⟨⟨rfl, .inr ⟨w.heap.size,G,_,rfl,Nat.zero_le _,heap_alloc_new _ _,Nat.zero_le _,by unfold maxLen;omega,?_,rfl⟩⟩,?_,(aj.drew _ _).alloc1⟩⟩
  ·rw[Array.size_append,size_zeroCells,size_zeroCells]
   have:=HG.out
   show n*2+(G-n)*2=G*2
   omega
  ·intro k hk
   simp[Value.ownBlock]at hk
   omega
end Go.Proofs.YtlhmbkjdfjoilaaGreat
namespace Go.Proofs.YtlhmbkjdfjoilaaGreat
open Go.RowKit Go.Sort
theorem abR (w:World) (b c:Nat) (va vb:Value) (a a':aZ) (h0:w.cell? ⟨b,0,none⟩=some va) (h1:w.cell? ⟨b,1,none⟩=some vb) (ha:k_ w va a) (hb:k_ w vb a') (la:a.length≤200000) (lb:a'.length≤200000):
 Calls Tryz.prog 152 #[.slice (some ⟨b,0,none⟩) 2 c] w fun e w'=>∃v',e= .returned v'∧OwnAt w w' 206 2 v' (a.length+a'.length) (fD (a++a')):=by
 obtain⟨i0,hi,hz0,hz1,hz2⟩:=info_parts DX
 obtain⟨aA,cA,rfl⟩:=ha.sl
 obtain⟨aB,cB,rfl⟩:=hb.sl
 have HA:=ah ha;clear ha
 have HB:=ah hb;clear hb
 have HG:=ah (fun w'=>abQ (a.length+a'.length) w' (by omega))
 generalize hn:a.length=n at*
 generalize hm:a'.length=m at*
 have HN:=ah hn;clear hn
 have HM:=ah hm;clear hm
 go_enter Tryz.func152,Tryz.ntmps152
 go_wp2
 go_loop [3,11] (fun s i=>∃k:Nat,k≤2∧i= .int .i64 k∧s= .int .i64 ((if k=0 then 0 else if k=1 then n else n+m:Nat):Int)) (fun _ i=>2-(intOf i).toNat)
 case atStart=>exact⟨0,by omega,rfl,rfl⟩
 case round=>
  obtain⟨k,hk,rfl,rfl⟩:=hrel
  rcases(by omega:k=0∨k=1∨k=2)with rfl|rfl|rfl
  ·rw[if_pos rfl]
   go_wp2
   go_round
   case rel=>exact⟨1,by omega,rfl,by simp⟩
   case measure=>simp[intOf]
  ·rw[if_neg (by decide),if_pos rfl]
   go_wp2
   go_round
   case rel=>exact⟨2,by omega,rfl,by simp⟩
   case measure=>simp[intOf]
  ·rw[if_neg (by decide),if_neg (by decide)]
   go_wp2_with(go_at_call 184;refine(HG.out _).mono ?_;rintro e w1 ⟨v1,rfl,ho1⟩;obtain⟨a1,c1,rfl⟩:=ho1.shape;have dZ:=ah ho1;clear ho1)
   go_loopw [6,27] (fun v i ww=>∃k:Nat,k≤2∧i= .int .i64 k∧OwnAt w ww 206 2 v (if k=0 then 0 else if k=1 then n else n+m) (if k=0 then []else if k=1 then fD a else fD (a++a'))) (fun _ i _=>2-(intOf i).toNat)
   case atStart=>exact⟨0,by omega,rfl,dZ.out⟩
   case round=>
    obtain⟨k,hk,rfl,ho⟩:=hrel
    rcases(by omega:k=0∨k=1∨k=2)with rfl|rfl|rfl
    ·have ho:OwnAt w wr 206 2 _ 0 []:=ho
     obtain⟨a2,c2,rfl⟩:=ho.shape
     have HO:=ah ho;clear ho
     have q0:=HO.out.aI.cell' h0 id
     go_wp2_with(at_builtin;refine rC w _ _ rfl (.tmp 31) (.tmp 32) 175 175 rfl 206 206 i0 _ 2 16 Tryz.underlying175 Tryz.underlying175 hi hz0 hz1 hz2 (by decide) (by decide) _ _ _ HO.out _ n rfl rfl (HN.out▸HA.out.aS HO.out.aI) (by rw[xH,HN.out]) (Ns _) (by simp only[maxLen];omega) (by omega) ?_;intro ad cc w5 dP;have OW:=ah dP;clear dP)
     go_roundw
     case rel=>exact⟨1,by omega,rfl,by have:=OW.out;simp at this⊢;exact this⟩
     case measure=>simp[intOf]
    ·have ho:OwnAt w wr 206 2 _ n (fD a):=ho
     obtain⟨a2,c2,rfl⟩:=ho.shape
     have HO:=ah ho;clear ho
     have q1:=HO.out.aI.cell' h1 id
     go_wp2_with(at_builtin;refine rC w _ _ rfl (.tmp 31) (.tmp 32) 175 175 rfl 206 206 i0 _ 2 16 Tryz.underlying175 Tryz.underlying175 hi hz0 hz1 hz2 (by decide) (by decide) _ _ _ HO.out _ m rfl rfl (HM.out▸HB.out.aS HO.out.aI) (by rw[xH,HM.out]) (Ns _) (by simp only[maxLen];omega) (by omega) ?_;intro ad cc w5 dP;have OW:=ah dP;clear dP)
     go_roundw
     case rel=>exact⟨2,by omega,rfl,by have:=OW.out;rw[oO];simp at this⊢;exact this⟩
     case measure=>simp[intOf]
    ·have ho:OwnAt w wr 206 2 _ (n+m) (fD (a++a')):=ho
     obtain⟨a2,c2,rfl⟩:=ho.shape
     have HO:=ah ho;clear ho
     go_wp2
     go_ret
     exact⟨_,rfl,HO.out⟩
theorem abS (w:World) (va vb:Value) (a b:aZ) (ha:k_ w va a) (hb:k_ w vb b) (ra:dO a) (rb:dO b) (la:a.length≤100000) (lb:b.length≤100000):
 Calls Tryz.prog 115 #[va,vb] w fun e w'=>∃v' out,e= .returned v'∧OwnAt w w' 206 2 v' out.length (fD out)∧dO out∧(∀n,bK out n↔bK a n∨bK b n)∧out.length≤a.length+b.length:=by
 obtain⟨aA,cA,rfl⟩:=ha.sl
 obtain⟨aB,cB,rfl⟩:=hb.sl
 have yT:=ah (both_any w _ _ a b ha ra.fits hb rb.fits)
 have hboth:tf (dO a∧dO b)=true:=gu ⟨ra,rb⟩
 rw[hboth]at yT
 clear hboth
 have hbd:∀r∈a++b,1≤r.1∧r.1≤r.2∧r.2≤1099511627776:=fun r hr=>by
  rcases List.mem_append.1 hr with hr|hr
  ·have:=mQ ra.1 r hr;have:=ra.2 r hr;omega
  ·have:=mQ rb.1 r hr;have:=rb.2 r hr;omega
 have kE:=ah hbd;clear hbd
 clear ra rb
 have HA:=ah ha;clear ha
 have HB:=ah hb;clear hb
 have zV:=ah la
 have JU:=ah lb
 have hlab:(a++b).length=a.length+b.length:=List.length_append
 have Gs:=ah hlab;clear hlab
 have hl3:a.length+b.length≤200000:=by omega
 have ku:=ah hl3;clear hl3
 generalize hn:a.length=n at*
 generalize hm:b.length=m at*
 have HN:=ah hn;clear hn
 have HM:=ah hm;clear hm
 clear la lb
 have eg:∀args w,(callFunc 154 args).run Tryz.prog w= .ok (.enter 154 args) w:=enters_of Tryz.func154 (by kernel_rfl) rfl
 go_enter Tryz.func115,Tryz.ntmps115
 go_wp2_with(first
  |(go_at_call 151;refine yT.out.mono ?_;rintro e w1 ⟨rfl,hw1⟩;have HW1:=ah hw1;clear hw1;have HX0:=ah (fun X=>aG (heap_alloc_new w1 (.cells #[.slice aA n cA, .slice aB m cB] X)) 0 rfl);have Gt:=ah (fun X=>aG (heap_alloc_new w1 (.cells #[.slice aA n cA, .slice aB m cB] X)) 1 rfl))
  |(go_at_call 152;refine(abR _ _ _ _ _ a b (HX0.out _) (Gt.out _) (HA.out.aS HW1.out.alloc1) (HB.out.aS HW1.out.alloc1) (by rw[HN.out];exact Nat.le_trans zV.out (by decide)) (by rw[HM.out];exact Nat.le_trans JU.out (by decide))).mono ?_;rintro e w2 ⟨v2,rfl,ho2⟩;rw[HN.out,HM.out]at ho2;obtain⟨a2,c2,rfl⟩:=ho2.shape;have gW:=ah ho2;clear ho2)
  |(go_at_call 153;refine(Vh 154 eg abO _ _ _ (n+m) (a++b) gW.out Gs.out (Nat.le_trans ku.out (by decide))).mono ?_;rintro e w3 ⟨rfl,l',hp,hs,ho3⟩;have HP:=ah hp;clear hp;have HS:=ah hs;clear hs;have dw:=ah ho3;clear ho3)
  |(go_at_call 156;refine(UY _ _ l' (by have:=dw.out.rd;rw[←Gs.out,←HP.out.length_eq]at this;rw[←Gs.out,←HP.out.length_eq];exact this) (by rw[HP.out.length_eq,Gs.out];exact ku.out) (Gq HP.out HS.out kE.out).2.2).mono ?_;rintro e w4 ⟨v4,rfl,nP⟩;obtain⟨a4,c4,rfl⟩:=nP.shape;have mV:=ah nP;clear nP))
 go_ret
 have hj:=Gq HP.out HS.out kE.out
 refine⟨_,rZ l',rfl,⟨mV.out.own,fun k hk=>?_,?_⟩,hj.1,fun x=>by rw[hj.2.1,FN],Nat.le_trans (Vj l') (by rw[HP.out.length_eq,Gs.out];exact Nat.le_refl _)⟩
 ·have:=mV.out.new k hk
  have:=dw.out.aI.size
  have:=HW1.out.size
  simp at*
  omega
 ·exact((HW1.out.alloc1).aH dw.out.aI).aH mV.out.aI
open Go.RowKit
def Ou (g:Nat) (how:Int):Prop:=∀(w:World) (va vb:Value) (a b:aZ),k_ w va a→k_ w vb b→dO a→dO b→a.length≤20000→b.length≤20000→
 Calls Tryz.prog g #[va,vb] w fun e w'=>∃v' out,e= .returned v'∧OwnAt w w' 206 2 v' out.length (fD out)∧dO out∧(∀n,bK out n↔fV how (bK a n) (bK b n))∧out.length≤200000
theorem abT:Ou 115 0:=fun w va vb a b ha hb ra rb la lb=>
 (abS w va vb a b ha hb ra rb (by omega) (by omega)).mono fun _ _ ⟨v',out,h1,h2,h3,h4,h5⟩=>⟨v',out,h1,h2,h3,fun n=>by rw[h4];unfold fV;simp,by omega⟩
theorem JV:∀ {s l:List Int},s.Nodup→(∀x∈s,x∈l)→s.length≤l.length
 |[],_,_,_=>Nat.zero_le _
 |x::s,l,hn,h=>by
  have hx:=h x List.mem_cons_self
  have hn2:=List.nodup_cons.1 hn
  have:=JV (s:=s) (l:=l.erase x) hn2.2 fun y hy=>(List.mem_erase_of_ne (by intro e;subst e;exact hn2.1 hy)).2 (h y (List.mem_cons_of_mem _ hy))
  rw[List.length_erase_of_mem hx]at this
  have hl:0<l.length:=List.length_pos_of_mem hx
  simp only[List.length_cons]
  omega
theorem Ov:∀(b:aZ) (lo hi:Int) (r:Int×Int),r∈ny lo hi b→r.1=lo∨∃x∈b,r.1=x.2+1
 |[],lo,hi,r,h=>by
  have h:r∈(if lo≤hi then [(lo,hi)]else []:aZ):=h
  split at h
  ·simp at h;subst h;exact .inl rfl
  ·cases h
 |x::b,lo,hi,r,h=>by
  have h:r∈(if x.2<lo∨hi<x.1 then ny lo hi b else(if lo<x.1 then [(lo,x.1-1)]else [])++ny (x.2+1) hi b):=h
  split at h
  ·rcases Ov b lo hi r h with h|⟨y,hy,h⟩
   ·exact .inl h
   ·exact .inr ⟨y,List.mem_cons_of_mem _ hy,h⟩
  ·rcases List.mem_append.1 h with h|h
   ·split at h
    ·simp at h;subst h;exact .inl rfl
    ·cases h
   ·rcases Ov b _ hi r h with h|⟨y,hy,h⟩
    ·exact .inr ⟨x,List.mem_cons_self,h⟩
    ·exact .inr ⟨y,List.mem_cons_of_mem _ hy,h⟩
theorem JW:∀ {l:aZ} {lo:Int},iR lo l→(l.map (·.1)).Nodup
 |[],_,_=>List.nodup_nil
 |r::l,lo,h=>by
  rw[List.map_cons,List.nodup_cons]
  refine⟨fun hm=>?_,JW h.2.2⟩
  obtain⟨x,hx,he⟩:=List.mem_map.1 hm
  have:=mQ h.2.2 x hx
  have:=h.2.1
  omega
theorem abU {a b:aZ} (ra:dO a) (rb:dO b):(tN a b).length≤a.length+b.length:=by
 have hn:=JW (MZ a b 1 1 ra.1 rb.1)
 have:=JV (l:=a.map (·.1)++b.map (fun x=>x.2+1)) hn fun x hx=>by
  obtain⟨r,hr,rfl⟩:=List.mem_map.1 hx
  obtain⟨y,hy,hr⟩:=List.mem_flatMap.1 hr
  rcases Ov b y.1 y.2 r hr with h|⟨z,hz,h⟩
  ·exact List.mem_append_left _ (List.mem_map.2 ⟨y,hy,h.symm⟩)
  ·exact List.mem_append_right _ (List.mem_map.2 ⟨z,hz,h.symm⟩)
 simpa using this
theorem abV:Ou 130 2:=fun w va vb a b ha hb ra rb la lb=>
 (abH w va vb a b ha hb ra rb la lb).mono fun _ _ ⟨v',h1,h2⟩=>⟨v',tN a b,h1,h2,dO.of (MZ a b 1 1 ra.1 rb.1) fun n hn=>(ra.Nj ((M_ a b 1 n rb.1).1 hn).1).2,fun n=>by rw[M_ a b 1 n rb.1];unfold fV;simp,by have:=abU ra rb;omega⟩
structure Ox (how:Int) (a b:bD) (k:Nat) (p:Nat→aZ):Prop where
 done:∀d,d<k→dO (p d)∧(∀n,bK (p d) n↔fV how (kS a d n) (kS b d n))∧(p d).length≤200000
 todo:∀d,k≤d→d<4→p d=dA a d
theorem Ox.NJ {how:Int} {a b:bD} {p:Nat→aZ} (h:Ox how a b 4 p):kZ how a b (nN fun d=>p d.toNat):=by
 refine kZ.whole (fun d h0 h4=>?_) fun d n h0 h4=>?_
 ·exact(h.done d.toNat (by omega)).1
 ·have:=(h.done d.toNat (by omega)).2.1 n
  rwa [Int.toNat_of_nonneg h0]at this
structure rH (w0 w:World) (pb:Nat) (A:Nat→Sl) (p:Nat→aZ):Prop where
 blk:w.heap[pb]?=some (.cells #[.slice (A 0).1 (A 0).2.1 (A 0).2.2, .slice (A 1).1 (A 1).2.1 (A 1).2.2, .slice (A 2).1 (A 2).2.1 (A 2).2.2, .slice (A 3).1 (A 3).2.1 (A 3).2.2] 177 (0,0))
 new:w0.heap.size≤pb
 own:∀d,d<4→iH (fun k=>k=pb) w0 w 206 2 (.slice (A d).1 (A d).2.1 (A d).2.2) (p d).length (fD (p d))
theorem rH.cell {w0 w:World} {pb:Nat} {A:Nat→Sl} {p:Nat→aZ} (h:rH w0 w pb A p) {d:Nat} (hd:d<4):w.cell? ⟨pb,d,none⟩=some (.slice (A d).1 (A d).2.1 (A d).2.2):=by
 refine aG h.blk d ?_
 rcases(by omega:d=0∨d=1∨d=2∨d=3)with rfl|rfl|rfl|rfl<;>rfl
theorem rH.keep {w0 w w':World} {pb:Nat} {A:Nat→Sl} {p:Nat→aZ} (h:rH w0 w pb A p) (f:aj aF w w'):rH w0 w' pb A p:=
 ⟨f.blk h.blk id,h.new,fun d hd=>(h.own d hd).keep f⟩
theorem rH.start {w0 w:World} {A:Nat→Sl} {p:Nat→aZ} (h:PartsAt w0 w (fun d=> .slice (A d).1 (A d).2.1 (A d).2.2) p):
 rH w0 (w.alloc (.cells #[.slice (A 0).1 (A 0).2.1 (A 0).2.2, .slice (A 1).1 (A 1).2.1 (A 1).2.2, .slice (A 2).1 (A 2).2.1 (A 2).2.2, .slice (A 3).1 (A 3).2.1 (A 3).2.2] 177)) w.heap.size A p:=
 ⟨heap_alloc_new w _,(h.own 0 (by omega)).aI.size,fun d hd=>(h.own d hd).away (aj.alloc _ _ _) fun k hk=>by rw[hk];exact Nat.le_refl _⟩
theorem rH.set {w0 w w':World} {pb:Nat} {A:Nat→Sl} {p:Nat→aZ} (h:rH w0 w pb A p) {d:Nat} (hd:d<4) {t:Sl} {out:aZ} (ho:OwnAt w w' 206 2 (.slice t.1 t.2.1 t.2.2) out.length (fD out)):
 rH w0 (w'.setCell ⟨pb,d,none⟩ (.slice t.1 t.2.1 t.2.2)) pb (upd A d t) (upd p d out):=by
 have hk:=h.keep ho.aI
 have hs:=eY hk.blk d (.slice t.1 t.2.1 t.2.2)
 refine⟨?_,h.new,fun c hc=>?_⟩
 ·rw[hs]
  rcases(by omega:d=0∨d=1∨d=2∨d=3)with rfl|rfl|rfl|rfl<;>rfl
 ·by_cases he:c=d
  ·subst he
   rw[upd_same,upd_same]
   have hb:iH (fun k=>k=pb) w0 w' 206 2 (.slice t.1 t.2.1 t.2.2) out.length (fD out):=
    ⟨⟨ho.own,fun k hk2=>by have:=ho.new k hk2;have:=(h.own c hc).at_.aI.size;omega,(h.own c hc).at_.aI.aH ho.aI⟩,fun k hk2 hp=>by have:=ho.new k hk2;have:=lt_of_block h.blk;omega⟩
   exact hb.set rfl h.new _
  ·rw[qK _ _ he,qK _ _ he]
   exact(hk.own c hc).set rfl h.new _
theorem Vk (g:Nat) (how:Int) (eg:∀args w,(callFunc g args).run Tryz.prog w= .ok (.enter g args) w) (HG:Ou g how)
 (w:World) (va vb:Value) (a b:bD) (ha:je w va a) (hb:je w vb b) (fa:kU a) (fb:kU b) (ra:eP a) (rb:eP b) (la:a.length≤20000) (lb:b.length≤20000):
 Calls Tryz.prog 114 #[va,vb, .func (.func g) #[] #[]] w fun e w'=>∃v' c,e= .returned v'∧OwnAt w w' 92 3 v' c.length (dY c)∧kZ how a b c∧c.length≤800000:=by
 obtain⟨aA,cA,rfl⟩:=ha.sl
 obtain⟨aB,cB,rfl⟩:=hb.sl
 have HA:=ah (fun w' (h:aj aF w w')=>JM w' _ a (Rd.aS ha h) fa (by omega))
 have HB:=ah (fun w' (h:aj aF w w')=>JM w' _ b (Rd.aS hb h) fb (by omega))
 have LA:=ah (fun d=>Nat.le_trans (BD a d) la)
 have LB:=ah (fun d=>Nat.le_trans (BD b d) lb)
 have RA:=ah ra;clear ra
 have RB:=ah rb;clear rb
 have JX:=ah HG;clear HG
 clear ha hb fa fb la lb
 go_enter Tryz.func114,Tryz.ntmps114
 go_wp2_with(first
  |(go_at_call_of 129 aA;refine(HA.out _ (aj.refl _ _)).mono ?_;rintro e w1 ⟨hf1,hp1,-⟩;obtain⟨A,rfl,hvs⟩:=hp1 RA.out;clear hp1;have dN:=ah hf1;clear hf1;have z_:=ah hvs;clear hvs)
  |(go_at_call_of 129 aB;refine(HB.out _ (dN.out.alloc1)).mono ?_;rintro e w2 ⟨hf2,hp2,-⟩;obtain⟨B,rfl,hus⟩:=hp2 RB.out;clear hp2;have HF2:=ah hf2;clear hf2;have Vl:=ah hus;clear hus))
 have Oy:=ah (((rH.start z_.out).keep HF2.out).keep (aj.alloc aF w2 (.cells #[.slice (B 0).1 (B 0).2.1 (B 0).2.2, .slice (B 1).1 (B 1).2.1 (B 1).2.2, .slice (B 2).1 (B 2).2.1 (B 2).2.2, .slice (B 3).1 (B 3).2.1 (B 3).2.2] 177)))
 have Gu:=ah (rH.start Vl.out)
 have hpq:w1.heap.size<w2.heap.size:=by have:=HF2.out.size;simp at this;omega
 have HPQ:=ah hpq;clear hpq
 clear z_ Vl HA HB
 go_loopw [28] (fun i ww=>∃(k:Nat) (A':Nat→Sl) (p:Nat→aZ),k≤4∧i= .int .i64 k∧rH w ww w1.heap.size A' p∧Ox how a b k p∧
  aj (fun k=>k=w1.heap.size) (w2.alloc (.cells #[.slice (B 0).1 (B 0).2.1 (B 0).2.2, .slice (B 1).1 (B 1).2.1 (B 1).2.2, .slice (B 2).1 (B 2).2.1 (B 2).2.2, .slice (B 3).1 (B 3).2.1 (B 3).2.2] 177)) ww) (fun i _=>4-(intOf i).toNat)
 case atStart=>exact⟨0,A,fun d=>dA a d,by omega,rfl,Oy.out,⟨fun d hd=>by omega,fun d _ _=>rfl⟩,aj.refl _ _⟩
 case round=>
  obtain⟨k,A',p,hk,rfl,hp,hbu,Gv⟩:=hrel
  have HP:=ah hp;clear hp
  have Gw:=ah hbu;clear hbu
  have D_:=ah Gv;clear Gv
  by_cases hlt:k<4
  ·have hki:(k:Int)<4:=by omega
   have hkd:decide ((k:Int)<4)=true:=by simpa using hki
   have hpc:=HP.out.cell hlt
   have hqc:=D_.out.cell' (Gu.out.cell hlt) (fun h=>by have:=HPQ.out;have h:w2.heap.size=w1.heap.size:=h;omega)
   have hqo:=Rd.keep (Gu.out.own k hlt).at_.rd D_.out (fun j hj h=>by have:=(Gu.out.own k hlt).at_.new j hj;have:=HPQ.out;have:=HF2.out.size;have h:j=w1.heap.size:=h;simp at*;omega)
   have htd:=Gw.out.todo k (Nat.le_refl _) hlt
   have hpo:=(HP.out.own k hlt).at_.rd
   rw[htd]at hpo
   have sF:=ah hpo;clear hpo htd
   have Oz:=ah hqo;clear hqo
   have rJ:=ah (fun w' (h:aj aF wr w')=>JX.out w' _ _ (dA a k) (dA b k) (sF.out.aS h) (Oz.out.aS h) (RA.out.2 k (by omega) (by omega)) (RB.out.2 k (by omega) (by omega)) (LA.out k) (LB.out k))
   generalize A' k=t at*
   generalize B k=u at*
   have hst:aj aF wr wr.drew:=aj.drew _ _
   go_wp2_with fail
   refine iq (S:=fun w'=>w'.cell? ⟨w1.heap.size,k,none⟩=some (.slice t.1 t.2.1 t.2.2)∧w'.cell? ⟨w2.heap.size,k,none⟩=some (.slice u.1 u.2.1 u.2.2)) 10 (by kernel_rfl) ⟨hpc,hqc⟩ ?_
   intro hS
   refine aX 0 31 rfl rfl ?_
   refine aX 1 32 rfl rfl ?_
   try simp only[Act.put,aO,aN,aJ]
   refine aX 2 33 rfl rfl ?_
   refine aX 3 34 rfl rfl ?_
   try simp only[Act.put,aO,aN,aJ]
   refine aX 4 35 rfl rfl ?_
   refine aX 5 36 rfl rfl ?_
   try simp only[Act.put,aO,aN,aJ]
   refine aX 6 37 rfl rfl ?_
   refine aX 7 38 rfl rfl ?_
   try simp only[Act.put,aO,aN,aJ]
   refine bg (i:=8) (by kernel_rfl) rfl (fun K hK=>?_)
   go_simp
   refine(rJ.out _ hst).mono ?_
   rintro e w3 ⟨v3,out,rfl,ho3,hr3,yV,hl3⟩
   obtain⟨a3,c3,rfl⟩:=ho3.shape
   have dw:=ah ho3;clear ho3
   have HR3:=ah hr3;clear hr3
   have Gf:=ah yV;clear yV
   have ku:=ah hl3;clear hl3
   have hS3:w3.cell? ⟨w1.heap.size,k,none⟩=some (.slice t.1 t.2.1 t.2.2)∧w3.cell? ⟨w2.heap.size,k,none⟩=some (.slice u.1 u.2.1 u.2.2):=⟨dw.out.aI.cell' hS.1 id,dw.out.aI.cell' hS.2 id⟩
   refine hK.out _ _ hS3 ?_
   clear hK K
   try simp only[Act.put,aO,aN,aJ]
   refine aX 9 40 rfl rfl ?_
   try simp only[Act.put,aO,aN,aJ]
   refine gJ (by kernel_rfl) (by kernel_rfl) rfl (fun K hK=>?_)
   have hcz:=hS3.1
   have hfz:w3.frozen? ⟨w1.heap.size,k,none⟩=false:=aW ((HP.out.keep hst).keep dw.out.aI).blk k
   have Gx:=ah ((HP.out.keep hst).set hlt (t:=(a3,out.length,c3)) dw.out)
   clear hS hS3 hpc hqc
   go_simp
   refine hK.out _ _ ?_
   clear hK K hcz hfz
   go_wp2
   go_roundw
   case rel=>exact⟨k+1,_,_,by omega,by go_num,Gx.out,⟨fun d hd=>by
    by_cases he:d=k
    ·subst he;rw[upd_same];exact⟨HR3.out,Gf.out,ku.out⟩
    ·rw[qK _ _ he];exact Gw.out.done d (by omega),fun d h1 h2=>by
    rw[qK _ _ (by omega)];exact Gw.out.todo d (by omega) h2⟩,((D_.out.aH hst).aH dw.out.aI).trans (aj.setCell (S:=fun k=>k=w1.heap.size) w3 (p:=⟨w1.heap.size,k,none⟩) (.inl rfl) _) fun _ _ h=>h⟩
   case measure=>simp[intOf];omega
  ·obtain rfl:k=4:=by omega
   have c0:wr.cell? ⟨w1.heap.size,0,none⟩=some (.slice (A' 0).1 (A' 0).2.1 (A' 0).2.2):=HP.out.cell (by omega)
   have c1:wr.cell? ⟨w1.heap.size,1,none⟩=some (.slice (A' 1).1 (A' 1).2.1 (A' 1).2.2):=HP.out.cell (by omega)
   have c2:wr.cell? ⟨w1.heap.size,2,none⟩=some (.slice (A' 2).1 (A' 2).2.1 (A' 2).2.2):=HP.out.cell (by omega)
   have c3:wr.cell? ⟨w1.heap.size,3,none⟩=some (.slice (A' 3).1 (A' 3).2.1 (A' 3).2.2):=HP.out.cell (by omega)
   go_wp2_with(go_at_call 128;refine(Vd _ A' p (fun d hd=>(HP.out.own d hd).at_.rd) (fun d hd=>(Gw.out.done d hd).2.2)).mono ?_;rintro e w3 ⟨v3,c,rfl,ho3,hc3,hl3⟩;obtain⟨a3,k3,rfl⟩:=ho3.shape;have dw:=ah ho3;clear ho3;have BK:=ah hc3;clear hc3;have ku:=ah hl3;clear hl3)
   go_ret
   exact⟨_,c,rfl,dw.out.base (HP.out.own 0 (by omega)).at_.aI,by rw[BK.out];exact Gw.out.NJ,ku.out⟩
theorem abW:∀args w,(callFunc 115 args).run Tryz.prog w= .ok (.enter 115 args) w:=enters_of Tryz.func115 (by kernel_rfl) rfl
theorem abX:∀args w,(callFunc 130 args).run Tryz.prog w= .ok (.enter 130 args) w:=enters_of Tryz.func130 (by kernel_rfl) rfl
theorem abY (w:World) (va vb:Value) (a b:bD) (ha:je w va a) (hb:je w vb b) (fa:kU a) (fb:kU b) (ra:eP a) (rb:eP b) (la:a.length≤20000) (lb:b.length≤20000):
 Calls Tryz.prog 78 #[va,vb] w fun e w'=>∃v' c,e= .returned v'∧OwnAt w w' 92 3 v' c.length (dY c)∧kZ 0 a b c∧c.length≤800000:=by
 have HC:=ah (Vk _ 0 abW abT w va vb a b ha hb fa fb ra rb la lb)
 clear ha hb fa fb ra rb la lb
 go_enter Tryz.func78,Tryz.ntmps78
 go_wp2_with(go_at_call 114;refine HC.out.mono ?_;rintro e w1 ⟨v1,c,rfl,ho1,hby,hol⟩;obtain⟨a1,c1,rfl⟩:=ho1.shape;have dZ:=ah ho1;clear ho1;have HB:=ah hby;clear hby;have HL:=ah hol;clear hol)
 go_ret
 exact⟨_,c,rfl,dZ.out,HB.out,HL.out⟩
theorem abZ (w:World) (va vb:Value) (a b:bD) (ha:je w va a) (hb:je w vb b) (fa:kU a) (fb:kU b) (ra:eP a) (rb:eP b) (la:a.length≤20000) (lb:b.length≤20000):
 Calls Tryz.prog 93 #[va,vb] w fun e w'=>∃v' c,e= .returned v'∧OwnAt w w' 92 3 v' c.length (dY c)∧kZ 2 a b c∧c.length≤800000:=by
 have HC:=ah (Vk _ 2 abX abV w va vb a b ha hb fa fb ra rb la lb)
 clear ha hb fa fb ra rb la lb
 go_enter Tryz.func93,Tryz.ntmps93
 go_wp2_with(go_at_call 114;refine HC.out.mono ?_;rintro e w1 ⟨v1,c,rfl,ho1,hby,hol⟩;obtain⟨a1,c1,rfl⟩:=ho1.shape;have dZ:=ah ho1;clear ho1;have HB:=ah hby;clear hby;have HL:=ah hol;clear hol)
 go_ret
 exact⟨_,c,rfl,dZ.out,HB.out,HL.out⟩
theorem JY (w:World) (v:Value) (c:bD) (hv:je w v c) (hf:kU c) (hl:c.length≤100000):
 Calls Tryz.prog 92 #[v] w fun e w'=>e= .returned (.bool (tf (eP c)))∧aj aF w w':=by
 have HC:=ah (JM w v c hv hf hl)
 obtain⟨aA,cA,rfl⟩:=hv.sl
 clear hv hf hl
 by_cases hr:eP c
 ·rw[gu hr]
  go_enter Tryz.func92,Tryz.ntmps92
  go_wp2_with(go_at_call 129;refine HC.out.mono ?_;rintro e w1 ⟨hf1,hp1,-⟩;obtain⟨A,rfl,-⟩:=hp1 hr;clear hp1;have dN:=ah hf1;clear hf1)
  go_ret
  exact⟨rfl,dN.out.alloc1⟩
 ·rw[eH hr]
  go_enter Tryz.func92,Tryz.ntmps92
  go_wp2_with(go_at_call 129;refine HC.out.mono ?_;rintro e w1 ⟨hf1,-,hp1⟩;obtain rfl:=hp1 hr;clear hp1;have dN:=ah hf1;clear hf1)
  go_ret
  exact⟨rfl,dN.out.alloc1⟩
theorem ab1 (w:World) (va vb:Value) (a b:bD) (ha:je w va a) (hb:je w vb b) (fa:kU a) (fb:kU b) (la:a.length≤20000) (lb:b.length≤20000):
 Calls Tryz.prog 70 #[va,vb] w fun e w'=>e= .returned (.bool (tf (eP a∧eP b∧zO a b)))∧aj aF w w':=by
 obtain⟨aA,cA,rfl⟩:=ha.sl
 obtain⟨aB,cB,rfl⟩:=hb.sl
 have yX:=ah (JY w _ a ha fa (by omega))
 have Ea:=ah (fun w' (h:aj aF w w')=>JY w' _ b (Rd.aS hb h) fb (by omega))
 have HCM:=ah (fun w' (h:aj aF w w') ra rb=>abZ w' _ _ a b (Rd.aS ha h) (Rd.aS hb h) fa fb ra rb la lb)
 clear ha hb fa fb la lb
 by_cases ra:eP a
 ·rw[gu ra]at yX
  by_cases rb:eP b
  ·rw[gu rb]at Ea
   have RA:=ah ra
   have RB:=ah rb
   have hall:tf (eP a∧eP b∧zO a b)=tf (zO a b):=Dv ⟨fun h=>h.2.2,fun h=>⟨ra,rb,h⟩⟩
   rw[hall]
   clear ra rb hall
   go_enter Tryz.func70,Tryz.ntmps70
   go_wp2_with(first
    |(go_at_call_of 92 aA;refine yX.out.mono ?_;rintro e w1 ⟨rfl,hw1⟩;have HW1:=ah hw1;clear hw1)
    |(go_at_call_of 92 aB;refine(Ea.out _ HW1.out).mono ?_;rintro e w2 ⟨rfl,hw2⟩;have HW2:=ah (HW1.out.aH hw2);clear hw2)
    |(go_at_call 93;refine(HCM.out _ HW2.out RA.out RB.out).mono ?_;rintro e w3 ⟨v3,c,rfl,ho3,hby,hol⟩;obtain⟨a3,c3,rfl⟩:=ho3.shape;have dw:=ah ho3;clear ho3;have HB:=ah hby;clear hby;clear hol))
   go_ret
   refine⟨dF (Dw ?_),HW2.out.aH dw.out.aI⟩
   rw[←HB.out.Ug]
   simp
  ·rw[eH rb]at Ea
   rw[eH fun h=>rb h.2.1]
   clear ra rb
   go_enter Tryz.func70,Tryz.ntmps70
   go_wp2_with(first
    |(go_at_call_of 92 aA;refine yX.out.mono ?_;rintro e w1 ⟨rfl,hw1⟩;have HW1:=ah hw1;clear hw1)
    |(go_at_call_of 92 aB;refine(Ea.out _ HW1.out).mono ?_;rintro e w2 ⟨rfl,hw2⟩;have HW2:=ah (HW1.out.aH hw2);clear hw2))
   go_ret
   exact⟨rfl,HW2.out⟩
 ·rw[eH ra]at yX
  rw[eH fun h=>ra h.1]
  clear ra
  go_enter Tryz.func70,Tryz.ntmps70
  go_wp2_with(go_at_call_of 92 aA;refine yX.out.mono ?_;rintro e w1 ⟨rfl,hw1⟩;have HW1:=ah hw1;clear hw1)
  go_ret
  exact⟨rfl,HW1.out⟩
end Go.Proofs.YtlhmbkjdfjoilaaGreat
