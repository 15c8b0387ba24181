/- Words for the law BundleOrder: R8a, R8b, TAll, TEnt. -/
import Derived.Test.YtabkpccdnkjoiaaGreatBundleOrderG0
import Derived.Test.YtabkpccdnkjoiaaGreatBundleOrderG4
import Derived.Test.YtabkpccdnkjoiaaGreatBundleOrderG7
set_option linter.unusedSimpArgs false
set_option linter.unusedVariables false
set_option maxHeartbeats 32000000
set_option maxRecDepth 1000000
namespace Go.Proofs.YtabkpccdnkjoiaaGreat
open Go.RowKit
def aG.v (e:aG):Value:= .agg #[.int .i64 e.dc, .int .i64 e.n, .string e.s, .int .i64 e.k]
theorem uV (e:aG) (hs:e.s.size≤9223372036854775807) (w:World):Calls Tryz.prog 239 #[e.v] w fun x w'=>x= .returned (.bool (dJ e))∧aj au w w':=by
 unfold aG.v
 have c2:(w.alloc (.cells #[.int .i64 e.dc, .int .i64 e.n, .string e.s, .int .i64 e.k] 172)).cell? ⟨w.heap.size,2,none⟩=some (.string e.s):=aF (heap_alloc_new w _) 2 rfl
 have c3:(w.alloc (.cells #[.int .i64 e.dc, .int .i64 e.n, .string e.s, .int .i64 e.k] 172)).cell? ⟨w.heap.size,3,none⟩=some (.int .i64 e.k):=aF (heap_alloc_new w _) 3 rfl
 cases hd:iO e.dc e.n with
 |false=>
  go_enter Tryz.func239,Tryz.ntmps239
  go_wp2_with(go_at_call 263;refine(Ez _ _ _).mono ?_;rintro x w1 ⟨rfl,hw1⟩;rw[hd])
  go_ret
  exact⟨bg (by simp[dJ,hd]),(aj.alloc _ _ _).ay hw1⟩
 |true=>
  go_enter Tryz.func239,Tryz.ntmps239
  go_wp2_with(go_at_call 263;refine(Ez _ _ _).mono ?_;rintro x w1 ⟨rfl,hw1⟩;rw[hd];have k2:=hw1.cell' c2 id;have k3:=hw1.cell' c3 id)
  all_goals
   go_ret
   refine⟨bg ?_,(aj.alloc _ _ _).ay hw1⟩
   rw[Bool.eq_iff_iff]
   simp[dJ,hd]<;>omega
theorem Gg:∀(l:List aG) (p:Option aG) (e:aG),dO p (l++ [e])=(dO p l&&dJ e&&mJ (match l.getLast? with|some x=>some x|none=>p) e)
 |[],p,e=>by simp[dO]
 |x::l,p,e=>by
  show(dJ x&&mJ p x&&dO (some x) (l++ [e]))=((dJ x&&mJ p x&&dO (some x) l)&&dJ e&&_)
  rw[Gg l (some x) e]
  have:(match(x::l).getLast? with|some y=>some y|none=>p)=(match l.getLast? with|some y=>some y|none=>some x):=by
   cases l with
   |nil=>rfl
   |cons y l=>
    rw[List.getLast?_cons_cons]
    cases h:(y::l).getLast? with
    |none=>simp at h
    |some z=>rfl
  rw[this]
  simp only[Bool.and_assoc]
theorem Gh:∀(l:List aG) (p:Option aG) (k:Nat),dO p l=true→dO p (l.take k)=true
 |[],_,_,_=>by simp[dO]
 |_::_,_,0,_=>rfl
 |x::l,p,k+1,h=>by
  have h:(dJ x&&mJ p x&&dO (some x) l)=true:=h
  show(dJ x&&mJ p x&&dO (some x) (l.take k))=true
  simp only[Bool.and_eq_true]at h⊢
  exact⟨h.1,Gh l _ k h.2⟩
theorem Gi {l:List aG} (h:0<l.length):dO none (l.take (0+1))=dJ (l.getD 0 aG.zero):=by
 rw[take_succ aG.zero h]
 simp[dO,mJ]
theorem Gj {l:List aG} {j:Nat} (h:j+1<l.length) (hr:dO none (l.take (j+1))=true):dO none (l.take (j+1+1))=(dJ (l.getD (j+1) aG.zero)&&lJ (l.getD j aG.zero).dc (l.getD j aG.zero).n (l.getD (j+1) aG.zero).dc (l.getD (j+1) aG.zero).n):=by
 rw[take_succ aG.zero h,Gg,hr]
 have:(l.take (j+1)).getLast?=some (l.getD j aG.zero):=by
  rw[take_succ aG.zero (by omega)];simp
 rw[this]
 simp[mJ]
theorem lT {l:List aG} {k:Nat} (h:dO none (l.take k)=false):dO none l=false:=by
 cases hh:dO none l with
 |false=>rfl
 |true=>rw[Gh l none k hh]at h;cases h
theorem sK.at {es:List aG} (h:sK es) {k:Nat} (hk:k<es.length):(es.getD k aG.zero).fits:=h.fits _ (getD_mem _ hk)
open Go.RowKit
theorem Calls.jm {P:Program} {f:FuncId} {args:Array Value} {w:World} {v:Value} (h:Calls P f args w fun e w'=>e= .returned v∧w'=w):Calls P f args w fun e w'=>e= .returned v∧aj (fun _=>False) w w':=
 h.mono fun _ _ ⟨h1,h2⟩=>⟨h1,by rw[h2];exact aj.refl _ _⟩
theorem Gl (t:TypeId) (a b:ByteArray):binOp .geq t (.string a) (.string b)=pure (.bool !(Op.bytesLess a.toList b.toList)):=by simp[binOp,Op.stringOp]
theorem pW:∀(n:Nat) {ks:aI} {key:ByteArray} {es:List aG} {sub rest:aI},ks.drop n= .cons key es sub rest→dX sub<dX ks
 |0, .cons _ _ _ _,_,_,_,_,h=>by
  cases h
  simp only[dX]
  omega
 |0, .nil,_,_,_,_,h=>by cases h
 |n+1, .nil,_,_,_,_,h=>by cases h
 |n+1, .cons _ _ _ r,_,_,_,_,h=>by
  have h1:r.drop n=_:=h
  have:=pW n h1
  simp only[dX]
  omega
theorem Gm {ks:aI} {d n:Nat} {key:ByteArray} {es:List aG} {sub rest:aI} {p:Option ByteArray} (h:ks.drop n= .cons key es sub rest):gI (ks.drop n) d p=(kC key&&ltK p key&& !isNil es sub&&aX d es sub&&gI (ks.drop (n+1)) d (some key)):=by
 rw[h,aI.pU n ks h,qJ]
def Gn (ks:aI) (n:Nat) (p:Option ByteArray):Prop:=(n=0∧p=none)∨∃j key es sub rest,n=j+1∧ks.drop j= .cons key es sub rest∧p=some key
theorem Nj (es:List aG) (ks:aI):((((es.length:Int)+(ks.len:Int))==0))=isNil es ks:=by
 rw[Bool.eq_iff_iff]
 simp only[isNil,beq_iff_eq,decide_eq_true_eq]
 omega
theorem Nk {d:Nat} (h:d≤100):wrap64 (d:Int)=d:=by unfold wrap64;omega
theorem Nl (Q:Nat→Prop):∀(N:Nat) (es:List aG) (ks:aI) (d:Nat) (w:World) (ev kv:Value),dX ks<N→bJ Q w ev kv es ks→gG es ks→d≤100→
 Calls Tryz.prog 189 #[.agg #[ev,kv], .int .i64 d] w fun e w'=>e= .returned (.bool (aX d es ks))∧aj au w w':=by
 intro N
 induction N with
 |zero=>intros;exfalso;omega
 |succ N iq=>
  intro es ks d w ev kv hN ht hok hd
  obtain⟨ae,ce,rfl⟩:=ht.ents.rd.sl
  obtain⟨os,hkr,dZ⟩:=ht.kids
  obtain⟨ak,ck,rfl⟩:=hkr.rd.sl
  have HT:=ah ht;clear ht
  have gJ:=ah hkr.rd;clear hkr
  have jU:=ah dZ;clear dZ
  have IH:=ah iq;clear iq
  have bQ:=ah (aj.alloc au w (.cells #[.slice ae es.length ce, .slice ak ks.len ck] 30))
  have box0:(w.alloc (.cells #[.slice ae es.length ce, .slice ak ks.len ck] 30)).cell? ⟨w.heap.size,0,none⟩=some (.slice ae es.length ce):=aF (heap_alloc_new w _) 0 rfl
  have box1:(w.alloc (.cells #[.slice ae es.length ce, .slice ak ks.len ck] 30)).cell? ⟨w.heap.size,1,none⟩=some (.slice ak ks.len ck):=aF (heap_alloc_new w _) 1 rfl
  have B0:=ah box0;clear box0
  have B1:=ah box1;clear box1
  have Bz:=ah hok.es.len
  have jB:=ah hok.len
  have dw:=ah hok;clear hok
  have mO:=ah hN;clear hN
  cases d with
  |zero=>
   go_enter Tryz.func189,Tryz.ntmps189
   go_wp2
   go_ret
   exact⟨bg (by simp[aX]),bQ.out⟩
  |succ d=>
   generalize hes:es.length=n at*
   have HN:=ah hes;clear hes
   generalize hkl:ks.len=m at*
   have HM:=ah hkl;clear hkl
   have hdz:(((d+1:Nat):Int)==0)=false:=by simp;omega
   have hwd:wrap64 (d:Int)=d:=Nk (by omega)
   have HD:=ah hd;clear hd
   go_enter Tryz.func189,Tryz.ntmps189
   go_wp2
   go_loopw [13] (fun i ww=>∃k:Nat,k≤n∧i= .int .i64 k∧dO none (es.take k)=true∧aj au (w.alloc (.cells #[.slice ae n ce, .slice ak m ck] 30)) ww) (fun i _=>n-(intOf i).toNat)
   case atStart=>exact⟨0,Nat.zero_le _,rfl,rfl,aj.refl _ _⟩
   case round=>
    obtain⟨k,hk,rfl,hr,hw⟩:=hrel
    have HW:=ah hw;clear hw
    have HR:=ah hr;clear hr
    have b0:=HW.out.cell' B0.out id
    by_cases hlt:k<n
    ·have hnm:(n:Int)≤9223372036854775807:=by have:=Bz.out;omega
     rcases Rd.shape (HT.out.ents.rd.aP (bQ.out.ay HW.out))with⟨ad,he,h0⟩|⟨b,off,cc,he,hmax⟩
     ·exfalso;have:=HN.out;omega
     ·injection he with e1 e2 e3
      subst e1 e3
      clear e2 hmax
      have her:=HT.out.ents.rd.aP (bQ.out.ay HW.out)
      rw[HN.out]at her
      obtain⟨q0,q1,q2,q3⟩:=nJ her k (by rw[HN.out];exact hlt)
      have hsz:=(dw.out.es.at (show k<es.length by rw[HN.out];exact hlt)).2.2.2
      clear her
      obtain⟨α,hne,K,hK1,hK0,hK2⟩:=worlds wr
      have R_:=fun s=>(hK1 s).cell' b0 id
      rcases Nat.eq_zero_or_pos k with rfl|hk0
      ·have hS:=Gi (l:=es) (by rw[HN.out];exact hlt)
       generalize es.getD 0 aG.zero=e at*
       simp only[Nat.zero_mul,Nat.add_zero]at q0 q1 q2 q3
       have k0:=fun s=>(hK1 s).cell' q0 id
       have k1:=fun s=>(hK1 s).cell' q1 id
       have k2:=fun s=>(hK1 s).cell' q2 id
       have k3:=fun s=>(hK1 s).cell' q3 id
       clear q0 q1 q2 q3
       cases he:dJ e with
       |false=>
        rw[he]at hS
        have HS:=ah hS;clear hS
        go_wp2_with fail
        refine bK K (by kernel_rfl) (by kernel_rfl) hK0 ?_
        repeat(go_big_quiet_step ((first|(go_at_call 239;exact Calls.aW hK2 (uV e hsz _))|(go_at_call 109;exact Calls.aW hK2 (uF _ _ _ _ _)))))
        refine wpQuiet_nil ?_
        intro w' hw'
        obtain⟨s,rfl⟩:=hw'
        have hfs:=hK1 s
        go_wp2
        go_ret
        exact⟨bg (by rw[aX,lT HS.out];simp),bQ.out.ay (HW.out.ay hfs)⟩
       |true=>
        rw[he]at hS
        have HS:=ah hS;clear hS
        go_wp2_with fail
        refine bK K (by kernel_rfl) (by kernel_rfl) hK0 ?_
        repeat(go_big_quiet_step ((first|(go_at_call 239;exact Calls.aW hK2 (uV e hsz _))|(go_at_call 109;exact Calls.aW hK2 (uF _ _ _ _ _)))))
        refine wpQuiet_nil ?_
        intro w' hw'
        obtain⟨s,rfl⟩:=hw'
        have hfs:=hK1 s
        go_wp2
        go_roundw
        case rel=>exact⟨0+1,by omega,by go_num,HS.out,HW.out.ay hfs⟩
        case measure=>simp[intOf];omega
      ·obtain⟨j,rfl⟩:∃j,k=j+1:=⟨k-1,by omega⟩
       have her:=HT.out.ents.rd.aP (bQ.out.ay HW.out)
       rw[HN.out]at her
       obtain⟨p0,p1,-,-⟩:=nJ her j (by rw[HN.out];omega)
       clear her
       have hS:=Gj (l:=es) (j:=j) (by rw[HN.out];exact hlt) HR.out
       generalize es.getD (j+1) aG.zero=e at*
       generalize es.getD j aG.zero=pe at*
       have k0:=fun s=>(hK1 s).cell' q0 id
       have k1:=fun s=>(hK1 s).cell' q1 id
       have k2:=fun s=>(hK1 s).cell' q2 id
       have k3:=fun s=>(hK1 s).cell' q3 id
       have k4:=fun s=>(hK1 s).cell' p0 id
       have k5:=fun s=>(hK1 s).cell' p1 id
       clear q0 q1 q2 q3 p0 p1
       cases he:dJ e with
       |false=>
        rw[he,Bool.false_and]at hS
        have HS:=ah hS;clear hS
        go_wp2_with fail
        refine bK K (by kernel_rfl) (by kernel_rfl) hK0 ?_
        repeat(go_big_quiet_step ((first|(go_at_call 239;exact Calls.aW hK2 (uV e hsz _))|(go_at_call 109;exact Calls.aW hK2 (uF _ _ _ _ _)))))
        refine wpQuiet_nil ?_
        intro w' hw'
        obtain⟨s,rfl⟩:=hw'
        have hfs:=hK1 s
        go_wp2
        go_ret
        exact⟨bg (by rw[aX,lT HS.out];simp),bQ.out.ay (HW.out.ay hfs)⟩
       |true=>
        rw[he,Bool.true_and]at hS
        cases hl:lJ pe.dc pe.n e.dc e.n with
        |false=>
         rw[hl]at hS
         have HS:=ah hS;clear hS
         go_wp2_with fail
         refine bK K (by kernel_rfl) (by kernel_rfl) hK0 ?_
         repeat(go_big_quiet_step ((first|(go_at_call 239;exact Calls.aW hK2 (uV e hsz _))|(go_at_call 109;exact Calls.aW hK2 (uF _ _ _ _ _)))))
         refine wpQuiet_nil ?_
         intro w' hw'
         obtain⟨s,rfl⟩:=hw'
         have hfs:=hK1 s
         go_wp2
         go_ret
         exact⟨bg (by rw[aX,lT HS.out];simp),bQ.out.ay (HW.out.ay hfs)⟩
        |true=>
         rw[hl]at hS
         have HS:=ah hS;clear hS
         go_wp2_with fail
         refine bK K (by kernel_rfl) (by kernel_rfl) hK0 ?_
         repeat(go_big_quiet_step ((first|(go_at_call 239;exact Calls.aW hK2 (uV e hsz _))|(go_at_call 109;exact Calls.aW hK2 (uF _ _ _ _ _)))))
         refine wpQuiet_nil ?_
         intro w' hw'
         obtain⟨s,rfl⟩:=hw'
         have hfs:=hK1 s
         go_wp2
         go_roundw
         case rel=>exact⟨j+1+1,by omega,by go_num,HS.out,HW.out.ay hfs⟩
         case measure=>simp[intOf];omega
    ·obtain rfl:n=k:=by omega
     rw[List.take_of_length_le (by rw[HN.out];exact Nat.le_refl _)]at HR
     have b1:=HW.out.cell' B1.out id
     go_wp2
     go_loopw [48] (fun i ww=>∃(k:Nat) (p:Option ByteArray),k≤m∧i= .int .i64 k∧Gn ks k p∧gI ks d none=gI (ks.drop k) d p∧aj au (w.alloc (.cells #[.slice ae n ce, .slice ak m ck] 30)) ww) (fun i _=>m-(intOf i).toNat)
     case atStart=>exact⟨0,none,Nat.zero_le _,rfl, .inl ⟨rfl,rfl⟩,rfl,HW.out⟩
     case round=>
      clear b0 b1
      obtain⟨k,p,hk,rfl,hp,hr,hw⟩:=hrel
      have bY:=ah hw;clear hw
      have HP:=ah hp;clear hp
      have b1:=bY.out.cell' B1.out id
      by_cases hlt:k<m
      ·obtain⟨key,es',sub,rest,hdr⟩:=aI.nI (n:=k) (ks:=ks) (by rw[HM.out];exact hlt)
       have hmm:(m:Int)≤9223372036854775807:=by have:=jB.out;omega
       rcases Rd.shape (gJ.out.aP (bQ.out.ay bY.out))with⟨ad,he,h0⟩|⟨b,off,cc,he,hmax⟩
       ·exfalso;have:=HM.out;omega
       ·injection he with e1 e2 e3
        subst e1 e3
        clear e2 hmax
        obtain⟨ev',kv',c0,c1,c2,hta⟩:=lS (gJ.out.aP (bQ.out.ay bY.out)) (jU.out.aP (bQ.out.ay bY.out)) hdr
        obtain⟨dP,dQ,rfl⟩:=hta.ents.rd.sl
        obtain⟨os',fJ,kR⟩:=hta.kids
        obtain⟨dR,dS,rfl⟩:=fJ.rd.sl
        clear fJ kR
        have hok':=dw.out.ks.drop k
        rw[hdr]at hok'
        have hkz:=hok'.1
        have hsub:gG es' sub:=⟨hok'.2.1,hok'.2.2.1,hok'.2.2.2.1⟩
        have l1:((es'.length:Nat):Int)≤140737488351232:=by have:=hsub.es.len;omega
        have l2:((sub.len:Nat):Int)≤140737488351232:=by have:=hsub.len;omega
        have sN:=ah hsub;clear hsub hok'
        have eP:=ah (pW k hdr)
        rw[Gm hdr]at hr
        have HDR:=ah hdr;clear hdr
        have hbf:aj au wr (wr.alloc (.cells #[.string key, .slice dP es'.length dQ, .slice dR sub.len dS] 83)):=aj.alloc _ _ _
        have n0:(wr.alloc (.cells #[.string key, .slice dP es'.length dQ, .slice dR sub.len dS] 83)).cell? ⟨wr.heap.size,0,none⟩=some (.string key):=aF (heap_alloc_new wr _) 0 rfl
        have n1:(wr.alloc (.cells #[.string key, .slice dP es'.length dQ, .slice dR sub.len dS] 83)).cell? ⟨wr.heap.size,1,none⟩=some (.slice dP es'.length dQ):=aF (heap_alloc_new wr _) 1 rfl
        have n2:(wr.alloc (.cells #[.string key, .slice dP es'.length dQ, .slice dR sub.len dS] 83)).cell? ⟨wr.heap.size,2,none⟩=some (.slice dR sub.len dS):=aF (heap_alloc_new wr _) 2 rfl
        have iW:=ah (hta.aP hbf);clear hta
        have qK:=bY;clear bY
        have bY:=ah (qK.out.ay hbf)
        have kk:∀j jC es0 oI oJ,ks.drop j= .cons jC es0 oI oJ→wr.cell? ⟨b,off+j*3,none⟩=some (.string jC):=fun j jC es0 oI oJ h=>by
         obtain⟨_,_,h0,_⟩:=lS (gJ.out.aP (bQ.out.ay qK.out)) (jU.out.aP (bQ.out.ay qK.out)) h
         exact h0
        have KK:=ah kk;clear kk
        have HIH:=ah (fun w' (h:aj au (wr.alloc (.cells #[.string key, .slice dP es'.length dQ, .slice dR sub.len dS] 83)) w')=>IH.out es' sub d w' _ _ (by have:=eP.out;have:=mO.out;omega) (iW.out.aP h) sN.out (by have:=HD.out;omega))
        have hnil:=Nj es' sub
        generalize es'.length=n' at*
        generalize sub.len=m' at*
        obtain⟨α,hne,K,hK3,hK0,hK2⟩:=worlds (wr.alloc (.cells #[.string key, .slice dP n' dQ, .slice dR m' dS] 83))
        have hK1:=hK3
        have Np:=fun s=>(hK1 s).cell' (hbf.cell' b1 id) id
        have Nq:=fun s=>(hK1 s).cell' n0 id
        have Nr:=fun s=>(hK1 s).cell' n1 id
        have Ns:=fun s=>(hK1 s).cell' n2 id
        clear n0 n1 n2
        have hge:=Gl
        rcases HP.out with⟨rfl,rfl⟩|⟨j,jC,es0,oI,oJ,rfl,hdj,rfl⟩
        ·simp only[Nat.zero_mul,Nat.add_zero]at c0 c1 c2
         cases g1:kC key with
         |false=>
          rw[g1]at hr
          simp only[Bool.false_and]at hr
          have hst:aX (d+1) es ks=false:=by rw[aX,Nat.add_sub_cancel,hr];simp
          have HST:=ah hst;clear hst hr
          go_wp2_with fail
          refine bK K (by kernel_rfl) (by kernel_rfl) hK0 ?_
          repeat(go_big_quiet_step ((first|(go_at_call 240;exact Calls.aW hK2 (Calls.jm (oq key _ hkz)))|(go_at_call 189;exact Calls.aW hK2 (HIH.out _ (hK3 _))))))
          refine wpQuiet_nil ?_
          intro w' hw'
          obtain⟨s,rfl⟩:=hw'
          have hfs:=hK1 s
          go_wp2
          go_ret
          exact⟨bg HST.out.symm,bQ.out.ay (bY.out.ay hfs)⟩
         |true=>
          cases g3:isNil es' sub with
          |true=>
           rw[g1,g3]at hr
           rw[g3]at hnil
           simp only[Bool.not_true,Bool.and_false,Bool.false_and]at hr
           have hst:aX (d+1) es ks=false:=by rw[aX,Nat.add_sub_cancel,hr];simp
           have HST:=ah hst;clear hst hr
           go_wp2_with fail
           refine bK K (by kernel_rfl) (by kernel_rfl) hK0 ?_
           repeat(go_big_quiet_step ((first|(go_at_call 240;exact Calls.aW hK2 (Calls.jm (oq key _ hkz)))|(go_at_call 189;exact Calls.aW hK2 (HIH.out _ (hK3 _))))))
           refine wpQuiet_nil ?_
           intro w' hw'
           obtain⟨s,rfl⟩:=hw'
           have hfs:=hK1 s
           go_wp2
           go_ret
           exact⟨bg HST.out.symm,bQ.out.ay (bY.out.ay hfs)⟩
          |false=>
           rw[g3]at hnil
           cases g4:aX d es' sub with
           |false=>
            rw[g1,g3,g4]at hr
            rw[g4]at HIH
            simp only[Bool.and_false,Bool.false_and]at hr
            have hst:aX (d+1) es ks=false:=by rw[aX,Nat.add_sub_cancel,hr];simp
            have HST:=ah hst;clear hst hr
            go_wp2_with fail
            refine bK K (by kernel_rfl) (by kernel_rfl) hK0 ?_
            repeat(go_big_quiet_step ((first|(go_at_call 240;exact Calls.aW hK2 (Calls.jm (oq key _ hkz)))|(go_at_call 189;exact Calls.aW hK2 (HIH.out _ (hK3 _))))))
            refine wpQuiet_nil ?_
            intro w' hw'
            obtain⟨s,rfl⟩:=hw'
            have hfs:=hK1 s
            go_wp2
            go_ret
            exact⟨bg HST.out.symm,bQ.out.ay (bY.out.ay hfs)⟩
           |true=>
            rw[g1,g3,g4]at hr
            rw[g4]at HIH
            simp only[ltK,Bool.not_false,Bool.and_true,Bool.true_and]at hr
            have HST:=ah hr;clear hr
            go_wp2_with fail
            refine bK K (by kernel_rfl) (by kernel_rfl) hK0 ?_
            repeat(go_big_quiet_step ((first|(go_at_call 240;exact Calls.aW hK2 (Calls.jm (oq key _ hkz)))|(go_at_call 189;exact Calls.aW hK2 (HIH.out _ (hK3 _))))))
            refine wpQuiet_nil ?_
            intro w' hw'
            obtain⟨s,rfl⟩:=hw'
            have hfs:=hK1 s
            go_wp2
            go_roundw
            case rel=>exact⟨0+1,some key,by omega,by go_num, .inr ⟨0,key,es',sub,rest,rfl,HDR.out,rfl⟩,HST.out,bY.out.ay hfs⟩
            case measure=>simp[intOf];omega
        ·have pk:=KK.out j jC es0 oI oJ hdj
         clear hdj
         have Nu:=(fun s=>(hK1 s).cell' (hbf.cell' pk id) id)
         clear pk
         cases g1:kC key with
         |false=>
          rw[g1]at hr
          simp only[Bool.false_and]at hr
          have hst:aX (d+1) es ks=false:=by rw[aX,Nat.add_sub_cancel,hr];simp
          have HST:=ah hst;clear hst hr
          go_wp2_with fail
          refine bK K (by kernel_rfl) (by kernel_rfl) hK0 ?_
          repeat(go_big_quiet_step ((first|(go_at_call 240;exact Calls.aW hK2 (Calls.jm (oq key _ hkz)))|(go_at_call 189;exact Calls.aW hK2 (HIH.out _ (hK3 _))))))
          refine wpQuiet_nil ?_
          intro w' hw'
          obtain⟨s,rfl⟩:=hw'
          have hfs:=hK1 s
          go_wp2
          go_ret
          exact⟨bg HST.out.symm,bQ.out.ay (bY.out.ay hfs)⟩
         |true=>
          cases g2:Op.bytesLess jC.toList key.toList with
          |false=>
           rw[show ltK (some jC) key=false from g2]at hr
           simp only[Bool.and_false,Bool.false_and]at hr
           have hst:aX (d+1) es ks=false:=by rw[aX,Nat.add_sub_cancel,hr];simp
           have HST:=ah hst;clear hst hr
           go_wp2_with fail
           refine bK K (by kernel_rfl) (by kernel_rfl) hK0 ?_
           repeat(go_big_quiet_step ((first|(go_at_call 240;exact Calls.aW hK2 (Calls.jm (oq key _ hkz)))|(go_at_call 189;exact Calls.aW hK2 (HIH.out _ (hK3 _))))))
           refine wpQuiet_nil ?_
           intro w' hw'
           obtain⟨s,rfl⟩:=hw'
           have hfs:=hK1 s
           go_wp2
           go_ret
           exact⟨bg HST.out.symm,bQ.out.ay (bY.out.ay hfs)⟩
          |true=>
           cases g3:isNil es' sub with
           |true=>
            rw[g3]at hr
            rw[g3]at hnil
            simp only[Bool.not_true,Bool.and_false,Bool.false_and]at hr
            have hst:aX (d+1) es ks=false:=by rw[aX,Nat.add_sub_cancel,hr];simp
            have HST:=ah hst;clear hst hr
            go_wp2_with fail
            refine bK K (by kernel_rfl) (by kernel_rfl) hK0 ?_
            repeat(go_big_quiet_step ((first|(go_at_call 240;exact Calls.aW hK2 (Calls.jm (oq key _ hkz)))|(go_at_call 189;exact Calls.aW hK2 (HIH.out _ (hK3 _))))))
            refine wpQuiet_nil ?_
            intro w' hw'
            obtain⟨s,rfl⟩:=hw'
            have hfs:=hK1 s
            go_wp2
            go_ret
            exact⟨bg HST.out.symm,bQ.out.ay (bY.out.ay hfs)⟩
           |false=>
            rw[g3]at hnil
            cases g4:aX d es' sub with
            |false=>
             rw[g4]at hr
             rw[g4]at HIH
             simp only[Bool.and_false,Bool.false_and]at hr
             have hst:aX (d+1) es ks=false:=by rw[aX,Nat.add_sub_cancel,hr];simp
             have HST:=ah hst;clear hst hr
             go_wp2_with fail
             refine bK K (by kernel_rfl) (by kernel_rfl) hK0 ?_
             repeat(go_big_quiet_step ((first|(go_at_call 240;exact Calls.aW hK2 (Calls.jm (oq key _ hkz)))|(go_at_call 189;exact Calls.aW hK2 (HIH.out _ (hK3 _))))))
             refine wpQuiet_nil ?_
             intro w' hw'
             obtain⟨s,rfl⟩:=hw'
             have hfs:=hK1 s
             go_wp2
             go_ret
             exact⟨bg HST.out.symm,bQ.out.ay (bY.out.ay hfs)⟩
            |true=>
             rw[g1,g3,g4,show ltK (some jC) key=true from g2]at hr
             rw[g4]at HIH
             simp only[Bool.not_false,Bool.and_true,Bool.true_and]at hr
             have HST:=ah hr;clear hr
             go_wp2_with fail
             refine bK K (by kernel_rfl) (by kernel_rfl) hK0 ?_
             repeat(go_big_quiet_step ((first|(go_at_call 240;exact Calls.aW hK2 (Calls.jm (oq key _ hkz)))|(go_at_call 189;exact Calls.aW hK2 (HIH.out _ (hK3 _))))))
             refine wpQuiet_nil ?_
             intro w' hw'
             obtain⟨s,rfl⟩:=hw'
             have hfs:=hK1 s
             go_wp2
             go_roundw
             case rel=>exact⟨(j+1)+1,some key,by omega,by go_num, .inr ⟨(j+1),key,es',sub,rest,rfl,HDR.out,rfl⟩,HST.out,bY.out.ay hfs⟩
             case measure=>simp[intOf];omega
      ·obtain rfl:m=k:=by omega
       rw[aI.pV (by rw[HM.out];exact Nat.le_refl _)]at hr
       have HRR:=ah hr;clear hr
       go_wp2
       go_ret
       exact⟨bg (by rw[aX,HR.out,Nat.add_sub_cancel,HRR.out];simp[gI]),bQ.out.ay bY.out⟩
open Go.RowKit
theorem Gp:(Tryz.prog.info? 170).map (fun i=>(i.zero,i.size,i.bytes))=some (some (.agg #[.int .i64 0, .int .i64 0]),2,16):=by kernel_rfl
theorem Nv {l:List aG} {k:Nat} (hk:k<l.length):jT (l.take (k+1))=jT (l.take k)++ [((l.getD k aG.zero).dc,(l.getD k aG.zero).n)]:=by
 rw[take_succ aG.zero hk];simp[jT]
theorem Gq {ks:aI} {n:Nat} {key:ByteArray} {es:List aG} {sub rest:aI} (h:ks.drop n= .cons key es sub rest):iE (ks.drop n)=bU es sub++iE (ks.drop (n+1)):=by
 rw[h,aI.pU n ks h];rfl
theorem sO:∀(n:Nat) {ks:aI} {key:ByteArray} {es:List aG} {sub rest:aI},ks.drop n= .cons key es sub rest→sizeT es sub≤dX ks
 |0, .cons _ _ _ _,_,_,_,_,h=>by
  cases h
  simp only[dX,sizeT]
  omega
 |0, .nil,_,_,_,_,h=>by cases h
 |n+1, .nil,_,_,_,_,h=>by cases h
 |n+1, .cons _ _ _ r,_,_,_,_,h=>by
  have h1:r.drop n=_:=h
  have:=sO n h1
  simp only[dX]
  omega
theorem nM:∀ks:aI,ks.len≤dX ks
 | .nil=>Nat.le_refl _
 | .cons _ _ _ r=>by have:=nM r;simp only[aI.len,dX];omega
theorem Nw (Q:Nat→Prop):∀(N:Nat) (es:List aG) (ks:aI) (w:World) (ev kv:Value),dX ks<N→bJ Q w ev kv es ks→sizeT es ks≤100000→
 Calls Tryz.prog 187 #[.agg #[ev,kv]] w fun e w'=>∃v',e= .returned v'∧OwnAt w w' 170 2 v' (bU es ks).length (bP (bU es ks)):=by
 intro N
 induction N with
 |zero=>intros;exfalso;omega
 |succ N iq=>
  intro es ks w ev kv hN ht hsz
  obtain⟨i0,hi,hz0,hz1,hz2⟩:=info_parts Gp
  obtain⟨ae,ce,rfl⟩:=ht.ents.rd.sl
  obtain⟨os,hkr,dZ⟩:=ht.kids
  obtain⟨ak,ck,rfl⟩:=hkr.rd.sl
  have HE:=ah ht.ents.rd
  have gJ:=ah hkr.rd;clear hkr ht
  have jU:=ah dZ;clear dZ
  have IH:=ah iq;clear iq
  have bQ:=ah (aj.alloc au w (.cells #[.slice ae es.length ce, .slice ak ks.len ck] 30))
  have box0:(w.alloc (.cells #[.slice ae es.length ce, .slice ak ks.len ck] 30)).cell? ⟨w.heap.size,0,none⟩=some (.slice ae es.length ce):=aF (heap_alloc_new w _) 0 rfl
  have box1:(w.alloc (.cells #[.slice ae es.length ce, .slice ak ks.len ck] 30)).cell? ⟨w.heap.size,1,none⟩=some (.slice ak ks.len ck):=aF (heap_alloc_new w _) 1 rfl
  have B0:=ah box0;clear box0
  have B1:=ah box1;clear box1
  have jD:=ah (Nat.le_trans (uU es ks) hsz)
  have pX:es.length≤100000:=by unfold sizeT at hsz;omega
  have Gs:ks.len≤100000:=by have:=nM ks;unfold sizeT at hsz;omega
  have mO:=ah hsz;clear hsz
  have iF:=ah hN;clear hN
  generalize hes:es.length=n at*
  have HN:=ah hes;clear hes
  generalize hkl:ks.len=m at*
  have HM:=ah hkl;clear hkl
  go_enter Tryz.func187,Tryz.ntmps187
  go_wp2_with fail
  have b0:=B0.out
  go_wp2
  clear b0
  go_loopw [3,11] (fun v i ww=>∃k:Nat,k≤n∧i= .int .i64 k∧OwnAt (w.alloc (.cells #[.slice ae n ce, .slice ak m ck] 30)) ww 170 2 v k (bP (jT (es.take k)))) (fun _ i _=>n-(intOf i).toNat)
  case atStart=>exact⟨0,Nat.zero_le _,rfl,OwnAt.nil (aj.refl _ _) _ _⟩
  case round=>
   obtain⟨k,hk,rfl,ho⟩:=hrel
   obtain⟨av,cv,rfl⟩:=ho.shape
   have HO:=ah ho;clear ho
   by_cases hlt:k<n
   ·rcases Rd.shape HE.out with⟨ad,he,h0⟩|⟨b,off,cc,he,hmax⟩
    ·exfalso;have:=HN.out;omega
    ·injection he with e1 e2 e3
     subst e1 e3
     clear e2
     have hlk:k<es.length:=by rw[HN.out];exact hlt
     obtain⟨p0,p1,p2,p3⟩:=nJ HE.out k hlk
     have f2:=bQ.out.ay HO.out.aH
     have q0:=f2.cell' p0 id
     have q1:=f2.cell' p1 id
     have q2:=f2.cell' p2 id
     have q3:=f2.cell' p3 id
     clear p0 p1 p2 p3 f2
     have hE:=Nv hlk
     generalize es.getD k aG.zero=e at*
     have uX:=ah hE;clear hE
     go_wp2_with(at_builtin;refine jg _ _ [.int .i64 e.dc, .int .i64 e.n] rfl (.tmp 15) (.tmp 18) 226 rfl 170 i0 _ 2 16 Tryz.underlying226 hi hz0 hz1 hz2 (by decide) (by decide) _ _ _ (HO.out.keep (aj.alloc _ _ _)) 1 1 rfl (by simp[Act.eval]) rfl (by simp[Value.oneCell']) (by simp only[maxLen];omega) (by omega) ?_;intro yc iP w2 bC;have OW:=ah bC;clear bC)
     go_roundw
     case rel=>exact⟨k+1,by omega,by go_num,by rw[uX.out,kD];exact OW.out⟩
     case measure=>simp[intOf];omega
   ·obtain rfl:n=k:=by omega
    rw[List.take_of_length_le (by rw[HN.out];exact Nat.le_refl _)]at HO
    have b1:=HO.out.aH.cell' B1.out id
    go_wp2
    clear b1
    go_loopw [3,24] (fun v i ww=>∃(k:Nat) (out:aQ),k≤m∧i= .int .i64 k∧OwnAt (w.alloc (.cells #[.slice ae n ce, .slice ak m ck] 30)) ww 170 2 v out.length (bP out)∧bU es ks=out++iE (ks.drop k)) (fun _ i _=>m-(intOf i).toNat)
    case atStart=>exact⟨0,jT es,Nat.zero_le _,rfl,by rw[Bl,HN.out];exact HO.out,rfl⟩
    case round=>
     obtain⟨k,out,hk,rfl,ho,hd⟩:=hrel
     obtain⟨av,cv,rfl⟩:=ho.shape
     have dw:=ah ho;clear ho
     have HD:=ah hd;clear hd
     by_cases hlt:k<m
     ·obtain⟨key,es',sub,rest,hdr⟩:=aI.nI (n:=k) (ks:=ks) (by rw[HM.out];exact hlt)
      rcases Rd.shape gJ.out with⟨ad,he,h0⟩|⟨b,off,cc,he,hmax⟩
      ·exfalso;have:=HM.out;omega
      ·injection he with e1 e2 e3
       subst e1 e3
       clear e2
       have f2:=bQ.out.ay dw.out.aH
       obtain⟨ev',kv',c0,c1,c2,hta⟩:=lS (gJ.out.aP f2) (jU.out.aP f2) hdr
       obtain⟨dP,dQ,rfl⟩:=hta.ents.rd.sl
       obtain⟨os',fJ,kR⟩:=hta.kids
       obtain⟨dR,dS,rfl⟩:=fJ.rd.sl
       clear fJ kR f2
       have qL:=ah (Gq hdr)
       have eP:=ah (pW k hdr)
       have HST:=ah (sO k hdr)
       have iW:=ah hta;clear hta
       have HIH:=ah (fun w' (h:aj au wr w')=>IH.out es' sub w' _ _ (by have:=eP.out;have:=iF.out;omega) (iW.out.aP h) (by have:=HST.out;have:=mO.out;unfold sizeT at*;omega))
       have hlen:out.length+(bU es' sub).length≤100000:=by
        have h1:=jD.out
        rw[HD.out,qL.out,List.length_append,List.length_append]at h1
        omega
       have HLEN:=ah hlen;clear hlen
       clear hdr
       generalize es'.length=n' at*
       generalize sub.len=m' at*
       go_wp2_with(first
        |(go_at_call 187;refine(HIH.out _ (aj.alloc _ _ _)).mono ?_;rintro e w3 ⟨v3,rfl,ho3⟩;obtain⟨a3,c3,rfl⟩:=ho3.shape;have bI:=ah ho3;clear ho3;have HKK:=ah (dw.out.keep ((aj.alloc au _ _).ay bI.out.aH)))
        |(at_builtin;refine lq _ _ _ rfl (.tmp 28) (.tmp 31) 226 226 rfl 170 170 i0 _ 2 16 Tryz.underlying226 Tryz.underlying226 hi hz0 hz1 hz2 (by decide) (by decide) _ _ _ HKK.out _ (bU es' sub).length rfl rfl bI.out.rd (by rw[nC]) (zY _) (by have:=HLEN.out;simp only[maxLen];omega) (by have:=HLEN.out;omega) ?_;intro ad cc w5 dF;have OW:=ah dF;clear dF))
       go_roundw
       case rel=>exact⟨k+1,out++bU es' sub,by omega,by go_num,by rw[List.length_append,kD];exact OW.out,by rw[HD.out,qL.out,List.append_assoc]⟩
       case measure=>simp[intOf];omega
     ·obtain rfl:m=k:=by omega
      have hd:=HD.out
      rw[aI.pV (by rw[HM.out];exact Nat.le_refl _)]at hd
      have hd2:bU es ks=out:=by rw[hd];simp[iE]
      have HD2:=ah hd2;clear hd2 hd
      go_wp2
      go_ret
      refine⟨_,rfl,?_⟩
      rw[HD2.out]
      exact dw.out.base bQ.out
open Go.RowKit
theorem Ny (d n e m:Int):(!decide (0≤lK d n e m))=lJ d n e m:=by
 rw[←EC]
 by_cases h:0≤lK d n e m
 ·have:¬lK d n e m<0:=by omega
  simp[h,this]
 ·have:lK d n e m<0:=by omega
  simp[h,this]
theorem Gt (w:World) (v:Value) (es:List aG) (hv:Rd w v es.length (eY es)) (hok:sK es):
 Calls Tryz.prog 249 #[v] w fun e w'=>e= .returned (.bool (dO none es))∧aj au w w':=by
 obtain⟨aA,cA,rfl⟩:=hv.sl
 have HH:=ah hv;clear hv
 have dw:=ah hok;clear hok
 generalize hn:es.length=n at*
 have HN:=ah hn;clear hn
 go_enter Tryz.func249,Tryz.ntmps249
 go_wp2
 go_loopw [7] (fun i ww=>∃k:Nat,k≤n∧i= .int .i64 k∧dO none (es.take k)=true∧aj au w ww) (fun i _=>n-(intOf i).toNat)
 case atStart=>exact⟨0,Nat.zero_le _,rfl,rfl,aj.refl _ _⟩
 case round=>
  obtain⟨k,hk,rfl,hr,hw⟩:=hrel
  have HW:=ah hw;clear hw
  have HR:=ah hr;clear hr
  by_cases hlt:k<n
  ·rcases Rd.shape (HH.out.aP HW.out)with⟨ad,he,h0⟩|⟨b,off,cc,he,hmax⟩
   ·exfalso;have:=HN.out;omega
   ·injection he with e1 e2 e3
    subst e1 e3
    clear e2
    have hlk:k<es.length:=by rw[HN.out];exact hlt
    have her:=HH.out.aP HW.out
    obtain⟨q0,q1,q2,q3⟩:=nJ her k hlk
    have hsz:=(dw.out.at hlk).2.2.2
    have hfk:=(dw.out.at hlk).2.2.1
    have hbl:b<wr.heap.size:=World.block_lt_of_cell? _ _ q0
    rcases Nat.eq_zero_or_pos k with rfl|hk0
    ·have hS:=Gi (l:=es) hlk
     generalize es.getD 0 aG.zero=e at*
     simp only[Nat.zero_mul,Nat.add_zero]at q0 q1 q2 q3
     clear her
     have hbf:aj au wr (wr.alloc (.cells #[.int .i64 e.dc, .int .i64 e.n, .string e.s, .int .i64 e.k] 172)):=aj.alloc _ _ _
     have bY:=ah (HW.out.ay hbf)
     obtain⟨α,hne,K,hK3,hK0,hK2⟩:=worlds (wr.alloc (.cells #[.int .i64 e.dc, .int .i64 e.n, .string e.s, .int .i64 e.k] 172))
     have hK1:=hK3
     have n0:=(fun s=>(hK1 s).cell' (aF (heap_alloc_new wr _) 0 rfl:(wr.alloc (.cells #[.int .i64 e.dc, .int .i64 e.n, .string e.s, .int .i64 e.k] 172)).cell? ⟨wr.heap.size,0,none⟩=some (.int .i64 e.dc)) id)
     have n1:=(fun s=>(hK1 s).cell' (aF (heap_alloc_new wr _) 1 rfl:(wr.alloc (.cells #[.int .i64 e.dc, .int .i64 e.n, .string e.s, .int .i64 e.k] 172)).cell? ⟨wr.heap.size,1,none⟩=some (.int .i64 e.n)) id)
     have n2:=(fun s=>(hK1 s).cell' (aF (heap_alloc_new wr _) 2 rfl:(wr.alloc (.cells #[.int .i64 e.dc, .int .i64 e.n, .string e.s, .int .i64 e.k] 172)).cell? ⟨wr.heap.size,2,none⟩=some (.string e.s)) id)
     have n3:=(fun s=>(hK1 s).cell' (aF (heap_alloc_new wr _) 3 rfl:(wr.alloc (.cells #[.int .i64 e.dc, .int .i64 e.n, .string e.s, .int .i64 e.k] 172)).cell? ⟨wr.heap.size,3,none⟩=some (.int .i64 e.k)) id)
     cases hd:iO e.dc e.n with
     |false=>
      have he:dJ e=false:=by simp[dJ,hd]
      rw[he]at hS
      (try simp only[Bool.false_and]at hS)
      have HS:=ah hS;clear hS he
      have HDR:=ah (fun W=>qC e.dc e.n W)
      rw[hd]at HDR
      have fE:=ah (fun W=>lX 0 0 0 0 W)
      clear hd
      go_wp2_with fail
      refine bK K (by kernel_rfl) (by kernel_rfl) hK0 ?_
      repeat(go_big_quiet_step ((first|(go_at_call 236;exact Calls.aW hK2 (HDR.out _))|(go_at_call 241;exact Calls.aW hK2 (fE.out _)))))
      refine wpQuiet_nil ?_
      intro w' hw'
      obtain⟨s,rfl⟩:=hw'
      have hfs:=hK1 s
      go_wp2
      go_ret
      exact⟨bg (lT HS.out).symm,bY.out.ay hfs⟩
     |true=>
      have HDR:=ah (fun W=>qC e.dc e.n W)
      rw[hd]at HDR
      cases h1:decide (30<(e.s.size:Int))with
      |true=>
       have fE:=ah (fun W=>lX 0 0 0 0 W)
       have he:dJ e=false:=by simp at h1;simp[dJ];intros;omega
       rw[he]at hS
       (try simp only[Bool.false_and]at hS)
       have HS:=ah hS;clear hS he
       clear hd
       go_wp2_with fail
       refine bK K (by kernel_rfl) (by kernel_rfl) hK0 ?_
       repeat(go_big_quiet_step ((first|(go_at_call 236;exact Calls.aW hK2 (HDR.out _))|(go_at_call 241;exact Calls.aW hK2 (fE.out _)))))
       refine wpQuiet_nil ?_
       intro w' hw'
       obtain⟨s,rfl⟩:=hw'
       have hfs:=hK1 s
       go_wp2
       go_ret
       exact⟨bg (lT HS.out).symm,bY.out.ay hfs⟩
      |false=>
       cases h2:decide (1099511627776<e.k)with
       |true=>
        have fE:=ah (fun W=>lX 0 0 0 0 W)
        have he:dJ e=false:=by simp at h2;simp[dJ];intros;omega
        rw[he]at hS
        (try simp only[Bool.false_and]at hS)
        have HS:=ah hS;clear hS he
        clear hd
        go_wp2_with fail
        refine bK K (by kernel_rfl) (by kernel_rfl) hK0 ?_
        repeat(go_big_quiet_step ((first|(go_at_call 236;exact Calls.aW hK2 (HDR.out _))|(go_at_call 241;exact Calls.aW hK2 (fE.out _)))))
        refine wpQuiet_nil ?_
        intro w' hw'
        obtain⟨s,rfl⟩:=hw'
        have hfs:=hK1 s
        go_wp2
        go_ret
        exact⟨bg (lT HS.out).symm,bY.out.ay hfs⟩
       |false=>
        cases h3:decide (e.k< -1099511627776)with
        |true=>
         have fE:=ah (fun W=>lX 0 0 0 0 W)
         have he:dJ e=false:=by simp at h3;simp[dJ];intros;omega
         rw[he]at hS
         (try simp only[Bool.false_and]at hS)
         have HS:=ah hS;clear hS he
         clear hd
         go_wp2_with fail
         refine bK K (by kernel_rfl) (by kernel_rfl) hK0 ?_
         repeat(go_big_quiet_step ((first|(go_at_call 236;exact Calls.aW hK2 (HDR.out _))|(go_at_call 241;exact Calls.aW hK2 (fE.out _)))))
         refine wpQuiet_nil ?_
         intro w' hw'
         obtain⟨s,rfl⟩:=hw'
         have hfs:=hK1 s
         go_wp2
         go_ret
         exact⟨bg (lT HS.out).symm,bY.out.ay hfs⟩
        |false=>
         have he:dJ e=true:=by simp at h1 h2 h3;simp[dJ,hd];omega
         rw[he]at hS
         clear he hd
         have fE:=ah (fun W=>lX 0 0 0 0 W)
         have HS:=ah hS;clear hS
         go_wp2_with fail
         refine bK K (by kernel_rfl) (by kernel_rfl) hK0 ?_
         repeat(go_big_quiet_step ((first|(go_at_call 236;exact Calls.aW hK2 (HDR.out _))|(go_at_call 241;exact Calls.aW hK2 (fE.out _)))))
         refine wpQuiet_nil ?_
         intro w' hw'
         obtain⟨s,rfl⟩:=hw'
         have hfs:=hK1 s
         go_wp2
         go_roundw
         case rel=>exact⟨0+1,by omega,by go_num,HS.out,bY.out.ay hfs⟩
         case measure=>simp[intOf];omega
    ·obtain⟨j,rfl⟩:∃j,k=j+1:=⟨k-1,by omega⟩
     obtain⟨p0,p1,-,-⟩:=nJ her j (by omega)
     clear her
     have hS:=Gj (l:=es) (j:=j) hlk HR.out
     generalize es.getD (j+1) aG.zero=e at*
     generalize es.getD j aG.zero=pe at*
     have hbf:aj au wr (wr.alloc (.cells #[.int .i64 e.dc, .int .i64 e.n, .string e.s, .int .i64 e.k] 172)):=aj.alloc _ _ _
     have bY:=ah (HW.out.ay hbf)
     obtain⟨α,hne,K,hK3,hK0,hK2⟩:=worlds (wr.alloc (.cells #[.int .i64 e.dc, .int .i64 e.n, .string e.s, .int .i64 e.k] 172))
     have hK1:=hK3
     have n0:=(fun s=>(hK1 s).cell' (aF (heap_alloc_new wr _) 0 rfl:(wr.alloc (.cells #[.int .i64 e.dc, .int .i64 e.n, .string e.s, .int .i64 e.k] 172)).cell? ⟨wr.heap.size,0,none⟩=some (.int .i64 e.dc)) id)
     have n1:=(fun s=>(hK1 s).cell' (aF (heap_alloc_new wr _) 1 rfl:(wr.alloc (.cells #[.int .i64 e.dc, .int .i64 e.n, .string e.s, .int .i64 e.k] 172)).cell? ⟨wr.heap.size,1,none⟩=some (.int .i64 e.n)) id)
     have n2:=(fun s=>(hK1 s).cell' (aF (heap_alloc_new wr _) 2 rfl:(wr.alloc (.cells #[.int .i64 e.dc, .int .i64 e.n, .string e.s, .int .i64 e.k] 172)).cell? ⟨wr.heap.size,2,none⟩=some (.string e.s)) id)
     have n3:=(fun s=>(hK1 s).cell' (aF (heap_alloc_new wr _) 3 rfl:(wr.alloc (.cells #[.int .i64 e.dc, .int .i64 e.n, .string e.s, .int .i64 e.k] 172)).cell? ⟨wr.heap.size,3,none⟩=some (.int .i64 e.k)) id)
     have m0:=(fun s=>(hK1 s).cell' (hbf.cell' p0 id) id)
     have m1:=(fun s=>(hK1 s).cell' (hbf.cell' p1 id) id)
     clear p0 p1
     cases hd:iO e.dc e.n with
     |false=>
      have he:dJ e=false:=by simp[dJ,hd]
      rw[he]at hS
      (try simp only[Bool.false_and]at hS)
      have HS:=ah hS;clear hS he
      have HDR:=ah (fun W=>qC e.dc e.n W)
      rw[hd]at HDR
      have fE:=ah (fun W=>lX 0 0 0 0 W)
      clear hd
      go_wp2_with fail
      refine bK K (by kernel_rfl) (by kernel_rfl) hK0 ?_
      repeat(go_big_quiet_step ((first|(go_at_call 236;exact Calls.aW hK2 (HDR.out _))|(go_at_call 241;exact Calls.aW hK2 (fE.out _)))))
      refine wpQuiet_nil ?_
      intro w' hw'
      obtain⟨s,rfl⟩:=hw'
      have hfs:=hK1 s
      go_wp2
      go_ret
      exact⟨bg (lT HS.out).symm,bY.out.ay hfs⟩
     |true=>
      have HDR:=ah (fun W=>qC e.dc e.n W)
      rw[hd]at HDR
      cases h1:decide (30<(e.s.size:Int))with
      |true=>
       have fE:=ah (fun W=>lX 0 0 0 0 W)
       have he:dJ e=false:=by simp at h1;simp[dJ];intros;omega
       rw[he]at hS
       (try simp only[Bool.false_and]at hS)
       have HS:=ah hS;clear hS he
       clear hd
       go_wp2_with fail
       refine bK K (by kernel_rfl) (by kernel_rfl) hK0 ?_
       repeat(go_big_quiet_step ((first|(go_at_call 236;exact Calls.aW hK2 (HDR.out _))|(go_at_call 241;exact Calls.aW hK2 (fE.out _)))))
       refine wpQuiet_nil ?_
       intro w' hw'
       obtain⟨s,rfl⟩:=hw'
       have hfs:=hK1 s
       go_wp2
       go_ret
       exact⟨bg (lT HS.out).symm,bY.out.ay hfs⟩
      |false=>
       cases h2:decide (1099511627776<e.k)with
       |true=>
        have fE:=ah (fun W=>lX 0 0 0 0 W)
        have he:dJ e=false:=by simp at h2;simp[dJ];intros;omega
        rw[he]at hS
        (try simp only[Bool.false_and]at hS)
        have HS:=ah hS;clear hS he
        clear hd
        go_wp2_with fail
        refine bK K (by kernel_rfl) (by kernel_rfl) hK0 ?_
        repeat(go_big_quiet_step ((first|(go_at_call 236;exact Calls.aW hK2 (HDR.out _))|(go_at_call 241;exact Calls.aW hK2 (fE.out _)))))
        refine wpQuiet_nil ?_
        intro w' hw'
        obtain⟨s,rfl⟩:=hw'
        have hfs:=hK1 s
        go_wp2
        go_ret
        exact⟨bg (lT HS.out).symm,bY.out.ay hfs⟩
       |false=>
        cases h3:decide (e.k< -1099511627776)with
        |true=>
         have fE:=ah (fun W=>lX 0 0 0 0 W)
         have he:dJ e=false:=by simp at h3;simp[dJ];intros;omega
         rw[he]at hS
         (try simp only[Bool.false_and]at hS)
         have HS:=ah hS;clear hS he
         clear hd
         go_wp2_with fail
         refine bK K (by kernel_rfl) (by kernel_rfl) hK0 ?_
         repeat(go_big_quiet_step ((first|(go_at_call 236;exact Calls.aW hK2 (HDR.out _))|(go_at_call 241;exact Calls.aW hK2 (fE.out _)))))
         refine wpQuiet_nil ?_
         intro w' hw'
         obtain⟨s,rfl⟩:=hw'
         have hfs:=hK1 s
         go_wp2
         go_ret
         exact⟨bg (lT HS.out).symm,bY.out.ay hfs⟩
        |false=>
         have he:dJ e=true:=by simp at h1 h2 h3;simp[dJ,hd];omega
         rw[he]at hS
         clear he hd
         rw[Bool.true_and]at hS
         have fE:=ah (fun W=>lX pe.dc pe.n e.dc e.n W)
         have hge:=Ny pe.dc pe.n e.dc e.n
         rw[←hge]at hS
         generalize lK pe.dc pe.n e.dc e.n=cc at*
         cases hl:decide (0≤cc)with
         |true=>
          rw[hl]at hS
          have hS:=hS
          have HS:=ah hS;clear hS hge
          go_wp2_with fail
          refine bK K (by kernel_rfl) (by kernel_rfl) hK0 ?_
          repeat(go_big_quiet_step ((first|(go_at_call 236;exact Calls.aW hK2 (HDR.out _))|(go_at_call 241;exact Calls.aW hK2 (fE.out _)))))
          refine wpQuiet_nil ?_
          intro w' hw'
          obtain⟨s,rfl⟩:=hw'
          have hfs:=hK1 s
          go_wp2
          go_ret
          exact⟨bg (lT HS.out).symm,bY.out.ay hfs⟩
         |false=>
          rw[hl]at hS
          have HS:=ah hS;clear hS hge
          go_wp2_with fail
          refine bK K (by kernel_rfl) (by kernel_rfl) hK0 ?_
          repeat(go_big_quiet_step ((first|(go_at_call 236;exact Calls.aW hK2 (HDR.out _))|(go_at_call 241;exact Calls.aW hK2 (fE.out _)))))
          refine wpQuiet_nil ?_
          intro w' hw'
          obtain⟨s,rfl⟩:=hw'
          have hfs:=hK1 s
          go_wp2
          go_roundw
          case rel=>exact⟨j+1+1,by omega,by go_num,HS.out,bY.out.ay hfs⟩
          case measure=>simp[intOf];omega
  ·obtain rfl:n=k:=by omega
   rw[List.take_of_length_le (by rw[HN.out];exact Nat.le_refl _)]at HR
   go_wp2
   go_ret
   exact⟨bg HR.out.symm,HW.out⟩
end Go.Proofs.YtabkpccdnkjoiaaGreat
