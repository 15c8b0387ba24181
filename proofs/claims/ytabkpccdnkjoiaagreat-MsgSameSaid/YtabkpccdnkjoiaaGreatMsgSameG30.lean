/- Words for the law MsgSame: PackPut2, R16b, PackPut3, R16c, R16w, R16x, R16y, Awake16a, PackRead, Awake16, PackBytes, Put16, BunPut, Crc, Frame1. -/
import Derived.Test.YtabkpccdnkjoiaaGreatMsgSameG0
import Derived.Test.YtabkpccdnkjoiaaGreatMsgSameG4
import Derived.Test.YtabkpccdnkjoiaaGreatMsgSameG9
import Derived.Test.YtabkpccdnkjoiaaGreatMsgSameG12
import Derived.Test.YtabkpccdnkjoiaaGreatMsgSameG14
import Derived.Test.YtabkpccdnkjoiaaGreatMsgSameG15
import Derived.Test.YtabkpccdnkjoiaaGreatMsgSameG16
import Derived.Test.YtabkpccdnkjoiaaGreatMsgSameG17
import Derived.Test.YtabkpccdnkjoiaaGreatMsgSameG18
import Derived.Test.YtabkpccdnkjoiaaGreatMsgSameG20
import Derived.Test.YtabkpccdnkjoiaaGreatMsgSameG21
import Derived.Test.YtabkpccdnkjoiaaGreatMsgSameG28
import Derived.Test.YtabkpccdnkjoiaaGreatMsgSameG29
set_option linter.unusedSimpArgs false
set_option linter.unusedVariables false
set_option maxHeartbeats 32000000
set_option maxRecDepth 1000000
namespace Go.Proofs.YtabkpccdnkjoiaaGreat
open Go.RowKit
theorem aaJ (ob:Nat) (w:World) (v:Value) (bs:List UInt8) (d n:Int) (ho:iM w ob v bs) (hd:kF d) (hn:kF n) (hl:bs.length≤94000000):
 Calls Tryz.prog 227 #[.pointer (some ⟨ob,0,none⟩), .agg #[.int .i64 d, .int .i64 n]] w fun e w'=>e= .returned (.tuple #[])∧dH w ob v bs (bD d++bD n) w':=by
 have HO:=ah ho;clear ho
 have dK:=ah (show ¬gX ob v w.heap.size from fun h=>by have:=um HO.out _ h;omega)
 have HB:=ah (dH.start (HO.out.aO (aj.alloc ay w (.cells #[.int .i64 d, .int .i64 n] 170))))
 have H1:=ah (iq hd.1 hd.2)
 have HD:=ah hd;clear hd
 have HN:=ah hn;clear hn
 go_enter Tryz.func227,Tryz.ntmps227
 go_wp2_with(first
  |(go_at_call 70;refine(jW lH.out n HN.out (by have:=H1.out;simp only[List.nil_append];omega)).mono ?_;rintro e w4 ⟨rfl,kJ⟩;have iy:=ah kJ;clear kJ y1)
  |(go_at_call 70;refine(jW HB.out d HD.out (by simp only[List.length_nil];omega)).mono ?_;rintro e w3 ⟨rfl,hp3⟩;have y1:w3.cell? ⟨w.heap.size,1,none⟩=some (.int .i64 n):=hp3.cell (aC (heap_alloc_new w _) 1 rfl) dK.out;have lH:=ah hp3;clear hp3 HB))
 go_end0
 exact⟨rfl,(iy.out.base (aj.alloc _ _ _)).cast (by rw[List.nil_append])⟩
def aH.qx:Nat→aH→List UInt8
 |0,_=> []
 |_+1, .nil=> []
 |n+1, .cons key es sub rest=>iR key++(eX es sub++rest.qx n)
theorem R_:∀(n:Nat) (ks:aH) {key:ByteArray} {es:List aG} {sub rest:aH},ks.drop n= .cons key es sub rest→ks.qx (n+1)=ks.qx n++(iR key++eX es sub)
 |0, .cons _ _ _ _,_,_,_,_,h=>by cases h;simp[aH.qx]
 |0, .nil,_,_,_,_,h=>by cases h
 |n+1, .nil,_,_,_,_,h=>by cases h
 |n+1, .cons _ _ _ r,_,_,_,_,h=>by
  show iR _++(eX _ _++r.qx (n+1))=(iR _++(eX _ _++r.qx n))++_
  rw[R_ n r h]
  simp only[List.append_assoc]
theorem K_:∀(n:Nat) (ks:aH),iE ks=ks.qx n++iE (ks.drop n)
 |0,_=>rfl
 |_+1, .nil=>rfl
 |n+1, .cons key es sub rest=>by
  rw[yR]
  show _=(iR _++(eX _ _++rest.qx n))++iE (rest.drop n)
  rw[K_ n rest]
  simp only[List.append_assoc]
theorem aaK (ks:aH):ks.qx ks.len=iE ks:=by
 have h:=K_ ks.len ks
 rw[aH.sV (Nat.le_refl _)]at h
 rw[h];simp[iE]
theorem Si {es:List aG} {k:Nat} (h:k<es.length):iD (es.take (k+1))=iD (es.take k)++mP (es.getD k aG.zero):=by
 rw[take_succ aG.zero h]
 unfold iD
 rw[List.flatMap_append]
 simp
theorem aaL (es:List aG) (k:Nat):iD es=iD (es.take k)++iD (es.drop k):=by
 have h:iD (es.take k++es.drop k)=iD (es.take k)++iD (es.drop k):=by unfold iD;rw[List.flatMap_append]
 rwa [List.take_append_drop]at h
theorem aaM {es:List aG} (ks:aH) {k:Nat} (h:k<es.length):(bD es.length++iD (es.take k)).length+(mP (es.getD k aG.zero)).length≤(eX es ks).length:=by
 have h1:=aaL es (k+1)
 rw[Si h]at h1
 unfold eX
 rw[h1]
 simp only[List.length_append]
 omega
theorem aaN (es:List aG) {ks:aH} {k:Nat} {key:ByteArray} {es':List aG} {sub rest:aH} (h:ks.drop k= .cons key es' sub rest):
 (bD es.length++(iD es++(bD ks.len++ks.qx k))).length+(iR key++eX es' sub).length≤(eX es ks).length:=by
 have h1:=K_ k ks
 rw[h,yR]at h1
 unfold eX
 rw[h1]
 unfold eX
 simp only[List.length_append]
 omega
theorem aaO (es:List aG) (ks:aH):(bD es.length++iD es).length+(bD ks.len).length≤(eX es ks).length:=by
 unfold eX
 simp only[List.length_append]
 omega
theorem aaP (es:List aG) (ks:aH):(bD es.length).length≤(eX es ks).length:=by
 unfold eX
 simp only[List.length_append]
 omega
theorem aH.Ok.at_ {k:Nat} {ks:aH} {key:ByteArray} {es:List aG} {sub rest:aH} (h:ks.Ok) (hd:ks.drop k= .cons key es sub rest):key.size≤9223372036854775807∧iJ es sub:=by
 have:=h.drop k
 rw[hd]at this
 exact⟨this.1,this.2.1,this.2.2.1,this.2.2.2.1⟩
theorem Sj (s:ByteArray):s.size≤(iR s).length:=by
 have h:s.data.toList.length=s.size:=Array.length_toList
 unfold iR
 rw[List.length_append];omega
theorem aaQ:∀(N:Nat) (Q:Nat→Prop) (es:List aG) (ks:aH) (w:World) (ob:Nat) (v:Value) (bs:List UInt8) (ev kv:Value),gW ks<N→iM w ob v bs→bQ Q w ev kv es ks→(∀b,gX ob v b→¬Q b)→iJ es ks→bs.length+(eX es ks).length≤90000000→
 Calls Tryz.prog 182 #[.pointer (some ⟨ob,0,none⟩), .agg #[ev,kv]] w fun e w'=>e= .returned (.tuple #[])∧dH w ob v bs (eX es ks) w':=by
 intro N
 induction N with
 |zero=>intros;exfalso;omega
 |succ N jy=>
  intro Q es ks w ob v bs ev kv hN ho ht hq hok hl
  have IH:=ah jy;clear jy
  have ht:bQ (fun b=>Q b∧b<w.heap.size) w ev kv es ks:=ht.turn fun b hb hQ=>⟨rfl,hQ,hb⟩
  obtain⟨ae,ce,rfl⟩:=ht.ents.rd.sl
  obtain⟨os,hkr,fD⟩:=ht.kids
  obtain⟨ak,ck,rfl⟩:=hkr.rd.sl
  have hwb:aj ay w (w.alloc (.cells #[.slice ae es.length ce, .slice ak ks.len ck] 30)):=aj.alloc _ _ _
  have HQ:=ah (show ∀b,gX ob v b→¬(Q b∧b<w.heap.size)from fun b hb hQ=>hq b hb hQ.1);clear hq
  have HE:=ah (ht.ents.keep hwb fun _ _ s=>s.elim)
  have jl:=ah (hkr.keep hwb fun _ _ s=>s.elim);clear hkr
  have kW:=ah (fD.keep hwb fun _ _ s=>s.elim);clear fD ht
  have HO:=ah ho;clear ho
  have dK:=ah (show ¬gX ob v w.heap.size from fun h=>by have:=um HO.out _ h;omega)
  have dL:=ah hok;clear hok
  have jJ:=ah hN;clear hN
  have HL:=ah hl;clear hl
  have hnb:es.length≤140737488351232:=dL.out.es.len
  have hmb:ks.len≤140737488351232:=dL.out.len
  have Sm:=ah (fun(k:Nat) (h:k<es.length)=>aaM ks h)
  have HU0:=ah (aaP es ks)
  have HUM:=ah (aaO es ks)
  have HUK:=ah (fun(k:Nat) (key:ByteArray) (es':List aG) (sub rest:aH) (h:ks.drop k= .cons key es' sub rest)=>aaN es h)
  have uo:=ah (show bD es.length++(iD es++(bD ks.len++ks.qx ks.len))=eX es ks by rw[aaK];rfl)
  have dM:=ah (show iD (es.take es.length)=iD es by rw[List.take_length])
  generalize hes:es.length=n at*
  have HN:=ah hes;clear hes
  generalize hkl:ks.len=m at*
  have HM:=ah hkl;clear hkl
  obtain⟨WB,jA⟩:∃WB,WB=w.alloc (.cells #[.slice ae n ce, .slice ak m ck] 30):=⟨_,rfl⟩
  have hb0:WB.heap[w.heap.size]?=some (.cells #[.slice ae n ce, .slice ak m ck] 30 (0,0)):=by rw[jA];exact heap_alloc_new w _
  have HB0:=ah hb0;clear hb0
  rw[←jA]at hwb HE jl kW
  have dB:=ah hwb;clear hwb
  have CV:=ah jA;clear jA
  have HB:=ah (dH.start (HO.out.aO dB.out))
  go_enter Tryz.func182,Tryz.ntmps182
  go_wp2_with(go_at_call 70;rw[←CV.out];refine(jW HB.out n ⟨by omega,by omega⟩ (by have:=HL.out;simp only[List.length_nil];omega)).mono ?_;rintro e w1 ⟨rfl,hp⟩;have HP:=ah (hp.cast (List.nil_append _));clear hp;have y0:w1.cell? ⟨w.heap.size,0,none⟩=some (.slice ae n ce):=HP.out.cell (aC HB0.out 0 rfl) dK.out)
  go_loopw [16] (fun i ww=>∃k:Nat,k≤n∧i= .int .i64 k∧dH WB ob v bs (bD n++iD (es.take k)) ww) (fun i _=>n-(intOf i).toNat)
  case atStart=>exact⟨0,Nat.zero_le _,rfl,HP.out.cast (by simp[iD])⟩
  case round=>
   clear HP y0
   obtain⟨k,hk,rfl,hp⟩:=hrel
   have iC:=ah hp;clear hp
   by_cases hlt:k<n
   ·have hlk:k<es.length:=by rw[HN.out];exact hlt
    have hrd:=HE.out.put HQ.out iC.out
    rcases Rd.shape hrd with⟨ad,he,h0⟩|⟨b,off,cc,he,hmax⟩
    ·exfalso;omega
    ·injection he with e1 e2 e3
     subst e1 e3
     clear e2
     obtain⟨q0,q1,q2,q3⟩:=sW (es:=es) hrd k hlk
     clear hrd
     have hft:=dL.out.es.fits _ (getD_mem aG.zero hlk)
     have HST:=ah (Si hlk)
     have Gq:=ah (Sm.out k hlt)
     obtain⟨s,hgd⟩:∃s,s=es.getD k aG.zero:=⟨_,rfl⟩
     rw[←hgd]at HST q0 q1 q2 q3 hft Gq
     clear hgd
     have La:=ah hft;clear hft
     obtain⟨v',ho',hfr,hfm⟩:=iC.out
     have gI:=ah ho';clear ho'
     have lK:=ah hfr;clear hfr
     have zh:=ah hfm;clear hfm
     have AO:=ah (show ¬gX ob v' wr.heap.size from fun h=>by have:=um gI.out _ h;omega)
     have HB1:=ah (dH.start (gI.out.aO (aj.alloc ay wr (.cells #[.int .i64 s.dc, .int .i64 s.n, .string s.s, .int .i64 s.k] 172))))
     have hbl:(bs++(bD n++iD (es.take k))).length+(bD s.dc++(bD s.n++(iR s.s++bD s.k))).length≤90000000:=by
      have h1:=Gq.out
      have h2:=HL.out
      unfold mP at h1
      simp only[List.length_append]at h1 h2⊢;omega
     simp only[List.length_append]at hbl
     have m_:=ah (Sj s.s)
     have rC:=ah hbl;clear hbl
     go_wp2_with(first
      |(go_at_call 227;refine(HB1.out.call fun v' ho _ _=>aaJ ob _ v' _ s.dc s.n ho La.out.1 La.out.2.1 (by have:=rC.out;simp only[List.length_append,List.length_nil];omega)).mono ?_;rintro e w3 ⟨rfl,hp3⟩;have y2:w3.cell? ⟨wr.heap.size,2,none⟩=some (.string s.s):=hp3.cell (aC (heap_alloc_new wr _) 2 rfl) AO.out;have y3:w3.cell? ⟨wr.heap.size,3,none⟩=some (.int .i64 s.k):=hp3.cell (aC (heap_alloc_new wr _) 3 rfl) AO.out;have lH:=ah hp3;clear hp3)
      |(go_at_call 228;refine(RQ lH.out s.s (by have:=rC.out;have:=m_.out;simp only[List.length_append,List.length_nil];omega)).mono ?_;rintro e w4 ⟨rfl,kJ⟩;have z3:w4.cell? ⟨wr.heap.size,3,none⟩=some (.int .i64 s.k):=kJ.cell (aC (heap_alloc_new wr _) 3 rfl) AO.out;have iy:=ah kJ;clear kJ y2 y3)
      |(go_at_call 70;refine(jW iy.out s.k La.out.2.2.1 (by have:=rC.out;simp only[List.length_append,List.length_nil];omega)).mono ?_;rintro e w5 ⟨rfl,fQ⟩;have jF:=ah fQ;clear fQ z3))
     go_roundw
     case rel=>exact⟨k+1,by omega,by go_num,(dH.trans lK.out zh.out (jF.out.base (aj.alloc _ _ _))).cast (by rw[HST.out];unfold mP;simp only[List.append_assoc,List.nil_append])⟩
     case measure=>simp[intOf];omega
   ·obtain rfl:n=k:=by omega
    rw[dM.out]at iC
    clear hlt hk Sm HE
    have y1:wr.cell? ⟨w.heap.size,1,none⟩=some (.slice ak m ck):=iC.out.cell (aC HB0.out 1 rfl) dK.out
    go_wp2_with(go_at_call 70;refine(jW iC.out m ⟨by omega,by omega⟩ (by have:=HL.out;have:=HUM.out;omega)).mono ?_;rintro e w1 ⟨rfl,hp⟩;have HP:=ah (hp.cast (List.append_assoc _ _ _));clear hp;have y1:w1.cell? ⟨w.heap.size,1,none⟩=some (.slice ak m ck):=HP.out.cell (aC HB0.out 1 rfl) dK.out)
    go_loopw [41] (fun i ww=>∃k:Nat,k≤m∧i= .int .i64 k∧dH WB ob v bs (bD n++(iD es++(bD m++ks.qx k))) ww) (fun i _=>m-(intOf i).toNat)
    case atStart=>exact⟨0,Nat.zero_le _,rfl,HP.out.cast (by simp[aH.qx])⟩
    case round=>
     clear HP iC
     obtain⟨k,hk,rfl,hp⟩:=hrel
     have iC:=ah hp;clear hp
     by_cases hlt:k<m
     ·obtain⟨key,es',sub,rest,hdr⟩:=aH.rM (n:=k) (ks:=ks) (by rw[HM.out];exact hlt)
      have hrd:=jl.out.put HQ.out iC.out
      rcases Rd.shape hrd with⟨ad,he,h0⟩|⟨b,off,cc,he,hmax⟩
      ·exfalso;omega
      ·injection he with e1 e2 e3
       subst e1 e3
       clear e2
       obtain⟨v',ho',hfr,hfm⟩:=iC.out
       obtain⟨ev',kv',q0,q1,q2,hta⟩:=qK hrd (kW.out.keep hfm fun b _ hs=>HQ.out b hs) hdr
       clear hrd
       obtain⟨dW,dX,rfl⟩:=hta.ents.rd.sl
       obtain⟨os',iK,kX⟩:=hta.kids
       obtain⟨dY,dZ,rfl⟩:=iK.rd.sl
       clear iK kX
       have aaT:=ah hta;clear hta
       have fF:=ah (uP k hdr)
       have HKO:=ah (dL.out.ks.at_ hdr)
       have HST:=ah (R_ k ks hdr)
       have Gq:=ah (HUK.out _ _ _ _ _ hdr)
       have gI:=ah ho';clear ho'
       have hsz:w.heap.size≤wr.heap.size:=Nat.le_trans dB.out.size hfm.size
       have pz:=ah (show ∀b,gX ob v' b→¬(Q b∧b<w.heap.size)from fun b hb hQ=>HQ.out b (zY hfr b (Nat.lt_of_lt_of_le hQ.2 dB.out.size) hb) hQ)
       have lK:=ah hfr;clear hfr
       have zh:=ah hfm;clear hfm
       have AO:=ah (show ¬gX ob v' wr.heap.size from fun h=>by have:=um gI.out _ h;omega)
       have hbl:(bs++(bD n++(iD es++(bD m++ks.qx k)))).length+(iR key++eX es' sub).length≤90000000:=by
        have h1:=Gq.out
        have h2:=HL.out
        rw[@List.length_append _ bs _]
        omega
       rw[@List.length_append _ (iR key) _]at hbl
       have m_:=ah (Sj key)
       have rC:=ah hbl;clear hbl
       have HIH:=ah (fun W v3 Lc (o:iM W ob v3 Lc) (t:bQ (fun b=>Q b∧b<w.heap.size) W (.slice dW es'.length dX) (.slice dY sub.len dZ) es' sub) (q:∀b,gX ob v3 b→¬(Q b∧b<w.heap.size)) (l:Lc.length+(eX es' sub).length≤90000000)=>IH.out _ es' sub W ob v3 Lc _ _ (by have:=fF.out;have:=jJ.out;omega) o t q HKO.out.2 l)
       generalize es'.length=n' at*
       generalize sub.len=m' at*
       have HB1:=ah (dH.start (gI.out.aO (aj.alloc ay wr (.cells #[.string key, .slice dW n' dX, .slice dY m' dZ] 83))))
       have Ak:=ah (aaT.out.aO (aj.alloc ay wr (.cells #[.string key, .slice dW n' dX, .slice dY m' dZ] 83)))
       clear y1
       go_wp2_with(first
        |(go_at_call 228;refine(RQ HB1.out key (by have:=rC.out;have:=m_.out;simp only[List.length_nil];omega)).mono ?_;rintro e w4 ⟨rfl,kJ⟩;have z1:w4.cell? ⟨wr.heap.size,1,none⟩=some (.slice dW n' dX):=kJ.cell (aC (heap_alloc_new wr _) 1 rfl) AO.out;have z2:w4.cell? ⟨wr.heap.size,2,none⟩=some (.slice dY m' dZ):=kJ.cell (aC (heap_alloc_new wr _) 2 rfl) AO.out;have iy:=ah kJ;clear kJ)
        |(go_at_call 182;refine(iy.out.call fun v3 ho3 hb3 hf3=>HIH.out _ v3 _ ho3 (Ak.out.keep hf3 fun b _ hs=>pz.out b hs) (fun b hb hQ=>pz.out b (hb3 b (by simp only[World.size_alloc];omega) hb) hQ) (by have:=rC.out;rw[List.length_append,List.nil_append];omega)).mono ?_;rintro e w5 ⟨rfl,fQ⟩;have jF:=ah fQ;clear fQ z1 z2))
       go_roundw
       case rel=>exact⟨k+1,by omega,by go_num,(dH.trans lK.out zh.out (jF.out.base (aj.alloc _ _ _))).cast (by rw[HST.out];simp only[List.append_assoc,List.nil_append])⟩
       case measure=>simp[intOf];omega
     ·obtain rfl:m=k:=by omega
      go_wp2
      go_end0
      exact⟨rfl,(iC.out.cast uo.out).base dB.out⟩
open Go.RowKit
open Go.RowKit
def su (es:List aG) (ks:aH):List UInt8:=if bW 5 es ks then eX es ks else eX [] .nil
theorem aaV (Q:Nat→Prop) (es:List aG) (ks:aH) (w:World) (ev kv:Value) (ht:bQ Q w ev kv es ks) (hok:iJ es ks) (hr:bW 5 es ks=false):
 Calls Tryz.prog 164 #[.agg #[ev,kv]] w fun e w'=>e= .returned (.agg #[.slice none 0 0, .slice none 0 0])∧aj ay w w':=by
 obtain⟨ae,ce,rfl⟩:=ht.ents.rd.sl
 obtain⟨os,hkr,fD⟩:=ht.kids
 obtain⟨ak,ck,rfl⟩:=hkr.rd.sl
 have HR:=ah (fun W (f:aj ay w W)=>zV Q es ks W _ _ (ht.aO f) hok)
 rw[hr]at HR
 clear hkr fD ht hok hr
 generalize es.length=n at*
 generalize ks.len=m at*
 obtain⟨hb2,hfb,hbs⟩:=sZ w (.cells #[.slice ae n ce, .slice ak m ck] 30) #[.slice none 0 0, .slice none 0 0] 30
 have HB2:=ah hb2;clear hb2
 have bg:=ah hfb;clear hfb
 have uT:=ah hbs;clear hbs
 go_enter Tryz.func164,Tryz.ntmps164
 go_wp2_with(go_at_call 155;refine(HR.out _ bg.out).mono ?_;rintro e w1 ⟨rfl,hw1⟩;obtain⟨y0,y1⟩:=Jd w _ _ _ w1 ((aj.alloc ay _ _).au hw1);have hblk:=hw1.blk HB2.out id;have z0:=aC hblk 0 rfl;have z1:=aC hblk 1 rfl;have f0:=bf hblk 0;have f1:=bf hblk 1;have hsb:=lt_of_block hblk;have HR2:=ah (res2 hblk (bg.out.au hw1) (by omega) (.slice none 0 0) (.slice none 0 0));have HW1:=ah hw1;clear hw1 hblk)
 clear y0 y1 z0 z1
 have y0:=aC HR2.out.1 0 rfl
 have y1:=aC HR2.out.1 1 rfl
 exact bodyPost_ret (v:= .agg #[.slice none 0 0, .slice none 0 0]) (by simp[results,Tryz.results164,go_sem,y0,y1]) rfl ⟨rfl,HR2.out.2.1⟩
theorem Sr (w:World):bQ (fun b=>w.heap.size≤b) w (.slice none 0 0) (.slice none 0 0) [] .nil:=
 ⟨⟨.inl ⟨none,rfl,rfl,rfl⟩,fun h=>absurd rfl h⟩,[],⟨.inl ⟨none,rfl,rfl,rfl⟩,fun h=>absurd rfl h⟩,rfl⟩
theorem aaW (Q:Nat→Prop) (es:List aG) (ks:aH) (w:World) (ev kv:Value) (ht:bQ Q w ev kv es ks) (hok:iJ es ks) (hsz:sizeT es ks≤4000):
 Calls Tryz.prog 164 #[.agg #[ev,kv]] w fun e w'=>∃ev' kv' es' ks',e= .returned (.agg #[ev',kv'])∧bQ (fun b=>w.heap.size≤b) w' ev' kv' es' ks'∧iJ es' ks'∧eX es' ks'=su es ks∧aj ay w w':=by
 cases hr:bW 5 es ks with
 |true=>exact(OJ Q es ks w ev kv ht hok hsz hr).mono fun e w' ⟨ev',kv',h1,h2,h3⟩=>⟨ev',kv',es,ks,h1,h2,hok,by unfold su;rw[hr];rfl,h3⟩
 |false=>exact(aaV Q es ks w ev kv ht hok hr).mono fun e w' ⟨h1,h3⟩=>⟨_,_,[], .nil,h1,(Sr w).aO h3,⟨⟨by simp,fun e he=>by cases he⟩,by simp[aH.len],trivial⟩,by unfold su;rw[hr];rfl,h3⟩
theorem Sv {es:List aG} {ks:aH} (hsz:sizeT es ks≤4000):(su es ks).length≤300020:=by
 unfold su
 split
 ·have:=JC (by assumption) (by omega:sizeT es ks≤9223372036854775807)
  omega
 ·have:=JC (es:=[]) (ks:= .nil) (by decide) (by decide)
  have h0:sizeT [] .nil=0:=rfl
  omega
theorem aaX (Q:Nat→Prop) (ob:Nat) (w:World) (v:Value) (bs:List UInt8) (es:List aG) (ks:aH) (ev kv:Value) (ho:iM w ob v bs) (ht:bQ Q w ev kv es ks) (hok:iJ es ks) (hsz:sizeT es ks≤4000) (hl:bs.length≤80000000):
 Calls Tryz.prog 137 #[.pointer (some ⟨ob,0,none⟩), .agg #[ev,kv]] w fun e w'=>e= .returned (.tuple #[])∧dH w ob v bs (su es ks) w':=by
 have HC:=ah (fun W (f:aj ay w W)=>aaW Q es ks W _ _ (ht.aO f) hok hsz)
 have uf:=ah (Sv hsz)
 obtain⟨ae,ce,rfl⟩:=ht.ents.rd.sl
 obtain⟨os,hkr,fD⟩:=ht.kids
 obtain⟨ak,ck,rfl⟩:=hkr.rd.sl
 clear hkr fD ht hok hsz
 generalize su es ks=X at*
 generalize es.length=n at*
 generalize ks.len=m at*
 have HO:=ah ho;clear ho
 have HA:=ah (aj.alloc ay w (.cells #[.slice ae n ce, .slice ak m ck] 30))
 go_enter Tryz.func137,Tryz.ntmps137
 go_wp2_with(first
  |(go_at_call 164;refine(HC.out _ HA.out).mono ?_;rintro e w1 ⟨ev',kv',es',ks',rfl,hta,hok,hx,hf⟩;obtain⟨a1,c1,rfl⟩:=hta.ents.rd.sl;obtain⟨os3,fU,-⟩:=hta.kids;obtain⟨a2,c2,rfl⟩:=fU.rd.sl;clear fU;subst hx;have HK:=ah (fun ho=>aaQ _ _ es' ks' w1 ob v bs _ _ (Nat.lt_succ_self _) ho hta (fun b hb hQ=>by have:=um HO.out b hb;have:=HA.out.size;omega) hok (by have:=uf.out;omega));generalize es'.length=n' at*;generalize ks'.len=m' at*;clear hta hok;have HF:=ah (HA.out.au hf);clear hf)
  |(go_at_call 182;refine(HK.out (HO.out.aO HF.out)).mono ?_;rintro e w2 ⟨rfl,hp⟩;have HP:=ah hp;clear hp))
 go_end0
 exact⟨rfl,HP.out.base HF.out⟩
noncomputable def zi (es:List aG) (ks:aH) (c:aW):List UInt8:=if tf (fG es ks c)then jf es ks c else jf [] .nil []
theorem aaY (Q:Nat→Prop) (es:List aG) (ks:aH) (c:aW) (w:World) (ev kv cv:Value) (h:fH Q w ev kv cv es ks c) (hok:fP es ks c) (hr:¬fG es ks c):
 Calls Tryz.prog 104 #[.agg #[ev,kv,cv]] w fun e w'=>e= .returned (.agg #[.slice none 0 0, .slice none 0 0, .slice none 0 0])∧aj ay w w':=by
 obtain⟨a0,c0,a1,c1,a2,c2,rfl,rfl,rfl⟩:=h.shape
 have HR:=ah (fun w' (f:aj ay w w')=>aZ hr▸yO Q es ks c w' _ _ _ (h.aO f) hok)
 clear h hok hr
 generalize es.length=n at*
 generalize ks.len=m at*
 generalize c.length=k at*
 obtain⟨hb2,hfb,hbs⟩:=sZ w (.cells #[.slice a0 n c0, .slice a1 m c1, .slice a2 k c2] 34) #[.slice none 0 0, .slice none 0 0, .slice none 0 0] 34
 have HB2:=ah hb2;clear hb2
 have bg:=ah hfb;clear hfb
 have uT:=ah hbs;clear hbs
 go_enter Tryz.func104,Tryz.ntmps104
 go_wp2_with(go_at_call 93;refine(HR.out _ bg.out).mono ?_;rintro e w1 ⟨rfl,hw1⟩;obtain⟨y0,y1,y2⟩:=xA w _ _ _ _ w1 ((aj.alloc ay _ _).au hw1);have hblk:=hw1.blk HB2.out id;have z0:=aC hblk 0 rfl;have z1:=aC hblk 1 rfl;have z2:=aC hblk 2 rfl;have f0:=bf hblk 0;have f1:=bf hblk 1;have f2:=bf hblk 2;have hsb:=lt_of_block hblk;have HR3:=ah (Jc hblk (bg.out.au hw1) (by omega) (.slice none 0 0) (.slice none 0 0) (.slice none 0 0));have HW1:=ah hw1;clear hw1 hblk)
 clear y0 y1 y2 z0 z1 z2
 have y0:=aC HR3.out.1 0 rfl
 have y1:=aC HR3.out.1 1 rfl
 have y2:=aC HR3.out.1 2 rfl
 exact bodyPost_ret (v:= .agg #[.slice none 0 0, .slice none 0 0, .slice none 0 0]) (by simp[results,Tryz.results104,go_sem,y0,y1,y2]) rfl ⟨rfl,HR3.out.2.1⟩
theorem aaZ (Q:Nat→Prop) (es:List aG) (ks:aH) (c:aW) (w:World) (ev kv cv:Value) (h:fH Q w ev kv cv es ks c) (hok:fP es ks c):
 Calls Tryz.prog 104 #[.agg #[ev,kv,cv]] w fun e w'=>∃ev' kv' cv' es' ks' c',e= .returned (.agg #[ev',kv',cv'])∧bQ (fun b=>w.heap.size≤b) w' ev' kv' es' ks'∧fC (fun b=>w.heap.size≤b) w' cv' c'.length (eu c')∧fP es' ks' c'∧su es' ks'++ctxB c'=zi es ks c∧aj ay w w':=by
 by_cases hr:fG es ks c
 ·refine(WJ Q es ks c w ev kv cv h hok hr).mono fun e w' ⟨ev',kv',cv',h1,h2,h3⟩=>⟨ev',kv',cv',es,ks,c,h1,h2,h3.EX,hok,?_,h3.aP⟩
  unfold zi su ctxB
  rw[bZ hr,hr.tree,bZ hr.ctx]
  rfl
 ·refine(aaY Q es ks c w ev kv cv h hok hr).mono fun e w' ⟨h1,h3⟩=>⟨_,_,_,[], .nil,[],h1,(Sr w).aO h3,⟨.inl ⟨none,rfl,rfl,rfl⟩,fun h=>absurd rfl h⟩,⟨⟨⟨by simp,fun e he=>by cases he⟩,by simp[aH.len],trivial⟩,by decide,(fun s hs=>by cases hs),by simp⟩,?_,h3⟩
  have e1:bW 5 [] .nil=true:=by decide
  unfold zi su ctxB
  rw[aZ hr,e1,bZ Ho]
  rfl
theorem Sz (Q:Nat→Prop) (ob:Nat) (w:World) (v:Value) (bs:List UInt8) (es:List aG) (ks:aH) (c:aW) (ev kv cv:Value) (ho:iM w ob v bs) (h:fH Q w ev kv cv es ks c) (hok:fP es ks c) (hl:bs.length≤79000000):
 Calls Tryz.prog 73 #[.pointer (some ⟨ob,0,none⟩), .agg #[ev,kv,cv]] w fun e w'=>e= .returned (.tuple #[])∧dH w ob v bs (zi es ks c) w':=by
 have HC:=ah (fun W (f:aj ay w W)=>aaZ Q es ks c W _ _ _ (h.aO f) hok)
 obtain⟨a0,c0,a1,c1,a2,c2,rfl,rfl,rfl⟩:=h.shape
 clear h hok
 generalize zi es ks c=X at*
 generalize es.length=n at*
 generalize ks.len=m at*
 generalize c.length=k at*
 have HO:=ah ho;clear ho
 have aQ:=ah (heap_alloc_new w (.cells #[.slice a0 n c0, .slice a1 m c1, .slice a2 k c2] 34))
 have HA:=ah (aj.alloc ay w (.cells #[.slice a0 n c0, .slice a1 m c1, .slice a2 k c2] 34))
 have HAS:=ah (show(w.alloc (.cells #[.slice a0 n c0, .slice a1 m c1, .slice a2 k c2] 34)).heap.size=w.heap.size+1 by simp)
 have dK:=ah (show ¬gX ob v w.heap.size from fun h=>by have:=um HO.out _ h;omega)
 go_enter Tryz.func73,Tryz.ntmps73
 go_wp2_with(first
  |(go_at_call 104;refine(HC.out _ HA.out).mono ?_;rintro e w1 ⟨ev',kv',cv',es',ks',c',rfl,hta,hrc,hok,hx,hf⟩;obtain⟨a3,c3,rfl⟩:=hta.ents.rd.sl;obtain⟨os3,fU,-⟩:=hta.kids;obtain⟨a4,c4,rfl⟩:=fU.rd.sl;clear fU;obtain⟨a5,c5,rfl⟩:=hrc.rd.sl;have Ip:=ah hx;clear hx
    have hblk:=hf.blk aQ.out id
    have Jf:=ah hblk
    have y0:=aC hblk 0 rfl
    have y1:=aC hblk 1 rfl
    have y2:=aC hblk 2 rfl
    have f0:=bf hblk 0
    have f1:=bf hblk 1
    have f2:=bf hblk 2
    have hsb:=lt_of_block hblk
    have HR3:=ah (Jc (w0:=w) hblk (HA.out.au hf) (Nat.le_refl _) (.slice a3 es'.length c3) (.slice a4 ks'.len c4) (.slice a5 c'.length c5))
    have dM:=ah (hta.turn (Q':=fun b=>w.heap.size+1≤b) fun b hb hQ=>⟨HR3.out.2.2 b (by have:=HAS.out;omega),by have:=HAS.out;omega⟩)
    have jh:=ah (hrc.turn (Q':=fun b=>w.heap.size+1≤b∧b<w1.heap.size) fun b hb hQ=>⟨HR3.out.2.2 b (by have:=HAS.out;omega),by have:=HAS.out;omega,hb⟩)
    have HXL:=ah (Sv (es:=es') (ks:=ks') (Nat.le_trans hok.small (by decide)))
    have HK:=ah (aaX _ ob _ v bs es' ks' _ _ (HO.out.aO HR3.out.2.1) dM.out hok.tree (Nat.le_trans hok.small (by decide)) (by omega))
    have HK2:=ah (fun W v' (f:aj (gX ob v) _ W) (hb:∀b,b<_→gX ob v' b→gX ob v b) (ho:iM W ob v' (bs++su es' ks'))=>aaG (fun b=>w.heap.size+1≤b∧b<w1.heap.size) ob W v' _ _ c' ho (jh.out.keep f fun b _ hs=>(by have:=um HO.out b hs;omega)) (fun b hb' hQ=>by have:=um HO.out b (hb b hQ.2 hb');omega) hok.fits (by have:=hok.len;omega) (by have:=HXL.out;rw[List.length_append];omega))
    clear hta hrc hok hblk hf
    generalize su es' ks'=X1 at*
    generalize ctxB c'=X2 at*
    generalize es'.length=n' at*
    generalize ks'.len=m' at*
    generalize c'.length=k' at*)
  |(go_at_call 137;refine HK.out.mono ?_;rintro e w2 ⟨rfl,hp⟩;have y2:w2.cell? ⟨w.heap.size,2,none⟩=some (.slice a5 k' c5):=hp.cell (aC HR3.out.1 2 rfl) dK.out;have HP:=ah hp;clear hp)
  |(go_at_call 138;refine(HP.out.call fun v' ho hb hf=>HK2.out _ v' hf (fun b hb' hs=>hb b (by simpa using hb') hs) ho).mono ?_;rintro e w3 ⟨rfl,hp⟩;have lH:=ah hp;clear hp))
 go_end0
 exact⟨rfl,(lH.out.base HR3.out.2.1).cast Ip.out⟩
open Go.RowKit
open Go.RowKit
noncomputable def AP (v0 v1 v2 v3:Int):List UInt8:=if tf (f_ (bG v0 v1 v2 v3))=true then iZ v0 v1 v2 v3 else iZ 0 0 0 0
open Go.RowKit
open Go.RowKit
open Go.RowKit
open Go.RowKit
open Go.RowKit
open Go.RowKit
theorem SA {es:List aG} {ks:aH} {c:aW} (hr:fG es ks c):zi es ks c=jf es ks c:=by unfold zi;rw[bZ hr,if_pos rfl]
open Go.RowKit
theorem fC.old {w:World} {v:Value} {n:Nat} {xs:List Value} (h:Rd w v n xs):fC (fun b=>b<w.heap.size) w v n xs:=⟨h,fun hx k hk=>by
 rcases h with⟨ad,h1,h2,h3⟩|⟨b,off,c,rfl,h2,h3,h4⟩
 ·exact absurd h3 hx
 ·simp[Value.ownBlock]at hk
  subst hk
  cases xs with
  |nil=>exact absurd rfl hx
  |cons x xs=>exact World.block_lt_of_cell? _ _ (h4 0 x rfl)⟩
theorem SB (ob:Nat) (w:World) (v:Value) (bs:List UInt8) (v0 v1 v2 v3:Int) (ho:iM w ob v bs) (hb:bs.length≤80000000):
 Calls Tryz.prog 71 #[.pointer (some ⟨ob,0,none⟩), .agg #[.int .i64 v0, .int .i64 v1, .int .i64 v2, .int .i64 v3]] w fun e w'=>e= .returned (.tuple #[])∧dH w ob v bs (AP v0 v1 v2 v3) w':=
 (aaB ob w v bs v0 v1 v2 v3 ho hb).mono fun e w' ⟨he,h1,h2⟩=>⟨he,by
   unfold AP
   by_cases hm:f_ (bG v0 v1 v2 v3)
   ·rw[if_pos (bZ hm)];exact h1 hm
   ·rw[if_neg (by rw[aZ hm];decide)];exact h2 hm⟩
theorem aa2 {v0 v1 v2 v3:Int}:(AP v0 v1 v2 v3).length≤40:=by
 unfold AP
 have z:=iq (v:=0) (by decide) (by decide)
 by_cases hm:f_ (bG v0 v1 v2 v3)
 ·rw[if_pos (bZ hm)]
  have g0:0≤v0∧v0≤1099511627776:=hm 0 (by decide) (by decide)
  have g1:0≤v1∧v1≤1099511627776:=hm 1 (by decide) (by decide)
  have g2:0≤v2∧v2≤1099511627776:=hm 2 (by decide) (by decide)
  have g3:0≤v3∧v3≤1099511627776:=hm 3 (by decide) (by decide)
  have h0:=iq (v:=v0) (by omega) (by omega)
  have h1:=iq (v:=v1) (by omega) (by omega)
  have h2:=iq (v:=v2) (by omega) (by omega)
  have h3:=iq (v:=v3) (by omega) (by omega)
  unfold iZ
  simp only[List.length_append]
  omega
 ·rw[if_neg (by rw[aZ hm];decide)]
  unfold iZ
  simp only[List.length_append]
  omega
open Go.RowKit
theorem fC.Ld {Q:Nat→Prop} {w ww:World} {ob:Nat} {v u:Value} {bs cs:List UInt8} {n:Nat} {xs:List Value} (h:fC Q w u n xs) (hq:∀b,gX ob v b→¬Q b) (hp:dH w ob v bs cs ww):fC Q ww u n xs:=by
 obtain⟨_,_,_,f⟩:=hp
 exact h.keep f fun b _ hs=>hq b hs
theorem bQ.Ld {Q:Nat→Prop} {w ww:World} {ob:Nat} {v ev kv:Value} {bs cs:List UInt8} {es:List aG} {ks:aH} (h:bQ Q w ev kv es ks) (hq:∀b,gX ob v b→¬Q b) (hp:dH w ob v bs cs ww):bQ Q ww ev kv es ks:=by
 obtain⟨_,_,_,f⟩:=hp
 exact h.keep f fun b _ hs=>hq b hs
theorem aa3 (Q:Nat→Prop) (d:dh) (hr:d.right) (hok:fP d.es d.ks d.c) (w:World) (ev kv cv:Value) (ht:bQ Q w ev kv d.es d.ks) (hc:iw Q w cv d.c) (ob:Nat) (v:Value) (bs:List UInt8) (ho:iM w ob v bs) (hq:∀b,gX ob v b→¬Q b) (hl:bs.length≤70000000):
 Calls Tryz.prog 72 #[.pointer (some ⟨ob,0,none⟩), .agg #[.int .i64 d.dc, .int .i64 d.af, .int .i64 d.la, .int .i64 d.v0, .int .i64 d.v1, .int .i64 d.v2, .int .i64 d.v3,ev,kv,cv]] w fun e w'=>e= .returned (.tuple #[])∧dH w ob v bs d.enc w':=by
 obtain⟨dc,af,la,v0,v1,v2,v3,es,ks,c⟩:=d
 dsimp only at hok ht hc
 have hr:je dc af la (bG v0 v1 v2 v3) es ks c:=hr
 obtain⟨n1,n2,n3,n4,n5,n6,n7⟩:=je.nums hr
 have zk:=ah (show dh.enc ⟨dc,af,la,v0,v1,v2,v3,es,ks,c⟩=bD dc++bD af++bD la++iZ v0 v1 v2 v3++jf es ks c by unfold dh.enc xI;simp only[List.append_assoc])
 have HV:=ah (show AP v0 v1 v2 v3=iZ v0 v1 v2 v3 from if_pos (bZ n7))
 have HX:=ah (SA hr.dD)
 have l1:=iq (v:=dc) (by omega) (by omega)
 have l2:=iq (v:=af) (by omega) (by omega)
 have l3:=iq (v:=la) (by omega) (by omega)
 have l4:=aa2 (v0:=v0) (v1:=v1) (v2:=v2) (v3:=v3)
 rw[HV.out]at l4
 have hi1:kF dc:=⟨by omega,by omega⟩
 have hi2:kF af:=⟨by omega,by omega⟩
 have hi3:kF la:=⟨by omega,by omega⟩
 have BD:=ah (fun W ev kv cv (h:fH Q W ev kv cv es ks c)=>B_ Q es ks c W dc af la v0 v1 v2 v3 ev kv cv h hok)
 rw[bZ hr]at BD
 clear hr n1 n2 n3 n4 n5 n6 n7
 have hbx:=heap_alloc_new w (.cells #[.int .i64 dc, .int .i64 af, .int .i64 la, .int .i64 v0, .int .i64 v1, .int .i64 v2, .int .i64 v3,ev,kv,cv] 59)
 have hnb:¬gX ob v w.heap.size:=fun hs=>Nat.lt_irrefl _ (um ho _ hs)
 have fB:=aj.alloc ay w (.cells #[.int .i64 dc, .int .i64 af, .int .i64 la, .int .i64 v0, .int .i64 v1, .int .i64 v2, .int .i64 v3,ev,kv,cv] 59)
 have HT:=ah (fun W (f:aj ay w W)=>ht.aO f)
 have HC:=ah (fun W (f:aj ay w W)=>hc.aO f)
 have HO:=ah (fun W (f:aj ay w W)=>ho.aO f)
 have HB:=ah (fun W cs (hp:dH w ob v bs cs W) (h0:∃W0,aj ay (w.alloc (.cells #[.int .i64 dc, .int .i64 af, .int .i64 la, .int .i64 v0, .int .i64 v1, .int .i64 v2, .int .i64 v3,ev,kv,cv] 59)) W0∧dH W0 ob v bs cs W)=>(show W.heap[w.heap.size]?=some (.cells #[.int .i64 dc, .int .i64 af, .int .i64 la, .int .i64 v0, .int .i64 v1, .int .i64 v2, .int .i64 v3,ev,kv,cv] 59 (0,0)) by
  obtain⟨W0,f0,hp0⟩:=h0
  obtain⟨_,_,_,f3⟩:=hp0
  exact f3.blk (f0.blk hbx id) hnb))
 have HB0:=ah (fun W (f:aj ay (w.alloc (.cells #[.int .i64 dc, .int .i64 af, .int .i64 la, .int .i64 v0, .int .i64 v1, .int .i64 v2, .int .i64 v3,ev,kv,cv] 59)) W)=>f.blk hbx id)
 obtain⟨a1,c1,rfl⟩:=ht.ents.rd.sl
 obtain⟨os,hkr,-⟩:=ht.kids
 obtain⟨a2,c2,rfl⟩:=hkr.rd.sl
 obtain⟨a3,c3,rfl⟩:=Rd.sl hc.at_
 have bg:=ah fB
 have HQ:=ah hq
 have Le:=ah hok
 clear ht hc ho hbx hnb fB hkr hq hok
 rw[zk.out]
 generalize hgv:iZ v0 v1 v2 v3=bv at*
 have dN:=ah hgv;clear hgv
 generalize hgx:jf es ks c=bx at*
 have sD:=ah hgx;clear hgx
 go_enter Tryz.func72,Tryz.ntmps72
 go_wp2_with(first
  |(go_at_call 83;refine(BD.out _ _ _ _ ⟨HT.out _ bg.out,(HC.out _ bg.out).at_⟩).mono ?_;rintro e w1 ⟨rfl,hf1⟩
    have hbk:=HB0.out w1 hf1
    have x0:=aC hbk 0 rfl
    have bH:=ah hf1
    have xR:=ah (dH.start (HO.out w1 (bg.out.au hf1)))
    have HTW:=ah (HT.out w1 (bg.out.au hf1))
    have HCW:=ah (HC.out w1 (bg.out.au hf1))
    have ji:=ah (fun W cs (hp:dH w1 ob v bs cs W)=>HB.out W cs (hp.base (bg.out.au hf1)) ⟨w1,hf1,hp⟩)
    clear hf1 hbk)
  |(go_at_call 70;first
   |(have q9:=HP2;clear q9 x0;refine(jW HP2.out la hi3 (by first|omega|(simp only[List.length_append];omega))).mono ?_;rintro e w4 ⟨rfl,kJ⟩
     have hbk:=ji.out _ _ kJ
     have x0:=aC hbk 3 rfl
     have x1:=aC hbk 4 rfl
     have x2:=aC hbk 5 rfl
     have x3:=aC hbk 6 rfl
     have lH:=ah kJ
     clear kJ hbk)
   |(have q9:=iC;clear q9 x0;refine(jW iC.out af hi2 (by first|omega|(simp only[List.length_append];omega))).mono ?_;rintro e w3 ⟨rfl,hp3⟩
     have hbk:=ji.out _ _ hp3
     have x0:=aC hbk 2 rfl
     have HP2:=ah hp3
     clear hp3 hbk)
   |(clear x0;refine(jW xR.out dc hi1 (by first|omega|(simp only[List.length_nil];omega))).mono ?_;rintro e w2 ⟨rfl,hp2⟩
     rw[List.nil_append]at hp2
     have hbk:=ji.out _ _ hp2
     have x0:=aC hbk 1 rfl
     have iC:=ah hp2
     clear hp2 hbk))
  |(go_at_call 71;clear x0 x1 x2 x3;refine(lH.out.call (ds:=bv) fun v' ho' _ _=>(SB ob w4 v' _ v0 v1 v2 v3 ho' (by first|omega|(simp only[List.length_append];omega))).mono fun e w' h=>⟨h.1,by rw[HV.out]at h;exact h.2⟩).mono ?_;rintro e w5 ⟨rfl,fQ⟩
    have hbk:=ji.out _ _ fQ
    have x0:=aC hbk 7 rfl
    have x1:=aC hbk 8 rfl
    have x2:=aC hbk 9 rfl
    have iy:=ah fQ
    have Lh:=ah (HTW.out.Ld HQ.out fQ)
    have wK:=ah (show iw Q w5 (.slice a3 c.length c3) c from fC.Ld HCW.out HQ.out fQ)
    clear fQ hbk)
  |(go_at_call 73;refine(iy.out.call (ds:=bx) fun v' ho' _ _=>(Sz Q ob w5 v' _ es ks c _ _ _ ho' ⟨Lh.out,wK.out.at_⟩ Le.out (by first|omega|(simp only[List.length_append];omega))).mono fun e w' h=>⟨h.1,by rw[HX.out]at h;exact h.2⟩).mono ?_;rintro e w6 ⟨rfl,AQ⟩;have jF:=ah AQ;clear AQ))
 go_end0
 exact⟨rfl,jF.out.base (bg.out.au bH.out)⟩
open Go.RowKit
theorem Gs (a:BitVec 32):BitVec.ofInt 32 (a.toNat:Int)=a:=by
 rw[BitVec.ofInt_natCast,BitVec.ofNat_toNat]
 rfl
theorem SC (a:BitVec 32):IntKind.u32.wrap (a.toNat:Int)=(a.toNat:Int):=by
 have:=a.isLt
 rw[IntKind.wrap_u32]
 omega
theorem Lj (a b:BitVec 32):bits BinOp.xor IntKind.u32 (a.toNat:Int) (b.toNat:Int)=((a^^^b).toNat:Int):=by
 show IntKind.u32.wrap ((BitVec.ofInt 32 (a.toNat:Int)^^^BitVec.ofInt 32 (b.toNat:Int)).toNat:Int)=_
 rw[Gs,Gs,SC]
theorem aa6 (a b:BitVec 32):bits BinOp.and IntKind.u32 (a.toNat:Int) (b.toNat:Int)=((a&&&b).toNat:Int):=by
 show IntKind.u32.wrap ((BitVec.ofInt 32 (a.toNat:Int)&&&BitVec.ofInt 32 (b.toNat:Int)).toNat:Int)=_
 rw[Gs,Gs,SC]
theorem and_one (c:BitVec 32):bits BinOp.and IntKind.u32 (c.toNat:Int) 1=if c.getLsbD 0=true then 1 else 0:=by
 have h:=aa6 c 1#32
 rw[show((1#32).toNat:Int)=1 from rfl]at h
 rw[h,BitVec.toNat_and]
 have e:c.toNat&&&(1#32).toNat=c.toNat%2:=Nat.and_one_is_mod _
 have g:c.getLsbD 0=decide (c.toNat%2=1):=by
  rw[BitVec.getLsbD,Nat.testBit_zero]
 rw[e,g]
 have:=Nat.mod_two_eq_zero_or_one c.toNat
 rcases this with h|h<;>rw[h]<;>simp
theorem aa7 (c:BitVec 32):bits BinOp.xor IntKind.u32 (c.toNat:Int) 2197175160=((c^^^bC.P).toNat:Int):=Lj c bC.P
theorem aa8 (c:BitVec 32):bits BinOp.xor IntKind.u32 (c.toNat:Int) 4294967295=((c^^^BitVec.allOnes 32).toNat:Int):=Lj c (BitVec.allOnes 32)
theorem aa9 (c:BitVec 32) (b:UInt8):bits BinOp.xor IntKind.u32 (c.toNat:Int) (b.toNat:Int)=((c^^^BitVec.ofNat 32 b.toNat).toNat:Int):=by
 have h:=Lj c (BitVec.ofNat 32 b.toNat)
 have e:(BitVec.ofNat 32 b.toNat).toNat=b.toNat:=by
  rw[BitVec.toNat_ofNat]
  have:=b.toNat_lt
  omega
 rw[e]at h
 exact h
theorem aa_ (c:BitVec 32):((c>>>1).toNat:Int)=(c.toNat:Int)/2:=by
 rw[BitVec.toNat_ushiftRight,Nat.shiftRight_eq_div_pow]
 omega
theorem aa' (c0:BitVec 32) (b:UInt8) (w:World):Calls Tryz.prog 159 #[.int .u32 c0.toNat, .int .u8 b.toNat] w fun e w'=>e= .returned (.int .u32 (bC.add c0 b).toNat)∧w=w':=by
 have hb:=b.toNat_lt
 have hw:IntKind.u32.wrap (b.toNat:Int)=(b.toNat:Int):=by rw[IntKind.wrap_u32];omega
 go_enter Tryz.func159,Tryz.ntmps159
 go_wp2
 clear hw
 go_loopw [0,10] (fun c i W=>∃k:Nat,k≤8∧i= .int .i64 k∧c= .int .u32 (bC.Aw k (c0^^^BitVec.ofNat 32 b.toNat)).toNat∧W=w) (fun _ i _=>8-(intOf i).toNat)
 case atStart=>exact⟨0,by omega,rfl,by rw[aa9];rfl,rfl⟩
 case round=>
  obtain⟨k,hk,rfl,rfl,rfl⟩:=hrel
  by_cases hlt:k<8
  ·have hst:bC.Aw (k+1) (c0^^^BitVec.ofNat 32 b.toNat)=bC.st (bC.Aw k (c0^^^BitVec.ofNat 32 b.toNat)):=rfl
   have HST:=ah hst;clear hst
   generalize hc:bC.Aw k (c0^^^BitVec.ofNat 32 b.toNat)=c at*
   have HC:=ah hc;clear hc
   have h1:=and_one c
   have h2:=aa_ c
   have h3:=aa7 (c>>>1)
   have hcl:=c.isLt
   cases hbit:c.getLsbD 0 with
   |true=>
    rw[hbit,if_pos rfl]at h1
    have HE:=ah (show bC.st c=(c>>>1)^^^bC.P from if_pos hbit)
    go_wp2
    go_roundw
    case rel=>exact⟨k+1,by omega,by go_num,by rw[HST.out,HE.out,←h3,h2],trivial⟩
    case measure=>simp[intOf];omega
   |false=>
    rw[hbit,if_neg (by decide)]at h1
    have HE:=ah (show bC.st c=c>>>1 from if_neg (by rw[hbit];decide))
    go_wp2
    go_roundw
    case rel=>exact⟨k+1,by omega,by go_num,by rw[HST.out,HE.out,h2],trivial⟩
    case measure=>simp[intOf];omega
  ·obtain rfl:k=8:=by omega
   go_wp2
   go_ret
   exact⟨rfl,rfl⟩
theorem DK {w:World} {b off c n:Nat} {l:List UInt8} (h:Rd w (.slice (some ⟨b,off,none⟩) n c) n (bV l)) (k:Nat) (hk:k<l.length):w.cell? ⟨b,off+k,none⟩=some (.int .u8 (l.getD k 0).toNat):=by
 rcases h with⟨ad,h1,h2,h3⟩|⟨b',off',c',h1,h2,h3,h4⟩
 ·have h0:l=[]:=by simpa[bV]using h3
  subst h0
  cases hk
 ·injection h1 with e1 e2 e3
  injection e1 with e1
  injection e1 with e1 e4
  subst e1 e4
  refine h4 k _ ?_
  unfold bV
  rw[List.getElem?_map,List.getElem?_eq_getElem hk,List.getD_eq_getElem?_getD,List.getElem?_eq_getElem hk]
  rfl
theorem abb {α:Type} (f:α→UInt8→α) (c:α) {l:List UInt8} {k:Nat} (h:k<l.length):(l.take (k+1)).foldl f c=f ((l.take k).foldl f c) (l.getD k 0):=by
 rw[List.take_add_one,List.getElem?_eq_getElem h,List.foldl_append,List.getD_eq_getElem?_getD,List.getElem?_eq_getElem h]
 rfl
theorem SE (bs:List UInt8) (v:Value) (w:World) (h:Rd w v bs.length (bV bs)):Calls Tryz.prog 140 #[v] w fun e w'=>e= .returned (.int .u32 (bC.sum bs))∧w=w':=by
 obtain⟨a0,c0,rfl⟩:∃a c,v= .slice a bs.length c:=by
  rcases h with⟨ad,rfl,h2,h3⟩|⟨b,off,c,rfl,_⟩
  ·exact⟨ad,0,by rw[h2]⟩
  ·exact⟨_,_,rfl⟩
 have HH:=ah h;clear h
 generalize hn:bs.length=n at*
 have HN:=ah hn;clear hn
 have H0:=ah (show(4294967295:Int)=((bC.all (BitVec.allOnes 32) (bs.take 0)).toNat:Int)from rfl)
 go_enter Tryz.func140,Tryz.ntmps140
 go_wp2
 go_loopw [3,8] (fun c i W=>∃k:Nat,k≤n∧i= .int .i64 k∧c= .int .u32 (bC.all (BitVec.allOnes 32) (bs.take k)).toNat∧W=w) (fun _ i _=>n-(intOf i).toNat)
 case atStart=>exact⟨0,Nat.zero_le _,rfl,by rw[←H0.out],rfl⟩
 case round=>
  obtain⟨k,hk,rfl,rfl,rfl⟩:=hrel
  by_cases hlt:k<n
  ·have hkl:k<bs.length:=by rw[HN.out];exact hlt
   have hrd:=HH.out
   rcases hrd with⟨ad,he,hz,-⟩|⟨b,off,cc,he,hm1,hm2,-⟩
   ·exfalso;omega
   injection he with e1 e2 e3
   subst e1 e3
   clear e2
   have hmx:(n:Int)≤9223372036854775807:=by simp only[maxLen]at hm2;omega
   clear hm1 hm2
   have q0:=DK HH.out k hkl
   have HST:=ah (show bC.all (BitVec.allOnes 32) (bs.take (k+1))=bC.add (bC.all (BitVec.allOnes 32) (bs.take k)) (bs.getD k 0)from abb bC.add _ hkl)
   generalize bs.getD k 0=x at*
   generalize bC.all (BitVec.allOnes 32) (bs.take k)=c at*
   have HA:=ah (aa' c x wr)
   go_wp2_with(go_at_call 159;refine HA.out.mono ?_;rintro e w1 ⟨rfl,rfl⟩)
   go_roundw
   case rel=>exact⟨k+1,by omega,by go_num,by rw[HST.out],trivial⟩
   case measure=>simp[intOf];omega
  ·obtain rfl:n=k:=by omega
   have HT:=ah (show bC.sum bs=(bC.all (BitVec.allOnes 32) (bs.take bs.length)^^^BitVec.allOnes 32).toNat by rw[List.take_length];rfl)
   rw[HN.out]at HT
   generalize bC.all (BitVec.allOnes 32) (bs.take n)=c at*
   have hx:=aa8 c
   go_wp2
   go_ret
   exact⟨by rw[HT.out,BitVec.toNat_xor];rfl,rfl⟩
open Go.RowKit
theorem abd (w:World) (bs:List UInt8) (hl:bs.length≤1000):Copy w (.slice (some ⟨w.heap.size,0,none⟩) bs.length bs.length) bs (w.alloc (.cells (bV bs).toArray 5)):=by
 have hn:(bV bs).length=bs.length:=by simp[bV]
 refine⟨⟨by simp[hn], .inr ⟨w.heap.size,bs.length,_,rfl,Nat.zero_le _,heap_alloc_new w _,Nat.le_refl _,by simp only[maxLen];omega,by simp[hn],?_⟩⟩,fun k hk=>?_,aj.alloc _ _ _,_,_,rfl⟩
 ·rw[List.toList_toArray,Nat.mul_one]
  exact List.take_of_length_le (by rw[hn];exact Nat.le_refl _)
 ·simp[Value.ownBlock]at hk
  omega
theorem abe (n:Nat):(bV (bC.four n)).toArray= #[.int .u8 ((n:Int)%256), .int .u8 ((n:Int)/256%256), .int .u8 ((n:Int)/65536%256), .int .u8 ((n:Int)/16777216%256)]:=by
 unfold bV bC.four
 simp only[List.map_cons,List.map_nil,UInt8.toNat_ofNat']
 rfl
theorem SG (n:Nat) (hn:n<4294967296) (w:World):Calls Tryz.prog 139 #[.int .u32 n] w (Ret w (bC.four n)):=by
 have h:=abd w (bC.four n) (by rw[bC.Dj];decide)
 go_enter Tryz.func139,Tryz.ntmps139
 go_wp2
 go_ret
 rw[abe,show(n:Int)/16777216%256=n/16777216 by omega]at h
 exact⟨_,_,bC.four n,rfl,rfl,h⟩
theorem Ll (x y i m:Nat) (hm:2^i=m) (hx:x<m) (hl:y*m+x<4294967296):bits BinOp.or IntKind.u32 (x:Int) ((y:Int)*(m:Int))=((y*m+x:Nat):Int):=by
 subst hm
 have h:=Nat.shiftLeft_add_eq_or_of_lt hx y
 rw[Nat.shiftLeft_eq]at h
 have e:(y:Int)*((2^i:Nat):Int)=((y*2^i:Nat):Int):=by rw[Int.natCast_mul]
 rw[e]
 generalize y*2^i=z at*
 show IntKind.u32.wrap ((BitVec.ofInt 32 (x:Int)|||BitVec.ofInt 32 (z:Int)).toNat:Int)=_
 rw[BitVec.ofInt_natCast,BitVec.ofInt_natCast,BitVec.toNat_or,BitVec.toNat_ofNat,BitVec.toNat_ofNat,Nat.mod_eq_of_lt (by show x<4294967296;omega),Nat.mod_eq_of_lt (by show z<4294967296;omega),Nat.or_comm,←h,IntKind.wrap_u32]
 omega
theorem SH (l:List UInt8) (hl:4≤l.length) (b off c n:Nat) (w:World) (h:Rd w (.slice (some ⟨b,off,none⟩) n c) n (bV l)) (hnl:l.length=n):Calls Tryz.prog 172 #[.slice (some ⟨b,off,none⟩) n c] w fun e w'=>e= .returned (.int .u32 (bC.dV l))∧aj ay w w':=by
 have q0:=DK h 0 (by omega)
 have q1:=DK h 1 (by omega)
 have q2:=DK h 2 (by omega)
 have q3:=DK h 3 (by omega)
 rw[Nat.add_zero]at q0
 have h4:(4:Int)≤n:=by omega
 have BM:=ah (show bC.dV l=(l.getD 0 0).toNat+256*(l.getD 1 0).toNat+65536*(l.getD 2 0).toNat+16777216*(l.getD 3 0).toNat from rfl)
 have b0:=(l.getD 0 0).toNat_lt
 have b1:=(l.getD 1 0).toNat_lt
 have b2:=(l.getD 2 0).toNat_lt
 have b3:=(l.getD 3 0).toNat_lt
 generalize (l.getD 0 0).toNat=x0 at*
 generalize (l.getD 1 0).toNat=x1 at*
 generalize (l.getD 2 0).toNat=x2 at*
 generalize (l.getD 3 0).toNat=x3 at*
 have w0:IntKind.u32.wrap (x0:Int)=x0:=by rw[IntKind.wrap_u32];omega
 have w1:IntKind.u32.wrap (x1:Int)=x1:=by rw[IntKind.wrap_u32];omega
 have w2:IntKind.u32.wrap (x2:Int)=x2:=by rw[IntKind.wrap_u32];omega
 have w3:IntKind.u32.wrap (x3:Int)=x3:=by rw[IntKind.wrap_u32];omega
 clear h hnl hl
 go_enter Tryz.func172,Tryz.ntmps172
 go_wp2_with(fail)
 go_big_quiet (fail)
 go_wp2
 go_ret
 refine⟨?_,aj.drewN ay w _⟩
 have e1:=Ll x0 x1 8 256 (by decide) (by omega) (by omega)
 have e2:=Ll (x1*256+x0) x2 16 65536 (by decide) (by omega) (by omega)
 have e3:=Ll (x2*65536+(x1*256+x0)) x3 24 16777216 (by decide) (by omega) (by omega)
 rw[BM.out]
 have e4:bits BinOp.or IntKind.u32 (bits BinOp.or IntKind.u32 (bits BinOp.or IntKind.u32 (x0:Int) ((x1:Int)*256)) ((x2:Int)*65536)) ((x3:Int)*16777216)=((x0+256*x1+65536*x2+16777216*x3:Nat):Int):=by
  refine((congrArg (fun z=>bits BinOp.or IntKind.u32 (bits BinOp.or IntKind.u32 z ((x2:Int)*65536)) ((x3:Int)*16777216)) e1).trans ((congrArg (fun z=>bits BinOp.or IntKind.u32 z ((x3:Int)*16777216)) e2).trans (e3.trans ?_)))
  omega
 rw[←e4]
 rfl
end Go.Proofs.YtabkpccdnkjoiaaGreat
