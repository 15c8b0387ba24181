/- Words for the law MsgDecodes: PackPut2, R16b, PackPut3, R16c, R16w, R16x, R16y, Awake16a, PackRead, Awake16, PackBytes, Put16, BunPut, Crc. -/
import Derived.Test.YtabkpccdnkjoiaaGreatMsgDecodesG0
import Derived.Test.YtabkpccdnkjoiaaGreatMsgDecodesG4
import Derived.Test.YtabkpccdnkjoiaaGreatMsgDecodesG9
import Derived.Test.YtabkpccdnkjoiaaGreatMsgDecodesG12
import Derived.Test.YtabkpccdnkjoiaaGreatMsgDecodesG14
import Derived.Test.YtabkpccdnkjoiaaGreatMsgDecodesG16
import Derived.Test.YtabkpccdnkjoiaaGreatMsgDecodesG17
import Derived.Test.YtabkpccdnkjoiaaGreatMsgDecodesG18
import Derived.Test.YtabkpccdnkjoiaaGreatMsgDecodesG19
import Derived.Test.YtabkpccdnkjoiaaGreatMsgDecodesG21
import Derived.Test.YtabkpccdnkjoiaaGreatMsgDecodesG28
import Derived.Test.YtabkpccdnkjoiaaGreatMsgDecodesG31
set_option linter.unusedSimpArgs false
set_option linter.unusedVariables false
set_option maxHeartbeats 32000000
set_option maxRecDepth 1000000
namespace Go.Proofs.YtabkpccdnkjoiaaGreat
open Go.RowKit
theorem adv (ob:Nat) (w:World) (v:Value) (bs:List UInt8) (d n:Int) (ho:jv w ob v bs) (hd:lY d) (hn:lY n) (hl:bs.length≤94000000):
 Calls Tryz.prog 227 #[.pointer (some ⟨ob,0,none⟩), .agg #[.int .i64 d, .int .i64 n]] w fun e w'=>e= .returned (.tuple #[])∧dY w ob v bs (bG d++bG n) w':=by
 have HO:=ah ho;clear ho
 have eP:=ah (show ¬iT ob v w.heap.size from fun h=>by have:=vM HO.out _ h;omega)
 have HB:=ah (dY.start (HO.out.aJ (aj.alloc ay w (.cells #[.int .i64 d, .int .i64 n] 170))))
 have H1:=ah (jr hd.1 hd.2)
 have HD:=ah hd;clear hd
 have HN:=ah hn;clear hn
 go_enter Tryz.func227,Tryz.ntmps227
 go_wp2_with(first
  |(go_at_call 70;refine(lg nN.out n HN.out (by have:=H1.out;simp only[List.nil_append];omega)).mono ?_;rintro e w4 ⟨rfl,mF⟩;have iR:=ah mF;clear mF y1)
  |(go_at_call 70;refine(lg HB.out d HD.out (by simp only[List.length_nil];omega)).mono ?_;rintro e w3 ⟨rfl,hp3⟩;have y1:w3.cell? ⟨w.heap.size,1,none⟩=some (.int .i64 n):=hp3.cell (au (heap_alloc_new w _) 1 rfl) eP.out;have nN:=ah hp3;clear hp3 HB))
 go_end0
 exact⟨rfl,(iR.out.base (aj.alloc _ _ _)).cast (by rw[List.nil_append])⟩
def aS.sN:Nat→aS→List UInt8
 |0,_=> []
 |_+1, .nil=> []
 |n+1, .cons key es sub rest=>jF key++(fM es sub++rest.sN n)
theorem WQ:∀(n:Nat) (ks:aS) {key:ByteArray} {es:List aQ} {sub rest:aS},ks.drop n= .cons key es sub rest→ks.sN (n+1)=ks.sN n++(jF key++fM es sub)
 |0, .cons _ _ _ _,_,_,_,_,h=>by cases h;simp[aS.sN]
 |0, .nil,_,_,_,_,h=>by cases h
 |n+1, .nil,_,_,_,_,h=>by cases h
 |n+1, .cons _ _ _ r,_,_,_,_,h=>by
  show jF _++(fM _ _++r.sN (n+1))=(jF _++(fM _ _++r.sN n))++_
  rw[WQ n r h]
  simp only[List.append_assoc]
theorem Pm:∀(n:Nat) (ks:aS),jh ks=ks.sN n++jh (ks.drop n)
 |0,_=>rfl
 |_+1, .nil=>rfl
 |n+1, .cons key es sub rest=>by
  rw[Bl]
  show _=(jF _++(fM _ _++rest.sN n))++jh (rest.drop n)
  rw[Pm n rest]
  simp only[List.append_assoc]
theorem adw (ks:aS):ks.sN ks.len=jh ks:=by
 have h:=Pm ks.len ks
 rw[aS.yR (Nat.le_refl _)]at h
 rw[h];simp[jh]
theorem WR {es:List aQ} {k:Nat} (h:k<es.length):jg (es.take (k+1))=jg (es.take k)++oO (es.getD k aQ.zero):=by
 rw[take_succ aQ.zero h]
 unfold jg
 rw[List.flatMap_append]
 simp
theorem adx (es:List aQ) (k:Nat):jg es=jg (es.take k)++jg (es.drop k):=by
 have h:jg (es.take k++es.drop k)=jg (es.take k)++jg (es.drop k):=by unfold jg;rw[List.flatMap_append]
 rwa [List.take_append_drop]at h
theorem ady {es:List aQ} (ks:aS) {k:Nat} (h:k<es.length):(bG es.length++jg (es.take k)).length+(oO (es.getD k aQ.zero)).length≤(fM es ks).length:=by
 have h1:=adx es (k+1)
 rw[WR h]at h1
 unfold fM
 rw[h1]
 simp only[List.length_append]
 omega
theorem adz (es:List aQ) {ks:aS} {k:Nat} {key:ByteArray} {es':List aQ} {sub rest:aS} (h:ks.drop k= .cons key es' sub rest):
 (bG es.length++(jg es++(bG ks.len++ks.sN k))).length+(jF key++fM es' sub).length≤(fM es ks).length:=by
 have h1:=Pm k ks
 rw[h,Bl]at h1
 unfold fM
 rw[h1]
 unfold fM
 simp only[List.length_append]
 omega
theorem adA (es:List aQ) (ks:aS):(bG es.length++jg es).length+(bG ks.len).length≤(fM es ks).length:=by
 unfold fM
 simp only[List.length_append]
 omega
theorem adB (es:List aQ) (ks:aS):(bG es.length).length≤(fM es ks).length:=by
 unfold fM
 simp only[List.length_append]
 omega
theorem aS.Ok.at_ {k:Nat} {ks:aS} {key:ByteArray} {es:List aQ} {sub rest:aS} (h:ks.Ok) (hd:ks.drop k= .cons key es sub rest):key.size≤9223372036854775807∧oI es sub:=by
 have:=h.drop k
 rw[hd]at this
 exact⟨this.1,this.2.1,this.2.2.1,this.2.2.2.1⟩
theorem WS (s:ByteArray):s.size≤(jF s).length:=by
 have h:s.data.toList.length=s.size:=Array.length_toList
 unfold jF
 rw[List.length_append];omega
theorem adC:∀(N:Nat) (Q:Nat→Prop) (es:List aQ) (ks:aS) (w:World) (ob:Nat) (v:Value) (bs:List UInt8) (ev kv:Value),jE ks<N→jv w ob v bs→dh Q w ev kv es ks→(∀b,iT ob v b→¬Q b)→oI es ks→bs.length+(fM es ks).length≤90000000→
 Calls Tryz.prog 182 #[.pointer (some ⟨ob,0,none⟩), .agg #[ev,kv]] w fun e w'=>e= .returned (.tuple #[])∧dY w ob v bs (fM es ks) w':=by
 intro N
 induction N with
 |zero=>intros;exfalso;omega
 |succ N mV=>
  intro Q es ks w ob v bs ev kv hN ho ht hq hok hl
  have IH:=ah mV;clear mV
  have ht:dh (fun b=>Q b∧b<w.heap.size) w ev kv es ks:=ht.turn fun b hb hQ=>⟨rfl,hQ,hb⟩
  obtain⟨ae,ce,rfl⟩:=ht.ents.rd.sl
  obtain⟨os,hkr,iP⟩:=ht.kids
  obtain⟨ak,ck,rfl⟩:=hkr.rd.sl
  have hwb:aj ay w (w.alloc (.cells #[.slice ae es.length ce, .slice ak ks.len ck] 30)):=aj.alloc _ _ _
  have HQ:=ah (show ∀b,iT ob v b→¬(Q b∧b<w.heap.size)from fun b hb hQ=>hq b hb hQ.1);clear hq
  have HE:=ah (ht.ents.keep hwb fun _ _ s=>s.elim)
  have mW:=ah (hkr.keep hwb fun _ _ s=>s.elim);clear hkr
  have qw:=ah (iP.keep hwb fun _ _ s=>s.elim);clear iP ht
  have HO:=ah ho;clear ho
  have eP:=ah (show ¬iT ob v w.heap.size from fun h=>by have:=vM HO.out _ h;omega)
  have bT:=ah hok;clear hok
  have kN:=ah hN;clear hN
  have HL:=ah hl;clear hl
  have hnb:es.length≤140737488351232:=bT.out.es.len
  have hmb:ks.len≤140737488351232:=bT.out.len
  have WT:=ah (fun(k:Nat) (h:k<es.length)=>ady ks h)
  have HU0:=ah (adB es ks)
  have HUM:=ah (adA es ks)
  have HUK:=ah (fun(k:Nat) (key:ByteArray) (es':List aQ) (sub rest:aS) (h:ks.drop k= .cons key es' sub rest)=>adz es h)
  have vP:=ah (show bG es.length++(jg es++(bG ks.len++ks.sN ks.len))=fM es ks by rw[adw];rfl)
  have gV:=ah (show jg (es.take es.length)=jg es by rw[List.take_length])
  generalize hes:es.length=n at*
  have HN:=ah hes;clear hes
  generalize hkl:ks.len=m at*
  have HM:=ah hkl;clear hkl
  obtain⟨WB,eU⟩:∃WB,WB=w.alloc (.cells #[.slice ae n ce, .slice ak m ck] 30):=⟨_,rfl⟩
  have hb0:WB.heap[w.heap.size]?=some (.cells #[.slice ae n ce, .slice ak m ck] 30 (0,0)):=by rw[eU];exact heap_alloc_new w _
  have HB0:=ah hb0;clear hb0
  rw[←eU]at hwb HE mW qw
  have dF:=ah hwb;clear hwb
  have Fj:=ah eU;clear eU
  have HB:=ah (dY.start (HO.out.aJ dF.out))
  go_enter Tryz.func182,Tryz.ntmps182
  go_wp2_with(go_at_call 70;rw[←Fj.out];refine(lg HB.out n ⟨by omega,by omega⟩ (by have:=HL.out;simp only[List.length_nil];omega)).mono ?_;rintro e w1 ⟨rfl,hp⟩;have HP:=ah (hp.cast (List.nil_append _));clear hp;have y0:w1.cell? ⟨w.heap.size,0,none⟩=some (.slice ae n ce):=HP.out.cell (au HB0.out 0 rfl) eP.out)
  go_loopw [16] (fun i ww=>∃k:Nat,k≤n∧i= .int .i64 k∧dY WB ob v bs (bG n++jg (es.take k)) ww) (fun i _=>n-(intOf i).toNat)
  case atStart=>exact⟨0,Nat.zero_le _,rfl,HP.out.cast (by simp[jg])⟩
  case round=>
   clear HP y0
   obtain⟨k,hk,rfl,hp⟩:=hrel
   have iQ:=ah hp;clear hp
   by_cases hlt:k<n
   ·have hlk:k<es.length:=by rw[HN.out];exact hlt
    have hrd:=HE.out.put HQ.out iQ.out
    rcases Rd.shape hrd with⟨ad,he,h0⟩|⟨b,off,cc,he,hmax⟩
    ·exfalso;omega
    ·injection he with e1 e2 e3
     subst e1 e3
     clear e2
     obtain⟨q0,q1,q2,q3⟩:=xC (es:=es) hrd k hlk
     clear hrd
     have hft:=bT.out.es.fits _ (getD_mem aQ.zero hlk)
     have HST:=ah (WR hlk)
     have JV:=ah (WT.out k hlt)
     obtain⟨s,hgd⟩:∃s,s=es.getD k aQ.zero:=⟨_,rfl⟩
     rw[←hgd]at HST q0 q1 q2 q3 hft JV
     clear hgd
     have Pn:=ah hft;clear hft
     obtain⟨v',ho',hfr,hfm⟩:=iQ.out
     have iG:=ah ho';clear ho'
     have mO:=ah hfr;clear hfr
     have pK:=ah hfm;clear hfm
     have DX:=ah (show ¬iT ob v' wr.heap.size from fun h=>by have:=vM iG.out _ h;omega)
     have HB1:=ah (dY.start (iG.out.aJ (aj.alloc ay wr (.cells #[.int .i64 s.dc, .int .i64 s.n, .string s.s, .int .i64 s.k] 172))))
     have hbl:(bs++(bG n++jg (es.take k))).length+(bG s.dc++(bG s.n++(jF s.s++bG s.k))).length≤90000000:=by
      have h1:=JV.out
      have h2:=HL.out
      unfold oO at h1
      simp only[List.length_append]at h1 h2⊢;omega
     simp only[List.length_append]at hbl
     have kF:=ah (WS s.s)
     have uo:=ah hbl;clear hbl
     go_wp2_with(first
      |(go_at_call 227;refine(HB1.out.call fun v' ho _ _=>adv ob _ v' _ s.dc s.n ho Pn.out.1 Pn.out.2.1 (by have:=uo.out;simp only[List.length_append,List.length_nil];omega)).mono ?_;rintro e w3 ⟨rfl,hp3⟩;have y2:w3.cell? ⟨wr.heap.size,2,none⟩=some (.string s.s):=hp3.cell (au (heap_alloc_new wr _) 2 rfl) DX.out;have y3:w3.cell? ⟨wr.heap.size,3,none⟩=some (.int .i64 s.k):=hp3.cell (au (heap_alloc_new wr _) 3 rfl) DX.out;have nN:=ah hp3;clear hp3)
      |(go_at_call 228;refine(VW nN.out s.s (by have:=uo.out;have:=kF.out;simp only[List.length_append,List.length_nil];omega)).mono ?_;rintro e w4 ⟨rfl,mF⟩;have z3:w4.cell? ⟨wr.heap.size,3,none⟩=some (.int .i64 s.k):=mF.cell (au (heap_alloc_new wr _) 3 rfl) DX.out;have iR:=ah mF;clear mF y2 y3)
      |(go_at_call 70;refine(lg iR.out s.k Pn.out.2.2.1 (by have:=uo.out;simp only[List.length_append,List.length_nil];omega)).mono ?_;rintro e w5 ⟨rfl,gY⟩;have kJ:=ah gY;clear gY z3))
     go_roundw
     case rel=>exact⟨k+1,by omega,by go_num,(dY.trans mO.out pK.out (kJ.out.base (aj.alloc _ _ _))).cast (by rw[HST.out];unfold oO;simp only[List.append_assoc,List.nil_append])⟩
     case measure=>simp[intOf];omega
   ·obtain rfl:n=k:=by omega
    rw[gV.out]at iQ
    clear hlt hk WT HE
    have y1:wr.cell? ⟨w.heap.size,1,none⟩=some (.slice ak m ck):=iQ.out.cell (au HB0.out 1 rfl) eP.out
    go_wp2_with(go_at_call 70;refine(lg iQ.out m ⟨by omega,by omega⟩ (by have:=HL.out;have:=HUM.out;omega)).mono ?_;rintro e w1 ⟨rfl,hp⟩;have HP:=ah (hp.cast (List.append_assoc _ _ _));clear hp;have y1:w1.cell? ⟨w.heap.size,1,none⟩=some (.slice ak m ck):=HP.out.cell (au HB0.out 1 rfl) eP.out)
    go_loopw [41] (fun i ww=>∃k:Nat,k≤m∧i= .int .i64 k∧dY WB ob v bs (bG n++(jg es++(bG m++ks.sN k))) ww) (fun i _=>m-(intOf i).toNat)
    case atStart=>exact⟨0,Nat.zero_le _,rfl,HP.out.cast (by simp[aS.sN])⟩
    case round=>
     clear HP iQ
     obtain⟨k,hk,rfl,hp⟩:=hrel
     have iQ:=ah hp;clear hp
     by_cases hlt:k<m
     ·obtain⟨key,es',sub,rest,hdr⟩:=aS.xB (n:=k) (ks:=ks) (by rw[HM.out];exact hlt)
      have hrd:=mW.out.put HQ.out iQ.out
      rcases Rd.shape hrd with⟨ad,he,h0⟩|⟨b,off,cc,he,hmax⟩
      ·exfalso;omega
      ·injection he with e1 e2 e3
       subst e1 e3
       clear e2
       obtain⟨v',ho',hfr,hfm⟩:=iQ.out
       obtain⟨ev',kv',q0,q1,q2,hta⟩:=wz hrd (qw.out.keep hfm fun b _ hs=>HQ.out b hs) hdr
       clear hrd
       obtain⟨h_,ig,rfl⟩:=hta.ents.rd.sl
       obtain⟨os',lV,qx⟩:=hta.kids
       obtain⟨iq,iw,rfl⟩:=lV.rd.sl
       clear lV qx
       have adF:=ah hta;clear hta
       have iH:=ah (yT k hdr)
       have HKO:=ah (bT.out.ks.at_ hdr)
       have HST:=ah (WQ k ks hdr)
       have JV:=ah (HUK.out _ _ _ _ _ hdr)
       have iG:=ah ho';clear ho'
       have hsz:w.heap.size≤wr.heap.size:=Nat.le_trans dF.out.size hfm.size
       have oH:=ah (show ∀b,iT ob v' b→¬(Q b∧b<w.heap.size)from fun b hb hQ=>HQ.out b (Dj hfr b (Nat.lt_of_lt_of_le hQ.2 dF.out.size) hb) hQ)
       have mO:=ah hfr;clear hfr
       have pK:=ah hfm;clear hfm
       have DX:=ah (show ¬iT ob v' wr.heap.size from fun h=>by have:=vM iG.out _ h;omega)
       have hbl:(bs++(bG n++(jg es++(bG m++ks.sN k)))).length+(jF key++fM es' sub).length≤90000000:=by
        have h1:=JV.out
        have h2:=HL.out
        rw[@List.length_append _ bs _]
        omega
       rw[@List.length_append _ (jF key) _]at hbl
       have kF:=ah (WS key)
       have uo:=ah hbl;clear hbl
       have HIH:=ah (fun W v3 Po (o:jv W ob v3 Po) (t:dh (fun b=>Q b∧b<w.heap.size) W (.slice h_ es'.length ig) (.slice iq sub.len iw) es' sub) (q:∀b,iT ob v3 b→¬(Q b∧b<w.heap.size)) (l:Po.length+(fM es' sub).length≤90000000)=>IH.out _ es' sub W ob v3 Po _ _ (by have:=iH.out;have:=kN.out;omega) o t q HKO.out.2 l)
       generalize es'.length=n' at*
       generalize sub.len=m' at*
       have HB1:=ah (dY.start (iG.out.aJ (aj.alloc ay wr (.cells #[.string key, .slice h_ n' ig, .slice iq m' iw] 83))))
       have pR:=ah (adF.out.aJ (aj.alloc ay wr (.cells #[.string key, .slice h_ n' ig, .slice iq m' iw] 83)))
       clear y1
       go_wp2_with(first
        |(go_at_call 228;refine(VW HB1.out key (by have:=uo.out;have:=kF.out;simp only[List.length_nil];omega)).mono ?_;rintro e w4 ⟨rfl,mF⟩;have z1:w4.cell? ⟨wr.heap.size,1,none⟩=some (.slice h_ n' ig):=mF.cell (au (heap_alloc_new wr _) 1 rfl) DX.out;have z2:w4.cell? ⟨wr.heap.size,2,none⟩=some (.slice iq m' iw):=mF.cell (au (heap_alloc_new wr _) 2 rfl) DX.out;have iR:=ah mF;clear mF)
        |(go_at_call 182;refine(iR.out.call fun v3 ho3 hb3 hf3=>HIH.out _ v3 _ ho3 (pR.out.keep hf3 fun b _ hs=>oH.out b hs) (fun b hb hQ=>oH.out b (hb3 b (by simp only[World.size_alloc];omega) hb) hQ) (by have:=uo.out;rw[List.length_append,List.nil_append];omega)).mono ?_;rintro e w5 ⟨rfl,gY⟩;have kJ:=ah gY;clear gY z1 z2))
       go_roundw
       case rel=>exact⟨k+1,by omega,by go_num,(dY.trans mO.out pK.out (kJ.out.base (aj.alloc _ _ _))).cast (by rw[HST.out];simp only[List.append_assoc,List.nil_append])⟩
       case measure=>simp[intOf];omega
     ·obtain rfl:m=k:=by omega
      go_wp2
      go_end0
      exact⟨rfl,(iQ.out.cast vP.out).base dF.out⟩
open Go.RowKit
open Go.RowKit
def uS (es:List aQ) (ks:aS):List UInt8:=if dD 5 es ks then fM es ks else fM [] .nil
theorem adH (Q:Nat→Prop) (es:List aQ) (ks:aS) (w:World) (ev kv:Value) (ht:dh Q w ev kv es ks) (hok:oI es ks) (hr:dD 5 es ks=false):
 Calls Tryz.prog 164 #[.agg #[ev,kv]] w fun e w'=>e= .returned (.agg #[.slice none 0 0, .slice none 0 0])∧aj ay w w':=by
 obtain⟨ae,ce,rfl⟩:=ht.ents.rd.sl
 obtain⟨os,hkr,iP⟩:=ht.kids
 obtain⟨ak,ck,rfl⟩:=hkr.rd.sl
 have HR:=ah (fun W (f:aj ay w W)=>IZ Q es ks W _ _ (ht.aJ f) hok)
 rw[hr]at HR
 clear hkr iP ht hok hr
 generalize es.length=n at*
 generalize ks.len=m at*
 obtain⟨hb2,hfb,hbs⟩:=uJ w (.cells #[.slice ae n ce, .slice ak m ck] 30) #[.slice none 0 0, .slice none 0 0] 30
 have HB2:=ah hb2;clear hb2
 have dI:=ah hfb;clear hfb
 have wE:=ah hbs;clear hbs
 go_enter Tryz.func164,Tryz.ntmps164
 go_wp2_with(go_at_call 155;refine(HR.out _ dI.out).mono ?_;rintro e w1 ⟨rfl,hw1⟩;obtain⟨y0,y1⟩:=MI w _ _ _ w1 ((aj.alloc ay _ _).aC hw1);have hblk:=hw1.blk HB2.out id;have z0:=au hblk 0 rfl;have z1:=au hblk 1 rfl;have f0:=aG hblk 0;have f1:=aG hblk 1;have hsb:=lt_of_block hblk;have HR2:=ah (res2 hblk (dI.out.aC hw1) (by omega) (.slice none 0 0) (.slice none 0 0));have HW1:=ah hw1;clear hw1 hblk)
 clear y0 y1 z0 z1
 have y0:=au HR2.out.1 0 rfl
 have y1:=au HR2.out.1 1 rfl
 exact bodyPost_ret (v:= .agg #[.slice none 0 0, .slice none 0 0]) (by simp[results,Tryz.results164,go_sem,y0,y1]) rfl ⟨rfl,HR2.out.2.1⟩
theorem WU (w:World):dh (fun b=>w.heap.size≤b) w (.slice none 0 0) (.slice none 0 0) [] .nil:=
 ⟨⟨.inl ⟨none,rfl,rfl,rfl⟩,fun h=>absurd rfl h⟩,[],⟨.inl ⟨none,rfl,rfl,rfl⟩,fun h=>absurd rfl h⟩,rfl⟩
theorem adI (Q:Nat→Prop) (es:List aQ) (ks:aS) (w:World) (ev kv:Value) (ht:dh Q w ev kv es ks) (hok:oI es ks) (hsz:sizeT es ks≤4000):
 Calls Tryz.prog 164 #[.agg #[ev,kv]] w fun e w'=>∃ev' kv' es' ks',e= .returned (.agg #[ev',kv'])∧dh (fun b=>w.heap.size≤b) w' ev' kv' es' ks'∧oI es' ks'∧fM es' ks'=uS es ks∧aj ay w w':=by
 cases hr:dD 5 es ks with
 |true=>exact(Sv Q es ks w ev kv ht hok hsz hr).mono fun e w' ⟨ev',kv',h1,h2,h3⟩=>⟨ev',kv',es,ks,h1,h2,hok,by unfold uS;rw[hr];rfl,h3⟩
 |false=>exact(adH Q es ks w ev kv ht hok hr).mono fun e w' ⟨h1,h3⟩=>⟨_,_,[], .nil,h1,(WU w).aJ h3,⟨⟨by simp,fun e he=>by cases he⟩,by simp[aS.len],trivial⟩,by unfold uS;rw[hr];rfl,h3⟩
theorem WV {es:List aQ} {ks:aS} (hsz:sizeT es ks≤4000):(uS es ks).length≤300020:=by
 unfold uS
 split
 ·have:=TW (by assumption) (by omega:sizeT es ks≤9223372036854775807)
  omega
 ·have:=TW (es:=[]) (ks:= .nil) (by decide) (by decide)
  have h0:sizeT [] .nil=0:=rfl
  omega
theorem adJ (Q:Nat→Prop) (ob:Nat) (w:World) (v:Value) (bs:List UInt8) (es:List aQ) (ks:aS) (ev kv:Value) (ho:jv w ob v bs) (ht:dh Q w ev kv es ks) (hok:oI es ks) (hsz:sizeT es ks≤4000) (hl:bs.length≤80000000):
 Calls Tryz.prog 137 #[.pointer (some ⟨ob,0,none⟩), .agg #[ev,kv]] w fun e w'=>e= .returned (.tuple #[])∧dY w ob v bs (uS es ks) w':=by
 have HC:=ah (fun W (f:aj ay w W)=>adI Q es ks W _ _ (ht.aJ f) hok hsz)
 have rM:=ah (WV hsz)
 obtain⟨ae,ce,rfl⟩:=ht.ents.rd.sl
 obtain⟨os,hkr,iP⟩:=ht.kids
 obtain⟨ak,ck,rfl⟩:=hkr.rd.sl
 clear hkr iP ht hok hsz
 generalize uS es ks=X at*
 generalize es.length=n at*
 generalize ks.len=m at*
 have HO:=ah ho;clear ho
 have HA:=ah (aj.alloc ay w (.cells #[.slice ae n ce, .slice ak m ck] 30))
 go_enter Tryz.func137,Tryz.ntmps137
 go_wp2_with(first
  |(go_at_call 164;refine(HC.out _ HA.out).mono ?_;rintro e w1 ⟨ev',kv',es',ks',rfl,hta,hok,hx,hf⟩;obtain⟨a1,c1,rfl⟩:=hta.ents.rd.sl;obtain⟨os3,fE,-⟩:=hta.kids;obtain⟨a2,c2,rfl⟩:=fE.rd.sl;clear fE;subst hx;have HK:=ah (fun ho=>adC _ _ es' ks' w1 ob v bs _ _ (Nat.lt_succ_self _) ho hta (fun b hb hQ=>by have:=vM HO.out b hb;have:=HA.out.size;omega) hok (by have:=rM.out;omega));generalize es'.length=n' at*;generalize ks'.len=m' at*;clear hta hok;have HF:=ah (HA.out.aC hf);clear hf)
  |(go_at_call 182;refine(HK.out (HO.out.aJ HF.out)).mono ?_;rintro e w2 ⟨rfl,hp⟩;have HP:=ah hp;clear hp))
 go_end0
 exact⟨rfl,HP.out.base HF.out⟩
noncomputable def BP (es:List aQ) (ks:aS) (c:aX):List UInt8:=if tf (jM es ks c)then kC es ks c else kC [] .nil []
theorem adK (Q:Nat→Prop) (es:List aQ) (ks:aS) (c:aX) (w:World) (ev kv cv:Value) (h:gK Q w ev kv cv es ks c) (hok:jd es ks c) (hr:¬jM es ks c):
 Calls Tryz.prog 104 #[.agg #[ev,kv,cv]] w fun e w'=>e= .returned (.agg #[.slice none 0 0, .slice none 0 0, .slice none 0 0])∧aj ay w w':=by
 obtain⟨a0,c0,a1,c1,a2,c2,rfl,rfl,rfl⟩:=h.shape
 have HR:=ah (fun w' (f:aj ay w w')=>bf hr▸EK Q es ks c w' _ _ _ (h.aJ f) hok)
 clear h hok hr
 generalize es.length=n at*
 generalize ks.len=m at*
 generalize c.length=k at*
 obtain⟨hb2,hfb,hbs⟩:=uJ w (.cells #[.slice a0 n c0, .slice a1 m c1, .slice a2 k c2] 34) #[.slice none 0 0, .slice none 0 0, .slice none 0 0] 34
 have HB2:=ah hb2;clear hb2
 have dI:=ah hfb;clear hfb
 have wE:=ah hbs;clear hbs
 go_enter Tryz.func104,Tryz.ntmps104
 go_wp2_with(go_at_call 93;refine(HR.out _ dI.out).mono ?_;rintro e w1 ⟨rfl,hw1⟩;obtain⟨y0,y1,y2⟩:=Dc w _ _ _ _ w1 ((aj.alloc ay _ _).aC hw1);have hblk:=hw1.blk HB2.out id;have z0:=au hblk 0 rfl;have z1:=au hblk 1 rfl;have z2:=au hblk 2 rfl;have f0:=aG hblk 0;have f1:=aG hblk 1;have f2:=aG hblk 2;have hsb:=lt_of_block hblk;have HR3:=ah (MH hblk (dI.out.aC hw1) (by omega) (.slice none 0 0) (.slice none 0 0) (.slice none 0 0));have HW1:=ah hw1;clear hw1 hblk)
 clear y0 y1 y2 z0 z1 z2
 have y0:=au HR3.out.1 0 rfl
 have y1:=au HR3.out.1 1 rfl
 have y2:=au HR3.out.1 2 rfl
 exact bodyPost_ret (v:= .agg #[.slice none 0 0, .slice none 0 0, .slice none 0 0]) (by simp[results,Tryz.results104,go_sem,y0,y1,y2]) rfl ⟨rfl,HR3.out.2.1⟩
theorem adL (Q:Nat→Prop) (es:List aQ) (ks:aS) (c:aX) (w:World) (ev kv cv:Value) (h:gK Q w ev kv cv es ks c) (hok:jd es ks c):
 Calls Tryz.prog 104 #[.agg #[ev,kv,cv]] w fun e w'=>∃ev' kv' cv' es' ks' c',e= .returned (.agg #[ev',kv',cv'])∧dh (fun b=>w.heap.size≤b) w' ev' kv' es' ks'∧eH (fun b=>w.heap.size≤b) w' cv' c'.length (fJ c')∧jd es' ks' c'∧uS es' ks'++ctxB c'=BP es ks c∧aj ay w w':=by
 by_cases hr:jM es ks c
 ·refine(aao Q es ks c w ev kv cv h hok hr).mono fun e w' ⟨ev',kv',cv',h1,h2,h3⟩=>⟨ev',kv',cv',es,ks,c,h1,h2,h3.IV,hok,?_,h3.aH⟩
  unfold BP uS ctxB
  rw[dO hr,hr.tree,dO hr.ctx]
  rfl
 ·refine(adK Q es ks c w ev kv cv h hok hr).mono fun e w' ⟨h1,h3⟩=>⟨_,_,_,[], .nil,[],h1,(WU w).aJ h3,⟨.inl ⟨none,rfl,rfl,rfl⟩,fun h=>absurd rfl h⟩,⟨⟨⟨by simp,fun e he=>by cases he⟩,by simp[aS.len],trivial⟩,by decide,(fun s hs=>by cases hs),by simp⟩,?_,h3⟩
  have e1:dD 5 [] .nil=true:=by decide
  unfold BP uS ctxB
  rw[bf hr,e1,dO Qv]
  rfl
theorem WW (Q:Nat→Prop) (ob:Nat) (w:World) (v:Value) (bs:List UInt8) (es:List aQ) (ks:aS) (c:aX) (ev kv cv:Value) (ho:jv w ob v bs) (h:gK Q w ev kv cv es ks c) (hok:jd es ks c) (hl:bs.length≤79000000):
 Calls Tryz.prog 73 #[.pointer (some ⟨ob,0,none⟩), .agg #[ev,kv,cv]] w fun e w'=>e= .returned (.tuple #[])∧dY w ob v bs (BP es ks c) w':=by
 have HC:=ah (fun W (f:aj ay w W)=>adL Q es ks c W _ _ _ (h.aJ f) hok)
 obtain⟨a0,c0,a1,c1,a2,c2,rfl,rfl,rfl⟩:=h.shape
 clear h hok
 generalize BP es ks c=X at*
 generalize es.length=n at*
 generalize ks.len=m at*
 generalize c.length=k at*
 have HO:=ah ho;clear ho
 have bF:=ah (heap_alloc_new w (.cells #[.slice a0 n c0, .slice a1 m c1, .slice a2 k c2] 34))
 have HA:=ah (aj.alloc ay w (.cells #[.slice a0 n c0, .slice a1 m c1, .slice a2 k c2] 34))
 have HAS:=ah (show(w.alloc (.cells #[.slice a0 n c0, .slice a1 m c1, .slice a2 k c2] 34)).heap.size=w.heap.size+1 by simp)
 have eP:=ah (show ¬iT ob v w.heap.size from fun h=>by have:=vM HO.out _ h;omega)
 go_enter Tryz.func73,Tryz.ntmps73
 go_wp2_with(first
  |(go_at_call 104;refine(HC.out _ HA.out).mono ?_;rintro e w1 ⟨ev',kv',cv',es',ks',c',rfl,hta,hrc,hok,hx,hf⟩;obtain⟨a3,c3,rfl⟩:=hta.ents.rd.sl;obtain⟨os3,fE,-⟩:=hta.kids;obtain⟨a4,c4,rfl⟩:=fE.rd.sl;clear fE;obtain⟨a5,c5,rfl⟩:=hrc.rd.sl;have Lp:=ah hx;clear hx
    have hblk:=hf.blk bF.out id
    have MK:=ah hblk
    have y0:=au hblk 0 rfl
    have y1:=au hblk 1 rfl
    have y2:=au hblk 2 rfl
    have f0:=aG hblk 0
    have f1:=aG hblk 1
    have f2:=aG hblk 2
    have hsb:=lt_of_block hblk
    have HR3:=ah (MH (w0:=w) hblk (HA.out.aC hf) (Nat.le_refl _) (.slice a3 es'.length c3) (.slice a4 ks'.len c4) (.slice a5 c'.length c5))
    have gV:=ah (hta.turn (Q':=fun b=>w.heap.size+1≤b) fun b hb hQ=>⟨HR3.out.2.2 b (by have:=HAS.out;omega),by have:=HAS.out;omega⟩)
    have gU:=ah (hrc.turn (Q':=fun b=>w.heap.size+1≤b∧b<w1.heap.size) fun b hb hQ=>⟨HR3.out.2.2 b (by have:=HAS.out;omega),by have:=HAS.out;omega,hb⟩)
    have HXL:=ah (WV (es:=es') (ks:=ks') (Nat.le_trans hok.small (by decide)))
    have HK:=ah (adJ _ ob _ v bs es' ks' _ _ (HO.out.aJ HR3.out.2.1) gV.out hok.tree (Nat.le_trans hok.small (by decide)) (by omega))
    have BN:=ah (fun W v' (f:aj (iT ob v) _ W) (hb:∀b,b<_→iT ob v' b→iT ob v b) (ho:jv W ob v' (bs++uS es' ks'))=>ads (fun b=>w.heap.size+1≤b∧b<w1.heap.size) ob W v' _ _ c' ho (gU.out.keep f fun b _ hs=>(by have:=vM HO.out b hs;omega)) (fun b hb' hQ=>by have:=vM HO.out b (hb b hQ.2 hb');omega) hok.fits (by have:=hok.len;omega) (by have:=HXL.out;rw[List.length_append];omega))
    clear hta hrc hok hblk hf
    generalize uS es' ks'=X1 at*
    generalize ctxB c'=X2 at*
    generalize es'.length=n' at*
    generalize ks'.len=m' at*
    generalize c'.length=k' at*)
  |(go_at_call 137;refine HK.out.mono ?_;rintro e w2 ⟨rfl,hp⟩;have y2:w2.cell? ⟨w.heap.size,2,none⟩=some (.slice a5 k' c5):=hp.cell (au HR3.out.1 2 rfl) eP.out;have HP:=ah hp;clear hp)
  |(go_at_call 138;refine(HP.out.call fun v' ho hb hf=>BN.out _ v' hf (fun b hb' hs=>hb b (by simpa using hb') hs) ho).mono ?_;rintro e w3 ⟨rfl,hp⟩;have nN:=ah hp;clear hp))
 go_end0
 exact⟨rfl,(nN.out.base HR3.out.2.1).cast Lp.out⟩
open Go.RowKit
open Go.RowKit
noncomputable def DY (v0 v1 v2 v3:Int):List UInt8:=if tf (g_ (bP v0 v1 v2 v3))=true then jH v0 v1 v2 v3 else jH 0 0 0 0
open Go.RowKit
open Go.RowKit
open Go.RowKit
open Go.RowKit
open Go.RowKit
open Go.RowKit
theorem WX {es:List aQ} {ks:aS} {c:aX} (hr:jM es ks c):BP es ks c=kC es ks c:=by unfold BP;rw[dO hr,if_pos rfl]
open Go.RowKit
theorem eH.old {w:World} {v:Value} {n:Nat} {xs:List Value} (h:Rd w v n xs):eH (fun b=>b<w.heap.size) w v n xs:=⟨h,fun hx k hk=>by
 rcases h with⟨ad,h1,h2,h3⟩|⟨b,off,c,rfl,h2,h3,h4⟩
 ·exact absurd h3 hx
 ·simp[Value.ownBlock]at hk
  subst hk
  cases xs with
  |nil=>exact absurd rfl hx
  |cons x xs=>exact World.block_lt_of_cell? _ _ (h4 0 x rfl)⟩
theorem WY (ob:Nat) (w:World) (v:Value) (bs:List UInt8) (v0 v1 v2 v3:Int) (ho:jv w ob v bs) (hb:bs.length≤80000000):
 Calls Tryz.prog 71 #[.pointer (some ⟨ob,0,none⟩), .agg #[.int .i64 v0, .int .i64 v1, .int .i64 v2, .int .i64 v3]] w fun e w'=>e= .returned (.tuple #[])∧dY w ob v bs (DY v0 v1 v2 v3) w':=
 (ac_ ob w v bs v0 v1 v2 v3 ho hb).mono fun e w' ⟨he,h1,h2⟩=>⟨he,by
   unfold DY
   by_cases hm:g_ (bP v0 v1 v2 v3)
   ·rw[if_pos (dO hm)];exact h1 hm
   ·rw[if_neg (by rw[bf hm];decide)];exact h2 hm⟩
theorem adN {v0 v1 v2 v3:Int}:(DY v0 v1 v2 v3).length≤40:=by
 unfold DY
 have z:=jr (v:=0) (by decide) (by decide)
 by_cases hm:g_ (bP v0 v1 v2 v3)
 ·rw[if_pos (dO hm)]
  have g0:0≤v0∧v0≤1099511627776:=hm 0 (by decide) (by decide)
  have g1:0≤v1∧v1≤1099511627776:=hm 1 (by decide) (by decide)
  have g2:0≤v2∧v2≤1099511627776:=hm 2 (by decide) (by decide)
  have g3:0≤v3∧v3≤1099511627776:=hm 3 (by decide) (by decide)
  have h0:=jr (v:=v0) (by omega) (by omega)
  have h1:=jr (v:=v1) (by omega) (by omega)
  have h2:=jr (v:=v2) (by omega) (by omega)
  have h3:=jr (v:=v3) (by omega) (by omega)
  unfold jH
  simp only[List.length_append]
  omega
 ·rw[if_neg (by rw[bf hm];decide)]
  unfold jH
  simp only[List.length_append]
  omega
open Go.RowKit
theorem eH.Pq {Q:Nat→Prop} {w ww:World} {ob:Nat} {v u:Value} {bs cs:List UInt8} {n:Nat} {xs:List Value} (h:eH Q w u n xs) (hq:∀b,iT ob v b→¬Q b) (hp:dY w ob v bs cs ww):eH Q ww u n xs:=by
 obtain⟨_,_,_,f⟩:=hp
 exact h.keep f fun b _ hs=>hq b hs
theorem dh.Pq {Q:Nat→Prop} {w ww:World} {ob:Nat} {v ev kv:Value} {bs cs:List UInt8} {es:List aQ} {ks:aS} (h:dh Q w ev kv es ks) (hq:∀b,iT ob v b→¬Q b) (hp:dY w ob v bs cs ww):dh Q ww ev kv es ks:=by
 obtain⟨_,_,_,f⟩:=hp
 exact h.keep f fun b _ hs=>hq b hs
theorem adO (Q:Nat→Prop) (d:dL) (hr:d.right) (hok:jd d.es d.ks d.c) (w:World) (ev kv cv:Value) (ht:dh Q w ev kv d.es d.ks) (hc:dP Q w cv d.c) (ob:Nat) (v:Value) (bs:List UInt8) (ho:jv w ob v bs) (hq:∀b,iT ob v b→¬Q b) (hl:bs.length≤70000000):
 Calls Tryz.prog 72 #[.pointer (some ⟨ob,0,none⟩), .agg #[.int .i64 d.dc, .int .i64 d.af, .int .i64 d.la, .int .i64 d.v0, .int .i64 d.v1, .int .i64 d.v2, .int .i64 d.v3,ev,kv,cv]] w fun e w'=>e= .returned (.tuple #[])∧dY w ob v bs d.enc w':=by
 obtain⟨dc,af,la,v0,v1,v2,v3,es,ks,c⟩:=d
 dsimp only at hok ht hc
 have hr:nM dc af la (bP v0 v1 v2 v3) es ks c:=hr
 obtain⟨n1,n2,n3,n4,n5,n6,n7⟩:=nM.nums hr
 have BQ:=ah (show dL.enc ⟨dc,af,la,v0,v1,v2,v3,es,ks,c⟩=bG dc++bG af++bG la++jH v0 v1 v2 v3++kC es ks c by unfold dL.enc BD;simp only[List.append_assoc])
 have HV:=ah (show DY v0 v1 v2 v3=jH v0 v1 v2 v3 from if_pos (dO n7))
 have HX:=ah (WX hr.eX)
 have l1:=jr (v:=dc) (by omega) (by omega)
 have l2:=jr (v:=af) (by omega) (by omega)
 have l3:=jr (v:=la) (by omega) (by omega)
 have l4:=adN (v0:=v0) (v1:=v1) (v2:=v2) (v3:=v3)
 rw[HV.out]at l4
 have hi1:lY dc:=⟨by omega,by omega⟩
 have hi2:lY af:=⟨by omega,by omega⟩
 have hi3:lY la:=⟨by omega,by omega⟩
 have uY:=ah (fun W ev kv cv (h:gK Q W ev kv cv es ks c)=>MN Q es ks c W dc af la v0 v1 v2 v3 ev kv cv h hok)
 rw[dO hr]at uY
 clear hr n1 n2 n3 n4 n5 n6 n7
 have hbx:=heap_alloc_new w (.cells #[.int .i64 dc, .int .i64 af, .int .i64 la, .int .i64 v0, .int .i64 v1, .int .i64 v2, .int .i64 v3,ev,kv,cv] 59)
 have hnb:¬iT ob v w.heap.size:=fun hs=>Nat.lt_irrefl _ (vM ho _ hs)
 have fB:=aj.alloc ay w (.cells #[.int .i64 dc, .int .i64 af, .int .i64 la, .int .i64 v0, .int .i64 v1, .int .i64 v2, .int .i64 v3,ev,kv,cv] 59)
 have HT:=ah (fun W (f:aj ay w W)=>ht.aJ f)
 have HC:=ah (fun W (f:aj ay w W)=>hc.aJ f)
 have HO:=ah (fun W (f:aj ay w W)=>ho.aJ f)
 have HB:=ah (fun W cs (hp:dY w ob v bs cs W) (h0:∃W0,aj ay (w.alloc (.cells #[.int .i64 dc, .int .i64 af, .int .i64 la, .int .i64 v0, .int .i64 v1, .int .i64 v2, .int .i64 v3,ev,kv,cv] 59)) W0∧dY W0 ob v bs cs W)=>(show W.heap[w.heap.size]?=some (.cells #[.int .i64 dc, .int .i64 af, .int .i64 la, .int .i64 v0, .int .i64 v1, .int .i64 v2, .int .i64 v3,ev,kv,cv] 59 (0,0)) by
  obtain⟨W0,f0,hp0⟩:=h0
  obtain⟨_,_,_,f3⟩:=hp0
  exact f3.blk (f0.blk hbx id) hnb))
 have HB0:=ah (fun W (f:aj ay (w.alloc (.cells #[.int .i64 dc, .int .i64 af, .int .i64 la, .int .i64 v0, .int .i64 v1, .int .i64 v2, .int .i64 v3,ev,kv,cv] 59)) W)=>f.blk hbx id)
 obtain⟨a1,c1,rfl⟩:=ht.ents.rd.sl
 obtain⟨os,hkr,-⟩:=ht.kids
 obtain⟨a2,c2,rfl⟩:=hkr.rd.sl
 obtain⟨a3,c3,rfl⟩:=Rd.sl hc.at_
 have dI:=ah fB
 have HQ:=ah hq
 have Pv:=ah hok
 clear ht hc ho hbx hnb fB hkr hq hok
 rw[BQ.out]
 generalize hgv:jH v0 v1 v2 v3=bv at*
 have eG:=ah hgv;clear hgv
 generalize hgx:kC es ks c=bx at*
 have uT:=ah hgx;clear hgx
 go_enter Tryz.func72,Tryz.ntmps72
 go_wp2_with(first
  |(go_at_call 83;refine(uY.out _ _ _ _ ⟨HT.out _ dI.out,(HC.out _ dI.out).at_⟩).mono ?_;rintro e w1 ⟨rfl,hf1⟩
    have hbk:=HB0.out w1 hf1
    have x0:=au hbk 0 rfl
    have bg:=ah hf1
    have zJ:=ah (dY.start (HO.out w1 (dI.out.aC hf1)))
    have HTW:=ah (HT.out w1 (dI.out.aC hf1))
    have HCW:=ah (HC.out w1 (dI.out.aC hf1))
    have jP:=ah (fun W cs (hp:dY w1 ob v bs cs W)=>HB.out W cs (hp.base (dI.out.aC hf1)) ⟨w1,hf1,hp⟩)
    clear hf1 hbk)
  |(go_at_call 70;first
   |(have q9:=HP2;clear q9 x0;refine(lg HP2.out la hi3 (by first|omega|(simp only[List.length_append];omega))).mono ?_;rintro e w4 ⟨rfl,mF⟩
     have hbk:=jP.out _ _ mF
     have x0:=au hbk 3 rfl
     have x1:=au hbk 4 rfl
     have x2:=au hbk 5 rfl
     have x3:=au hbk 6 rfl
     have nN:=ah mF
     clear mF hbk)
   |(have q9:=iQ;clear q9 x0;refine(lg iQ.out af hi2 (by first|omega|(simp only[List.length_append];omega))).mono ?_;rintro e w3 ⟨rfl,hp3⟩
     have hbk:=jP.out _ _ hp3
     have x0:=au hbk 2 rfl
     have HP2:=ah hp3
     clear hp3 hbk)
   |(clear x0;refine(lg zJ.out dc hi1 (by first|omega|(simp only[List.length_nil];omega))).mono ?_;rintro e w2 ⟨rfl,hp2⟩
     rw[List.nil_append]at hp2
     have hbk:=jP.out _ _ hp2
     have x0:=au hbk 1 rfl
     have iQ:=ah hp2
     clear hp2 hbk))
  |(go_at_call 71;clear x0 x1 x2 x3;refine(nN.out.call (ds:=bv) fun v' ho' _ _=>(WY ob w4 v' _ v0 v1 v2 v3 ho' (by first|omega|(simp only[List.length_append];omega))).mono fun e w' h=>⟨h.1,by rw[HV.out]at h;exact h.2⟩).mono ?_;rintro e w5 ⟨rfl,gY⟩
    have hbk:=jP.out _ _ gY
    have x0:=au hbk 7 rfl
    have x1:=au hbk 8 rfl
    have x2:=au hbk 9 rfl
    have iR:=ah gY
    have Gt:=ah (HTW.out.Pq HQ.out gY)
    have vJ:=ah (show dP Q w5 (.slice a3 c.length c3) c from eH.Pq HCW.out HQ.out gY)
    clear gY hbk)
  |(go_at_call 73;refine(iR.out.call (ds:=bx) fun v' ho' _ _=>(WW Q ob w5 v' _ es ks c _ _ _ ho' ⟨Gt.out,vJ.out.at_⟩ Pv.out (by first|omega|(simp only[List.length_append];omega))).mono fun e w' h=>⟨h.1,by rw[HX.out]at h;exact h.2⟩).mono ?_;rintro e w6 ⟨rfl,DZ⟩;have kJ:=ah DZ;clear DZ))
 go_end0
 exact⟨rfl,kJ.out.base (dI.out.aC bg.out)⟩
open Go.RowKit
theorem JW (a:BitVec 32):BitVec.ofInt 32 (a.toNat:Int)=a:=by
 rw[BitVec.ofInt_natCast,BitVec.ofNat_toNat]
 rfl
theorem WZ (a:BitVec 32):IntKind.u32.wrap (a.toNat:Int)=(a.toNat:Int):=by
 have:=a.isLt
 rw[IntKind.wrap_u32]
 omega
theorem JX (a b:BitVec 32):bits BinOp.xor IntKind.u32 (a.toNat:Int) (b.toNat:Int)=((a^^^b).toNat:Int):=by
 show IntKind.u32.wrap ((BitVec.ofInt 32 (a.toNat:Int)^^^BitVec.ofInt 32 (b.toNat:Int)).toNat:Int)=_
 rw[JW,JW,WZ]
theorem adR (a b:BitVec 32):bits BinOp.and IntKind.u32 (a.toNat:Int) (b.toNat:Int)=((a&&&b).toNat:Int):=by
 show IntKind.u32.wrap ((BitVec.ofInt 32 (a.toNat:Int)&&&BitVec.ofInt 32 (b.toNat:Int)).toNat:Int)=_
 rw[JW,JW,WZ]
theorem and_one (c:BitVec 32):bits BinOp.and IntKind.u32 (c.toNat:Int) 1=if c.getLsbD 0=true then 1 else 0:=by
 have h:=adR c 1#32
 rw[show((1#32).toNat:Int)=1 from rfl]at h
 rw[h,BitVec.toNat_and]
 have e:c.toNat&&&(1#32).toNat=c.toNat%2:=Nat.and_one_is_mod _
 have g:c.getLsbD 0=decide (c.toNat%2=1):=by
  rw[BitVec.getLsbD,Nat.testBit_zero]
 rw[e,g]
 have:=Nat.mod_two_eq_zero_or_one c.toNat
 rcases this with h|h<;>rw[h]<;>simp
theorem adS (c:BitVec 32):bits BinOp.xor IntKind.u32 (c.toNat:Int) 2197175160=((c^^^aT.P).toNat:Int):=JX c aT.P
theorem adT (c:BitVec 32):bits BinOp.xor IntKind.u32 (c.toNat:Int) 517762881=((c^^^aT.Q).toNat:Int):=JX c aT.Q
theorem W_ (c:BitVec 32):bits BinOp.xor IntKind.u32 (c.toNat:Int) 4294967295=((c^^^BitVec.allOnes 32).toNat:Int):=JX c (BitVec.allOnes 32)
theorem adU (c:BitVec 32) (b:UInt8):bits BinOp.xor IntKind.u32 (c.toNat:Int) (b.toNat:Int)=((c^^^BitVec.ofNat 32 b.toNat).toNat:Int):=by
 have h:=JX c (BitVec.ofNat 32 b.toNat)
 have e:(BitVec.ofNat 32 b.toNat).toNat=b.toNat:=by
  rw[BitVec.toNat_ofNat]
  have:=b.toNat_lt
  omega
 rw[e]at h
 exact h
theorem adV (c:BitVec 32):((c>>>1).toNat:Int)=(c.toNat:Int)/2:=by
 rw[BitVec.toNat_ushiftRight,Nat.shiftRight_eq_div_pow]
 omega
theorem adW (c0:BitVec 32) (b:UInt8) (w:World):Calls Tryz.prog 159 #[.int .u32 c0.toNat, .int .u8 b.toNat] w fun e w'=>e= .returned (.int .u32 (aT.add c0 b).toNat)∧w=w':=by
 have hb:=b.toNat_lt
 have hw:IntKind.u32.wrap (b.toNat:Int)=(b.toNat:Int):=by rw[IntKind.wrap_u32];omega
 go_enter Tryz.func159,Tryz.ntmps159
 go_wp2
 clear hw
 go_loopw [0,10] (fun c i W=>∃k:Nat,k≤8∧i= .int .i64 k∧c= .int .u32 (aT.zA k (c0^^^BitVec.ofNat 32 b.toNat)).toNat∧W=w) (fun _ i _=>8-(intOf i).toNat)
 case atStart=>exact⟨0,by omega,rfl,by rw[adU];rfl,rfl⟩
 case round=>
  obtain⟨k,hk,rfl,rfl,rfl⟩:=hrel
  by_cases hlt:k<8
  ·have hst:aT.zA (k+1) (c0^^^BitVec.ofNat 32 b.toNat)=aT.st (aT.zA k (c0^^^BitVec.ofNat 32 b.toNat)):=rfl
   have HST:=ah hst;clear hst
   generalize hc:aT.zA k (c0^^^BitVec.ofNat 32 b.toNat)=c at*
   have HC:=ah hc;clear hc
   have h1:=and_one c
   have h2:=adV c
   have h3:=adS (c>>>1)
   have hcl:=c.isLt
   cases hbit:c.getLsbD 0 with
   |true=>
    rw[hbit,if_pos rfl]at h1
    have HE:=ah (show aT.st c=(c>>>1)^^^aT.P from if_pos hbit)
    go_wp2
    go_roundw
    case rel=>exact⟨k+1,by omega,by go_num,by rw[HST.out,HE.out,←h3,h2],trivial⟩
    case measure=>simp[intOf];omega
   |false=>
    rw[hbit,if_neg (by decide)]at h1
    have HE:=ah (show aT.st c=c>>>1 from if_neg (by rw[hbit];decide))
    go_wp2
    go_roundw
    case rel=>exact⟨k+1,by omega,by go_num,by rw[HST.out,HE.out,h2],trivial⟩
    case measure=>simp[intOf];omega
  ·obtain rfl:k=8:=by omega
   go_wp2
   go_ret
   exact⟨rfl,rfl⟩
theorem wV {w:World} {b off c n:Nat} {l:List UInt8} (h:Rd w (.slice (some ⟨b,off,none⟩) n c) n (bV l)) (k:Nat) (hk:k<l.length):w.cell? ⟨b,off+k,none⟩=some (.int .u8 (l.getD k 0).toNat):=by
 rcases h with⟨ad,h1,h2,h3⟩|⟨b',off',c',h1,h2,h3,h4⟩
 ·have h0:l=[]:=by simpa[bV]using h3
  subst h0
  cases hk
 ·injection h1 with e1 e2 e3
  injection e1 with e1
  injection e1 with e1 e4
  subst e1 e4
  refine h4 k _ ?_
  unfold bV
  rw[List.getElem?_map,List.getElem?_eq_getElem hk,List.getD_eq_getElem?_getD,List.getElem?_eq_getElem hk]
  rfl
theorem Xa {α:Type} (f:α→UInt8→α) (c:α) {l:List UInt8} {k:Nat} (h:k<l.length):(l.take (k+1)).foldl f c=f ((l.take k).foldl f c) (l.getD k 0):=by
 rw[List.take_add_one,List.getElem?_eq_getElem h,List.foldl_append,List.getD_eq_getElem?_getD,List.getElem?_eq_getElem h]
 rfl
theorem Xb (bs:List UInt8) (v:Value) (w:World) (h:Rd w v bs.length (bV bs)):Calls Tryz.prog 140 #[v] w fun e w'=>e= .returned (.int .u32 (aT.sum bs))∧w=w':=by
 obtain⟨a0,c0,rfl⟩:∃a c,v= .slice a bs.length c:=by
  rcases h with⟨ad,rfl,h2,h3⟩|⟨b,off,c,rfl,_⟩
  ·exact⟨ad,0,by rw[h2]⟩
  ·exact⟨_,_,rfl⟩
 have HH:=ah h;clear h
 generalize hn:bs.length=n at*
 have HN:=ah hn;clear hn
 have H0:=ah (show(4294967295:Int)=((aT.all (BitVec.allOnes 32) (bs.take 0)).toNat:Int)from rfl)
 go_enter Tryz.func140,Tryz.ntmps140
 go_wp2
 go_loopw [3,8] (fun c i W=>∃k:Nat,k≤n∧i= .int .i64 k∧c= .int .u32 (aT.all (BitVec.allOnes 32) (bs.take k)).toNat∧W=w) (fun _ i _=>n-(intOf i).toNat)
 case atStart=>exact⟨0,Nat.zero_le _,rfl,by rw[←H0.out],rfl⟩
 case round=>
  obtain⟨k,hk,rfl,rfl,rfl⟩:=hrel
  by_cases hlt:k<n
  ·have hkl:k<bs.length:=by rw[HN.out];exact hlt
   have hrd:=HH.out
   rcases hrd with⟨ad,he,hz,-⟩|⟨b,off,cc,he,hm1,hm2,-⟩
   ·exfalso;omega
   injection he with e1 e2 e3
   subst e1 e3
   clear e2
   have hmx:(n:Int)≤9223372036854775807:=by simp only[maxLen]at hm2;omega
   clear hm1 hm2
   have q0:=wV HH.out k hkl
   have HST:=ah (show aT.all (BitVec.allOnes 32) (bs.take (k+1))=aT.add (aT.all (BitVec.allOnes 32) (bs.take k)) (bs.getD k 0)from Xa aT.add _ hkl)
   generalize bs.getD k 0=x at*
   generalize aT.all (BitVec.allOnes 32) (bs.take k)=c at*
   have HA:=ah (adW c x wr)
   go_wp2_with(go_at_call 159;refine HA.out.mono ?_;rintro e w1 ⟨rfl,rfl⟩)
   go_roundw
   case rel=>exact⟨k+1,by omega,by go_num,by rw[HST.out],trivial⟩
   case measure=>simp[intOf];omega
  ·obtain rfl:n=k:=by omega
   have HT:=ah (show aT.sum bs=(aT.all (BitVec.allOnes 32) (bs.take bs.length)^^^BitVec.allOnes 32).toNat by rw[List.take_length];rfl)
   rw[HN.out]at HT
   generalize aT.all (BitVec.allOnes 32) (bs.take n)=c at*
   have hx:=W_ c
   go_wp2
   go_ret
   exact⟨by rw[HT.out,BitVec.toNat_xor];rfl,rfl⟩
theorem adX (r:BitVec 32):(r.toNat:Int)/2147483648=if r.msb=true then 1 else 0:=by
 have hl:=r.isLt
 have h:=BitVec.msb_eq_decide r
 rw[h]
 by_cases hb:2147483648≤r.toNat
 ·rw[if_pos (decide_eq_true hb)];omega
 ·rw[if_neg (by simpa using hb)];omega
theorem adY (r:BitVec 32):IntKind.u32.wrap (2*(r.toNat:Int))=((r<<<1).toNat:Int):=by
 rw[IntKind.wrap_u32,BitVec.toNat_shiftLeft,Nat.shiftLeft_eq]
 omega
theorem adZ (x j:Nat):((x/2^j:Nat):Int)%2=if x.testBit j=true then 1 else 0:=by
 have h:x.testBit j=decide (x/2^j%2=1):=by rw[Nat.testBit_eq_decide_div_mod_eq]
 rw[h]
 rcases Nat.mod_two_eq_zero_or_one (x/2^j)with e|e
 ·rw[if_neg (by rw[e];decide)];omega
 ·rw[if_pos (by rw[e];rfl)];omega
theorem ad1 (r:BitVec 32) (k:Nat) (hk:k<32):r.reverse.toNat/2^(31-k)=2*(r.reverse.toNat/2^(32-k))+r.toNat/2^k%2:=by
 have e1:r.reverse.toNat/2^(32-k)=r.reverse.toNat/2^(31-k)/2:=by
  rw[Nat.div_div_eq_div_mul,show 32-k=31-k+1 by omega,Nat.pow_succ]
 have e2:r.reverse.toNat/2^(31-k)%2=r.toNat/2^k%2:=by
  have h1:r.reverse.getLsbD (31-k)=r.getLsbD k:=by
   rw[BitVec.getLsbD_reverse,BitVec.getMsbD_eq_getLsbD,show 32-1-(31-k)=k by omega]
   simp;omega
  rw[BitVec.getLsbD,BitVec.getLsbD,Nat.testBit_eq_decide_div_mod_eq,Nat.testBit_eq_decide_div_mod_eq]at h1
  have h2:=decide_eq_decide.1 h1
  have:=Nat.mod_two_eq_zero_or_one (r.reverse.toNat/2^(31-k))
  have:=Nat.mod_two_eq_zero_or_one (r.toNat/2^k)
  omega
 rw[e1,←e2]
 omega
theorem ad6 (r:BitVec 32) (w:World):Calls Tryz.prog 160 #[.int .u32 r.toNat] w fun e w'=>e= .returned (.int .u32 r.reverse.toNat)∧w=w':=by
 have hrl:=r.isLt
 have hR:=r.reverse.isLt
 have H0:=ah (show r.reverse.toNat/2^32=0 from Nat.div_eq_of_lt hR)
 have HB:=ah (fun k hk=>ad1 r k hk)
 have HS:=ah (fun k=>(show r.toNat/2^k/2=r.toNat/2^(k+1) by rw[Nat.div_div_eq_div_mul,Nat.pow_succ]))
 have HQ:=ah (fun k=>Nat.div_le_self r.reverse.toNat (2^k))
 have HP:=ah (fun k=>Nat.div_le_self r.toNat (2^k))
 generalize r.reverse.toNat=R at*
 generalize r.toNat=n at*
 go_enter Tryz.func160,Tryz.ntmps160
 go_wp2
 go_loopw [0,3,4] (fun c o i W=>∃k:Nat,k≤32∧i= .int .i64 k∧c= .int .u32 (n/2^k:Nat)∧o= .int .u32 (R/2^(32-k):Nat)∧W=w) (fun _ _ i _=>32-(intOf i).toNat)
 case atStart=>exact⟨0,by omega,rfl,by simp,by rw[Nat.sub_zero,H0.out];rfl,rfl⟩
 case round=>
  obtain⟨k,hk,rfl,rfl,rfl,rfl⟩:=hrel
  by_cases hlt:k<32
  ·have h1:=HB.out k hlt
   have h2:=HS.out k
   have h3:=HQ.out (31-k)
   have h4:=HP.out k
   rw[show 31-k=32-(k+1) by omega]at h1 h3
   generalize hc2:n/2^(k+1)=c2 at*
   have HC2:=ah hc2;clear hc2
   generalize n/2^k=c at*
   generalize ho2:R/2^(32-(k+1))=o2 at*
   have jZ:=ah ho2;clear ho2
   generalize R/2^(32-k)=o at*
   have hw1:IntKind.u32.wrap (2*(o:Int))=2*(o:Int):=by rw[IntKind.wrap_u32];omega
   have hw2:IntKind.u32.wrap (2*(o:Int)+(c:Int)%2)=(o2:Int):=by rw[IntKind.wrap_u32];omega
   go_wp2
   go_roundw
   case rel=>
    refine⟨k+1,by omega,by go_num,?g1,?g2,trivial⟩
    ·rw[HC2.out,←h2];rfl
    ·rw[jZ.out,h1];rfl
   case measure=>simp[intOf];omega
  ·obtain rfl:k=32:=by omega
   go_wp2
   go_ret
   exact⟨by simp,rfl⟩
theorem ad7 (bs:List UInt8) (v:Value) (w:World) (h:Rd w v bs.length (bV bs)):Calls Tryz.prog 98 #[v] w fun e w'=>e= .returned (.int .u32 (aT.sum bs))∧w=w':=by
 obtain⟨a0,c0,rfl⟩:∃a c,v= .slice a bs.length c:=by
  rcases h with⟨ad,rfl,h2,h3⟩|⟨b,off,c,rfl,_⟩
  ·exact⟨ad,0,by rw[h2]⟩
  ·exact⟨_,_,rfl⟩
 have HH:=ah h;clear h
 generalize hn:bs.length=n at*
 have HN:=ah hn;clear hn
 have H0:=ah (show(4294967295:Int)=((aT.wP (BitVec.allOnes 32) (bs.take 0)).toNat:Int)from rfl)
 go_enter Tryz.func98,Tryz.ntmps98
 go_wp2
 go_loopw [3,9] (fun c i W=>∃k:Nat,k≤n∧i= .int .i64 k∧c= .int .u32 (aT.wP (BitVec.allOnes 32) (bs.take k)).toNat∧W=w) (fun _ i _=>n-(intOf i).toNat)
 case atStart=>exact⟨0,Nat.zero_le _,rfl,by rw[←H0.out],rfl⟩
 case round=>
  obtain⟨k,hk,rfl,rfl,rfl⟩:=hrel
  by_cases hlt:k<n
  ·have hkl:k<bs.length:=by rw[HN.out];exact hlt
   have hrd:=HH.out
   rcases hrd with⟨ad,he,hz,-⟩|⟨b,off,cc,he,hm1,hm2,-⟩
   ·exfalso;omega
   injection he with e1 e2 e3
   subst e1 e3
   clear e2
   have hmx:(n:Int)≤9223372036854775807:=by simp only[maxLen]at hm2;omega
   clear hm1 hm2
   have q0:=wV HH.out k hkl
   have HST:=ah (show aT.wP (BitVec.allOnes 32) (bs.take (k+1))=aT.BG (aT.wP (BitVec.allOnes 32) (bs.take k)) (bs.getD k 0)from Xa aT.BG _ hkl)
   generalize bs.getD k 0=x at*
   generalize aT.wP (BitVec.allOnes 32) (bs.take k)=c at*
   have hxl:=x.toNat_lt
   have hcv:IntKind.u32.wrap (x.toNat:Int)=(x.toNat:Int):=by rw[IntKind.wrap_u32];omega
   have AY:=ah (show aT.BG c x=aT.wO 8 c x.toNat from rfl)
   generalize x.toNat=y at*
   have HY0:=ah (show(y:Int)=((y/2^0:Nat):Int) by simp)
   obtain⟨WO,Gg⟩:∃W,W=wr:=⟨wr,rfl⟩
   subst Gg
   go_wp2
   go_loopw [3,5,17] (fun r z i W=>∃j:Nat,j≤8∧i= .int .i64 j∧r= .int .u32 (aT.wO j c y).toNat∧z= .int .u32 (y/2^j:Nat)∧W=WO) (fun _ _ i _=>8-(intOf i).toNat)
   case atStart=>exact⟨0,by omega,rfl,rfl,by rw[←HY0.out],rfl⟩
   case round=>
    obtain⟨j,hj,rfl,rfl,rfl,rfl⟩:=hrel
    by_cases hlj:j<8
    ·have HR:=ah (show aT.wO (j+1) c y=aT.mY (aT.wO j c y) (y.testBit j)from rfl)
     generalize aT.wO j c y=r at*
     have h1:=adX r
     have h2:=adY r
     have h3:=adZ y j
     have h4:=adT (r<<<1)
     have h5:y/2^j/2=y/2^(j+1):=by rw[Nat.div_div_eq_div_mul,Nat.pow_succ]
     generalize hz2:y/2^(j+1)=z2 at*
     have HZ2:=ah hz2;clear hz2
     have hzl:=Nat.div_le_self y (2^j)
     generalize y/2^j=z at*
     generalize hr2:r<<<1=r2 at*
     have HR2:=ah hr2;clear hr2
     have hrl:=r.isLt
     have hwz:IntKind.u32.wrap ((z:Int)/2)=(z2:Int):=by rw[IntKind.wrap_u32];omega
     cases hm:r.msb<;>cases ht:y.testBit j
     ·rw[hm,if_neg (by decide)]at h1
      rw[ht,if_neg (by decide)]at h3
      have HE:=ah (show aT.mY r false=r2 by rw[←HR2.out];exact if_pos hm)
      rw[ht]at HR
      go_wp2
      go_roundw
      case rel=>exact⟨j+1,by omega,by go_num,by rw[HR.out,HE.out],by rw[HZ2.out],trivial⟩
      case measure=>simp[intOf];omega
     ·rw[hm,if_neg (by decide)]at h1
      rw[ht,if_pos rfl]at h3
      have HE:=ah (show aT.mY r true=r2^^^aT.Q by rw[←HR2.out];exact if_neg (by rw[hm];decide))
      rw[ht]at HR
      go_wp2
      go_roundw
      case rel=>exact⟨j+1,by omega,by go_num,by rw[HR.out,HE.out,BitVec.toNat_xor],by rw[HZ2.out],trivial⟩
      case measure=>simp[intOf];omega
     ·rw[hm,if_pos rfl]at h1
      rw[ht,if_neg (by decide)]at h3
      have HE:=ah (show aT.mY r false=r2^^^aT.Q by rw[←HR2.out];exact if_neg (by rw[hm];decide))
      rw[ht]at HR
      go_wp2
      go_roundw
      case rel=>exact⟨j+1,by omega,by go_num,by rw[HR.out,HE.out,BitVec.toNat_xor],by rw[HZ2.out],trivial⟩
      case measure=>simp[intOf];omega
     ·rw[hm,if_pos rfl]at h1
      rw[ht,if_pos rfl]at h3
      have HE:=ah (show aT.mY r true=r2 by rw[←HR2.out];exact if_pos hm)
      rw[ht]at HR
      go_wp2
      go_roundw
      case rel=>exact⟨j+1,by omega,by go_num,by rw[HR.out,HE.out],by rw[HZ2.out],trivial⟩
      case measure=>simp[intOf];omega
    ·obtain rfl:j=8:=by omega
     go_wp2
     go_roundw
     case rel=>exact⟨k+1,by omega,by go_num,by rw[HST.out,AY.out],trivial⟩
     case measure=>simp[intOf];omega
  ·obtain rfl:n=k:=by omega
   have HT:=ah (show aT.sum bs=(aT.wP (BitVec.allOnes 32) (bs.take bs.length)^^^BitVec.allOnes 32).reverse.toNat by rw[List.take_length];unfold aT.sum;rw[aT.ab8];rfl)
   rw[HN.out]at HT
   generalize aT.wP (BitVec.allOnes 32) (bs.take n)=c at*
   have hx:=W_ c
   have HM:=ah (ad6 (c^^^BitVec.allOnes 32) wr)
   go_wp2_with(go_at_call 160;refine HM.out.mono ?_;rintro e w1 ⟨rfl,rfl⟩)
   go_ret
   exact⟨by rw[HT.out];rfl,rfl⟩
end Go.Proofs.YtabkpccdnkjoiaaGreat
