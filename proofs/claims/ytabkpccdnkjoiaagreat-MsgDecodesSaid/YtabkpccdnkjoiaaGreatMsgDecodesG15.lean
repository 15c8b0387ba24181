/- Words for the law MsgDecodes: Takes0, Puts0, PackGet, GetAt, PackGet2. -/
import Derived.Test.YtabkpccdnkjoiaaGreatMsgDecodesG0
import Derived.Test.YtabkpccdnkjoiaaGreatMsgDecodesG9
import Derived.Test.YtabkpccdnkjoiaaGreatMsgDecodesG12
import Derived.Test.YtabkpccdnkjoiaaGreatMsgDecodesG13
import Derived.Test.YtabkpccdnkjoiaaGreatMsgDecodesG14
import Derived.Deep.RegionLaw
set_option linter.unusedSimpArgs false
set_option linter.unusedVariables false
set_option maxHeartbeats 32000000
set_option maxRecDepth 1000000
namespace Go.Proofs.YtabkpccdnkjoiaaGreat
open Go.RowKit
theorem qE.isNone {w:World} {v:Value} {bad:Bool} {st:Option (List UInt8)} (h:qE w v bad st):bad=st.isNone:=by
 cases st with
 |none=>exact h.2
 |some bs=>exact h.1
theorem qE.shape {w:World} {v:Value} {bad:Bool} {st:Option (List UInt8)} (h:qE w v bad st):∃a c,v= .slice a (leftOf st).length c:=by
 cases st with
 |none=>exact⟨none,0,h.1⟩
 |some bs=>exact xQ h.2
theorem dJ.keep {w w':World} {ib:Nat} {st:Option (List UInt8)} (h:dJ w ib st) {S:Nat→Prop} (f:aj S w w') (h1:∀k,k≤ib→¬S k):dJ w' ib st:=by
 cases st with
 |none=>exact f.blk (show w.heap[ib]?=_ from h) (h1 ib (Nat.le_refl _))
 |some bs=>
  obtain⟨v,hv,hlt⟩:=h
  exact⟨v,hv.keep f (h1 ib (Nat.le_refl _)) fun k hk=>h1 k (Nat.le_of_lt (hlt k hk)),hlt⟩
theorem dJ.lt {w:World} {ib:Nat} {st:Option (List UInt8)} (h:dJ w ib st):ib<w.heap.size:=by
 obtain⟨a,c,hh⟩:=h.heap
 exact lt_of_block hh
theorem fV (w:World) (b:Nat) (u u':Value):aj (Only b) w ((w.setCell ⟨b,0,none⟩ u).setCell ⟨b,1,none⟩ u'):=(dG w b 0 u).trans (dG _ b 1 u') fun _ _ h=>h
def Old (w:World) (v:Value) (st:Option (List UInt8)):Prop:=leftOf st≠ []→∀k,v.ownBlock=some k→k<w.heap.size
theorem Uj {st stx:Option (List UInt8)} {m n:Int} (h:dw st m n stx) (hx:stx≠none):leftOf st≠ []:=by
 cases st with
 |none=>exact absurd h.2 hx
 |some bs=>
  rcases h with⟨r,hb,_⟩|⟨_,_,h3⟩
  ·intro e
   have h1:=congrArg List.length hb.2
   have h2:=rX n
   have h3:bs=[]:=e
   subst h3
   simp only[List.length_nil,List.length_append]at h1
   omega
  ·exact absurd h3 hx
theorem Old.lu {w:World} {v vx:Value} {st stx:Option (List UInt8)} {m n:Int} (h:Old w v st) (hs:dw st m n stx) (hu:vC vx v):Old w vx stx:=fun hne k hk=>
 h (Uj hs fun e=>by subst e;exact hne rfl) k (hu k hk)
theorem Old.stepT {w:World} {v vx:Value} {st stx:Option (List UInt8)} {m:Int} {s:ByteArray} (h:Old w v st) (hs:mX st m s stx) (hu:vC vx v):Old w vx stx:=fun hne k hk=>by
 obtain⟨n,st1,h1,h2⟩:=hs
 cases st1 with
 |none=>rw[h2.2]at hne;exact absurd rfl hne
 |some bs=>exact h (Uj h1 (by simp)) k (hu k hk)
theorem abr {w wx w':World} {vx:Value} {Uk:Bool} {stx:Option (List UInt8)} (ho:Old w vx stx) (hx:qE wx vx Uk stx) {S:Nat→Prop} (f:aj S wx w') (hS:∀k,k<w.heap.size→¬S k):qE w' vx Uk stx:=by
 cases stx with
 |none=>exact hx
 |some r=>exact⟨hx.1,hx.2.Uh f fun hne k hk=>hS k (ho (fun e=>hne (by simp[leftOf]at e;subst e;rfl)) k hk)⟩
open Go.RowKit
theorem E_ {w:World} {e:TypeId} {size:Nat} {v:Value} {n:Nat} {xs:List Value} (h:w.ownsRow 0 e size v n xs):∀k,v.ownBlock=some k→k<w.heap.size:=fun k hk=>(h.lt k hk).2
theorem yE.fresh {w wi:World} {v v':Value} (h:yE w v) (hs:w.heap.size≤wi.heap.size) (f:gZ wi v v'):yE w v':=fun k hk=>by
 rcases f k hk with h1|h1
 ·exact h k h1
 ·omega
theorem jv.keep {w w':World} {ob:Nat} {v:Value} {bs:List UInt8} (h:jv w ob v bs) {S:Nat→Prop} (f:aj S w w') (h1:¬S ob) (h2:∀k,v.ownBlock=some k→¬S k):jv w' ob v bs:=
 ⟨f.blk h.cell h1,f.owns h.own h2,h.apart⟩
open Go.RowKit
theorem Fa (ib:Nat) (st:Option (List UInt8)) (w:World) (h:dJ w ib st):
 Calls Tryz.prog 174 #[.pointer (some ⟨ib,0,none⟩)] w fun e w'=>∃(n:Nat) (st':Option (List UInt8)),e= .returned (.int .i64 n)∧ji st 60000 n st'∧dJ w' ib st'∧aj (Only ib) w w':=by
 obtain⟨v,s1,hs⟩:=dw.total st 60000
 have hvr:=ET hs
 have HN:=ah (lG ib st 60000 v s1 w h hs (by omega) (by omega))
 clear h
 have HS:=ah hs;clear hs
 obtain⟨L,hL⟩:∃L,L=(leftOf s1).length:=⟨_,rfl⟩
 by_cases c1:v<0
 ·have hpost:∀w',dJ w' ib none→ji st 60000 0 none:=fun w' _=>⟨v,s1,HS.out,by
   cases s1 with
   |none=>exact⟨rfl,rfl⟩
   |some r=>exact .inr ⟨.inl c1,rfl,rfl⟩⟩
  have jR:=ah hpost;clear hpost
  go_enter Tryz.func174,Tryz.ntmps174
  go_wp2_with(first
   |(go_at_call 56;refine HN.out.mono ?_;rintro e w1 ⟨rfl,hi,hf⟩;have HI:=ah hi;clear hi;have HF:=ah hf;clear hf)
   |(go_at_call 123;obtain⟨a,c,hh⟩:=HI.out.heap;refine(pG ib _ _ w1 hh).mono ?_;rintro e w2 ⟨rfl,hi2,hf2⟩;have HI2:=ah hi2;clear hi2 hh;have HF2:=ah hf2;clear hf2))
  go_ret
  exact⟨0,none,rfl,jR.out w2 HI2.out,HI2.out,HF.out.trans HF2.out fun _ _ h=>h⟩
 ·by_cases c2:(L:Int)<v
  ·have hpost:∀w',dJ w' ib none→ji st 60000 0 none:=fun w' _=>⟨v,s1,HS.out,by
    cases s1 with
    |none=>exact⟨rfl,rfl⟩
    |some r=>exact .inr ⟨.inr (by rw[hL]at c2;exact c2),rfl,rfl⟩⟩
   have jR:=ah hpost;clear hpost
   have HL:=ah hL;clear hL
   go_enter Tryz.func174,Tryz.ntmps174
   go_wp2_with(first
    |(go_at_call 56;refine HN.out.mono ?_;rintro e w1 ⟨rfl,hi,hf⟩;have HI:=ah hi;clear hi;have HF:=ah hf;clear hf)
    |(go_at_call 223;refine(S_ ib s1 w1 HI.out).mono ?_;rintro e w2 ⟨rfl,rfl⟩;rw[←HL.out])
    |(go_at_call 123;obtain⟨a,c,hh⟩:=HI.out.heap;refine(pG ib _ _ w1 hh).mono ?_;rintro e w2 ⟨rfl,hi2,hf2⟩;have HI2:=ah hi2;clear hi2 hh;have HF2:=ah hf2;clear hf2))
   go_ret
   exact⟨0,none,rfl,jR.out w2 HI2.out,HI2.out,HF.out.trans HF2.out fun _ _ h=>h⟩
  ·obtain⟨n,rfl⟩:=Int.eq_ofNat_of_zero_le (show 0≤v by omega)
   have hpost:∃st',ji st 60000 n st'∧st'=s1:=⟨s1,⟨n,s1,HS.out,by
    cases s1 with
    |none=>exact⟨by rw[hL]at c2;simp[leftOf]at c2;omega,rfl⟩
    |some r=>exact .inl ⟨by omega,by rw[hL]at c2;simpa[leftOf]using c2,by omega,rfl⟩⟩,rfl⟩
   have jR:=ah hpost;clear hpost
   have HL:=ah hL;clear hL
   go_enter Tryz.func174,Tryz.ntmps174
   go_wp2_with(first
    |(go_at_call 56;refine HN.out.mono ?_;rintro e w1 ⟨rfl,hi,hf⟩;have HI:=ah hi;clear hi;have HF:=ah hf;clear hf)
    |(go_at_call 223;refine(S_ ib s1 w1 HI.out).mono ?_;rintro e w2 ⟨rfl,rfl⟩;rw[←HL.out]))
   go_ret
   obtain⟨st',h1,rfl⟩:=jR.out
   exact⟨n,_,rfl,h1,HI.out,HF.out⟩
structure xU (S:Nat→Prop) (w ww:World) (e:TypeId) (size:Nat) (v:Value) (n:Nat) (xs:List Value):Prop where
 own:ww.ownsRow 0 e size v n xs
 new:yE w v
 aH:aj S w ww
theorem xU.keep {S:Nat→Prop} {w ww w':World} {e:TypeId} {size:Nat} {v:Value} {n:Nat} {xs:List Value} (low:∀k,S k→k<w.heap.size) (h:xU S w ww e size v n xs) (f:aj S ww w'):xU S w w' e size v n xs:=
 ⟨f.owns h.own fun b hb hs=>by have:=h.new b hb;have:=low b hs;omega,h.new,h.aH.trans f fun _ _ h=>h⟩
theorem xU.step {S:Nat→Prop} {w w1 w':World} {e e':TypeId} {size size':Nat} {v v':Value} {n n':Nat} {xs xs':List Value} (h:xU S w w1 e size v n xs) (own:w'.ownsRow 0 e' size' v' n' xs') (fm:aj (eY v) w1 w') (fr:gZ w1 v v'):xU S w w' e' size' v' n' xs':=
 ⟨own,yE.fresh (w:=w) (wi:=w1) (v:=v) (v':=v') h.new h.aH.size fr,h.aH.trans fm fun i hi hs=>by have:=h.new i hs;omega⟩
theorem xU.IV {S:Nat→Prop} {w ww:World} {e:TypeId} {size:Nat} {v:Value} {n:Nat} {xs:List Value} (h:xU S w ww e size v n xs):eH (fun k=>w.heap.size≤k) ww v n xs:=⟨Rd.own h.own,fun _ k hk=>h.new k hk⟩
theorem nR.total (B:fA) (st:Option (List UInt8)):∃(a b c:Int) (s1 s2 s3:Option (List UInt8)),dw st B.dc a s1∧dw s1 B.n b s2∧dw s2 B.n c s3:=by
 obtain⟨a,s1,h1⟩:=dw.total st B.dc
 obtain⟨b,s2,h2⟩:=dw.total s1 B.n
 obtain⟨c,s3,h3⟩:=dw.total s2 B.n
 exact⟨a,b,c,s1,s2,s3,h1,h2,h3⟩
theorem ru.fits {B:fA} {st t:Option (List UInt8)} {k:Nat} {c:aX} (h:ru B st k c t):oD c:=fun s hs=>by
 obtain⟨h1,h2,h3⟩:=Run.all (P:=fun s=>lY s.1∧lY s.2.1∧lY s.2.2) (fun h=>nR.fits h) h s hs
 exact⟨h1.1,h1.2,h2.1,h2.2,h3.1,h3.2⟩
theorem Ul (c:aX) (a b d:Int):fJ c++ [.int .i64 a, .int .i64 b, .int .i64 d]=fJ (c++ [(a,b,d)]):=by rw[AQ];rfl
def abt (st:Option (List UInt8)) (ib:Nat) (w:World) (e:Ending) (w':World):Prop:=
 ∃cv c s,e= .returned cv∧eH (fun b=>w.heap.size≤b) w' cv c.length (fJ c)∧kV st c s∧oD c∧(c.length≤(leftOf st).length)∧dJ w' ib s∧aj (Only ib) w w'
theorem ji.left {st s:Option (List UInt8)} {m:Int} {n:Nat} (h:ji st m n s):n≤(leftOf st).length:=by
 cases s with
 |some r=>
  obtain⟨rfl,h1,_⟩:=h.good
  show n≤(bG n++r).length
  rw[List.length_append];omega
 |none=>
  obtain⟨v,s1,h1,h2⟩:=h
  cases s1 with
  |none=>rw[h2.1];exact Nat.zero_le _
  |some q=>
   rcases h2 with⟨_,_,_,d⟩|⟨_,c,_⟩
   ·cases d
   ·rw[c];exact Nat.zero_le _
theorem abu (ib:Nat) (st:Option (List UInt8)) (w:World) (h:dJ w ib st) (hl:(leftOf st).length≤60000):
 Calls Tryz.prog 126 #[.pointer (some ⟨ib,0,none⟩)] w (abt st ib w):=by
 obtain⟨i0,hi,hz0,hz1,hz2⟩:=info_parts xw
 have HC:=ah (Fa ib st w h)
 have low:∀k,Only ib k→k<w.heap.size:=fun k hk=>by rw[show k=ib from hk];exact h.lt
 have Dv:=ah low;clear low
 clear h
 go_enter Tryz.func126,Tryz.ntmps126
 go_wp2_with(go_at_call 174;refine HC.out.mono ?_;rintro e w1 ⟨n,s1,rfl,hc1,hi1,hf1⟩;have bH:=ah hc1;have hn:n≤60000:=by {have:=hc1.left;omega};clear hc1;have HI1:=ah hi1;clear hi1;have bg:=ah hf1;clear hf1)
 go_loopw [3,6] (fun cv i ww=>∃(k:Nat) (c:aX) (s:Option (List UInt8)),k≤n∧i= .int .i64 k∧ru gG s1 k c s∧dJ ww ib s∧xU (Only ib) w ww 144 3 cv k (fJ c)) (fun _ i _=>n-(intOf i).toNat)
 case atStart=>exact⟨0,[],s1,Nat.zero_le _,rfl, .zero,HI1.out,World.ownsRow_nil _ 0 _ 3,(fun b hb=>by simp[Value.ownBlock]at hb),bg.out⟩
 case round=>
  obtain⟨k,c,s,hk,rfl,hrun,hin,hmd⟩:=hrel
  have jA:=ah hrun;clear hrun
  have qF:=ah hin;clear hin
  obtain⟨aV,cV,rfl⟩:=(Rd.own hmd.own).sl
  have Dw:=ah hmd;clear hmd
  by_cases hlt:k<n
  ·obtain⟨d,a,b,t1,t2,t3,g1,g2,g3⟩:=nR.total gG s
   have fZ:=ah g1;clear g1
   have HG2:=ah g2;clear g2
   have gW:=ah g3;clear g3
   go_wp2_with(first
    |(go_at_call 56;refine(lG ib t2 1099511627776 b t3 _ HI4.out gW.out (by omega) (by omega)).mono ?_;rintro e w5 ⟨rfl,hi5,hf5⟩;have zh:=ah hi5;clear hi5;have iJ:=ah hf5;clear hf5)
    |(go_at_call 56;refine(lG ib t1 1099511627776 a t2 _ HI3.out HG2.out (by omega) (by omega)).mono ?_;rintro e w4 ⟨rfl,hi4,hf4⟩;have HI4:=ah hi4;clear hi4;have iI:=ah hf4;clear hf4)
    |(go_at_call 56;refine(lG ib s 4 d t1 _ qF.out fZ.out (by omega) (by omega)).mono ?_;rintro e w3 ⟨rfl,hi3,hf3⟩;have HI3:=ah hi3;clear hi3;have HF3:=ah hf3;clear hf3)
    |(at_builtin;have EF:=((Dw.out.keep Dv.out HF3.out).keep Dv.out iI.out).keep Dv.out iJ.out;have NC:=ah EF;clear EF;refine vW w5 [.int .i64 d, .int .i64 a, .int .i64 b] rfl (.tmp 8) (.tmp 16) 32 rfl 144 i0 _ 3 24 Tryz.underlying32 hi hz0 hz1 hz2 (by decide) (by decide) _ _ _ NC.out.own 1 1 rfl rfl rfl ?c1 ?c2 ?c3 ?_))
   case c1=>simp[Value.oneCell']
   case c2=>simp only[maxLen];omega
   case c3=>omega
   intro ad cc w6 kX dV kY
   have Fb:=ah (show dJ w6 ib t3 from zh.out.keep dV fun j hj hs=>by
    have:=NC.out.new j hs
    have:=Dv.out ib rfl
    omega)
   have HST:=ah (NC.out.step kX dV kY)
   clear kX dV kY
   go_wp2
   go_roundw
   case rel=>exact⟨k+1,c++ [(d,a,b)],t3,by omega,by go_num, .snoc jA.out ⟨_,_,fZ.out,HG2.out,gW.out⟩,Fb.out,by rw[←Ul];exact HST.out⟩
   case measure=>simp[intOf];omega
  ·obtain rfl:n=k:=by omega
   have hcl:=jA.out.len
   have HBAD:=ah (oN ib s wr qF.out)
   cases s with
   |none=>
    have jR:=ah (Jo wG EU (M:=60000) (by omega) (by omega) bH.out jA.out (.inl rfl))
    go_wp2_with(first
     |(go_at_call 58;refine HBAD.out.mono ?_;rintro e w2 ⟨rfl,rfl⟩)
     |(go_at_call 123;obtain⟨a,c,hh⟩:=qF.out.heap;refine(pG ib _ _ wr hh).mono ?_;rintro e w2 ⟨rfl,hi2,hf2⟩;have HI2:=ah hi2;clear hi2 hh;have HF2:=ah hf2;clear hf2))
    go_ret
    exact⟨_,[],none,rfl,⟨.inl ⟨none,rfl,rfl,rfl⟩,fun h=>absurd rfl h⟩,jR.out,(fun s hs=>by cases hs),Nat.zero_le _,HI2.out,Dw.out.aH.trans HF2.out fun _ _ h=>h⟩
   |some r=>
    have hcr:=IK wr (.slice aV n cV) c (by unfold jf;rw[hcl];exact Rd.own Dw.out.own) (ru.fits jA.out) (by omega)
    have fU:=ah hcr;clear hcr
    by_cases hr:dN c
    ·rw[dO hr]at fU
     have jR:=ah (TS bH.out jA.out hr);clear hr
     have rZ:=ah (ru.fits jA.out)
     have hnl:=bH.out.left
     go_wp2_with(first
      |(go_at_call 58;refine HBAD.out.mono ?_;rintro e w2 ⟨rfl,rfl⟩)
      |(go_at_call 157;refine fU.out.mono ?_;rintro e w2 ⟨rfl,hf2⟩;have HF2:=ah hf2;clear hf2))
     go_ret
     exact⟨_,c,some r,rfl,by rw[hcl];exact Dw.out.IV.keep HF2.out (fun _ _ s=>s.elim),jR.out,rZ.out,by omega,qF.out.keep HF2.out (fun _ _ h=>h),Dw.out.aH.trans HF2.out fun _ _ h=>h.elim⟩
    ·rw[bf hr]at fU
     have jR:=ah (Jo wG EU (M:=60000) (by omega) (by omega) bH.out jA.out (.inr hr));clear hr
     go_wp2_with(first
      |(go_at_call 58;refine HBAD.out.mono ?_;rintro e w2 ⟨rfl,rfl⟩)
      |(go_at_call 157;refine fU.out.mono ?_;rintro e w2 ⟨rfl,hf2⟩;have Jr:=ah (qF.out.keep hf2 (fun _ _ h=>h));have HF2:=ah hf2;clear hf2)
      |(go_at_call 123;obtain⟨a,c,hh⟩:=Jr.out.heap;refine(pG ib _ _ w2 hh).mono ?_;rintro e w3 ⟨rfl,hi2,hf2⟩;have HI2:=ah hi2;clear hi2 hh;have HF3:=ah hf2;clear hf2))
     go_ret
     exact⟨_,[],none,rfl,⟨.inl ⟨none,rfl,rfl,rfl⟩,fun h=>absurd rfl h⟩,jR.out,(fun s hs=>by cases hs),Nat.zero_le _,HI2.out,(Dw.out.aH.trans HF2.out fun _ _ h=>h.elim).trans HF3.out fun _ _ h=>h⟩
open Go.RowKit
theorem Js {P:Program} {ops:Array Oper} {o:Oper} {a:Act} (w:World) {K:Act→World→Prop} {Q:Exit→Act→World→Prop} {E:Prop} (news:List Value) (hgd:o.guard=none) (s x:Operand) (t:TypeId)
 (ho:o.op= .call {callee:= .builtin .append,args:= #[s,x],argTypes:= #[t,t]})
 (e:TypeId) (i:TypeInfo) (z:Value) (size bytes:Nat) (ht:P.underlying t=some (.slice e)) (hi:P.info? e=some i) (hz:i.zero=some z)
 (hsize:i.size=size) (hby:i.bytes=bytes) (hzs:z.cells.size=size) (hsz:0<size)
 (v:Value) (n:Nat) (xs:List Value) (hown:w.ownsRow 0 e size v n xs) (m c:Nat) (hv:a.eval s=v) (hx:a.eval x= .slice (some ⟨w.heap.size,0,none⟩) m c)
 (hnl:news.length=m*size) (h1:∀u∈news,u.oneCell'=true) (h63:n+m≤maxLen) (hbytes:(n+m)*bytes≤140737488355328)
 (h:∀ad c w',w'.ownsRow 0 e size (.slice ad (n+m) c) (n+m) (xs++news)→aj (eY v) w w'→gZ w v (.slice ad (n+m) c)→K (a.put o.dst (.slice ad (n+m) c)) w'):
 if Region.wanted o (yielded ops a.tmps)=true then Oper.wp P o a (w.alloc (.cells news.toArray e)) K Q else E:=by
 have hw:Region.wanted o (yielded ops a.tmps)=true:=by simp[Region.wanted,hgd]
 rw[if_pos hw]
 have hs:Src P size t (.slice (some ⟨w.heap.size,0,none⟩) m c) m news (w.alloc (.cells news.toArray e)):=
  Src.ofSlice _ ht ⟨w.heap.size,0,none⟩ m c news hnl (fun j u hj=>by
   have hadd:(⟨w.heap.size,0,none⟩:Addr).add j=⟨w.heap.size,j,none⟩:=by unfold Addr.add;split<;>simp_all
   rw[hadd,cell_of_row (w.alloc (.cells news.toArray e)) w.heap.size j news.toArray e (0,0) (heap_alloc_new w _)]
   simpa using hj) h1
 obtain⟨v',w',hr,h2,h3,h4,⟨ad,c',rfl⟩,h6⟩:=Ee (P:=P) (w.alloc (.cells news.toArray e)) t t o.type e i z size bytes ht hi hz hsize hby hzs hsz v n xs (hown.alloc _) _ m news hs h63 hbytes
 unfold Oper.wp execOp
 simp only[ho,resolve,invoke,builtin,Sem.run_bind,Sem.run_pure,Result.andThen_ok,List.map_toArray,List.map_cons,List.map_nil,hv,hx,hr]
 refine h ad c' w' h2 ((aj.alloc (eY v) w _).trans h3 (fun _ _ h=>h)) fun k hk=>?_
 rcases h4 k hk with h|h
 ·exact .inl h
 ·refine .inr ?_
  simp at h
  omega
def Fe (w:World) (X:Nat→Prop) (h3:Nat) (ev kv:Value) (b:Nat):Prop:=w.heap.size≤b∧¬X b∧b≠h3∧ev.ownBlock≠some b∧kv.ownBlock≠some b
structure jB (S X:Nat→Prop) (w ww:World) (h3:Nat) (es:List aQ) (l:List gB) (ev kv:Value):Prop where
 low:∀k,S k→k<w.heap.size
 uN:∀k,X k→w.heap.size≤k
 xlt:∀k,X k→k<ww.heap.size
 aH:aj S w ww
 b3:ww.heap[h3]?=some (.cells #[ev,kv] 30 (0,0))
 tJ:w.heap.size≤h3
 Dx:¬X h3
 wJ:ww.ownsRow 0 172 4 ev es.length (kM es)
 rE:∀b,ev.ownBlock=some b→w.heap.size≤b∧¬X b∧b≠h3
 Bv:ww.ownsRow 0 83 3 kv l.length (l.flatMap gB.cells)
 knew:∀b,kv.ownBlock=some b→w.heap.size≤b∧¬X b∧b≠h3∧ev.ownBlock≠some b
 kids:∀q∈l,dh (Fe w X h3 ev kv) ww q.ev q.kv q.es q.sub
section
variable {S X:Nat→Prop} {w ww w1 w':World} {h3:Nat} {es:List aQ} {l:List gB} {ev kv ev' kv':Value}
theorem jB.keep (h:jB S X w ww h3 es l ev kv) (f:aj (fun k=>S k∨X k) ww w'):jB S X w w' h3 es l ev kv:=by
 have no:∀b,w.heap.size≤b→¬X b→¬(S b∨X b):=fun b hb hx hs=>hs.elim (fun s=>by have:=h.low b s;omega) hx
 refine⟨h.low,h.uN,fun k hk=>Nat.lt_of_lt_of_le (h.xlt k hk) f.size,?_,f.blk h.b3 (no _ h.tJ h.Dx),h.tJ,h.Dx,f.owns h.wJ fun b hb=>no b (h.rE b hb).1 (h.rE b hb).2.1,h.rE,f.owns h.Bv fun b hb=>no b (h.knew b hb).1 (h.knew b hb).2.1,h.knew,fun q hq=>(h.kids q hq).turn fun b hb hQ=>⟨f.block b hb (no b hQ.1 hQ.2.1),hQ⟩⟩
 exact h.aH.trans f fun i hi hs=>hs.elim id fun hx=>by have:=h.uN i hx;omega
theorem jB.pO (h:jB S X w ww h3 es l ev kv) (f:aj S ww w'):jB S X w w' h3 es l ev kv:=h.keep (f.mono fun _ _ s=> .inl s)
theorem jB.r_ (h:jB S X w ww h3 es l ev kv) (f:aj X ww w'):jB S X w w' h3 es l ev kv:=h.keep (f.mono fun _ _ s=> .inr s)
theorem jB.aJ (h:jB S X w ww h3 es l ev kv) (f:aj ay ww w'):jB S X w w' h3 es l ev kv:=h.keep (f.mono fun _ _ s=>s.elim)
theorem jB.l3 (h:jB S X w ww h3 es l ev kv):h3<ww.heap.size:=lt_of_block h.b3
theorem jB.start (low:∀k,S k→k<w.heap.size) (uN:∀k,X k→w.heap.size≤k) (xlt:∀k,X k→k<ww.heap.size) (f:aj S w ww) (b3:ww.heap[h3]?=some (.cells #[.slice none 0 0, .slice none 0 0] 30 (0,0))) (tJ:w.heap.size≤h3) (Dx:¬X h3):
 jB S X w ww h3 [] [] (.slice none 0 0) (.slice none 0 0):=
 ⟨low,uN,xlt,f,b3,tJ,Dx,World.ownsRow_nil _ 0 _ 4,(fun b hb=>by simp[Value.ownBlock]at hb),World.ownsRow_nil _ 0 _ 3,(fun b hb=>by simp[Value.ownBlock]at hb),fun q hq=>by cases hq⟩
theorem jB.Um (h:jB S X w w1 h3 es [] ev (.slice none 0 0)) {e:aQ} (own:w'.ownsRow 0 172 4 ev' (es.length+1) (kM es++e.cells)) (fm:aj (eY ev) w1 w') (fr:gZ w1 ev ev'):
 jB S X w (w'.setCell ⟨h3,0,none⟩ ev') h3 (es++ [e]) [] ev' (.slice none 0 0):=by
 have hb3:¬eY ev h3:=fun hs=>(h.rE h3 hs).2.2 rfl
 have hset:aj (fun b=>b=h3) w' (w'.setCell ⟨h3,0,none⟩ ev'):=aj.setCell (S:=fun b=>b=h3) w' (p:=⟨h3,0,none⟩) (.inl rfl) _
 have l3:=h.l3
 have hne:∀b,ev'.ownBlock=some b→w.heap.size≤b∧¬X b∧b≠h3:=fun b hb=>by
  rcases fr b hb with h1|h1
  ·exact h.rE b h1
  ·have:=h.aH.size
   exact⟨by omega,fun hx=>by have:=h.xlt b hx;omega,by omega⟩
 refine⟨h.low,h.uN,fun k hk=>Nat.lt_of_lt_of_le (h.xlt k hk) (Nat.le_trans fm.size hset.size),?_,bC (fm.blk h.b3 hb3) 0 ev',h.tJ,h.Dx,?_,hne,World.ownsRow_nil _ 0 _ 3,(fun b hb=>by simp[Value.ownBlock]at hb),fun q hq=>by cases hq⟩
 ·have f1:aj S w w':=h.aH.trans fm fun i hi hs=>by have:=(h.rE i hs).1;omega
  exact f1.trans hset fun i hi hs=>by have hs:i=h3:=hs;have:=h.tJ;omega
 ·rw[List.length_append,ZG]
  have:kM [e]=e.cells:=by simp[kM]
  rw[this]
  exact hset.owns own fun b hb hs=>(hne b hb).2.2 hs
theorem jB.Un (h:jB S X w w1 h3 es l ev kv) {q:gB} (hq:dh (Fe w X h3 ev kv) w1 q.ev q.kv q.es q.sub) (own:w'.ownsRow 0 83 3 kv' (l.length+1) (l.flatMap gB.cells++q.cells)) (fm:aj (eY kv) w1 w') (fr:gZ w1 kv kv'):
 jB S X w (w'.setCell ⟨h3,1,none⟩ kv') h3 es (l++ [q]) ev kv':=by
 have hb3:¬eY kv h3:=fun hs=>(h.knew h3 hs).2.2.1 rfl
 have hset:aj (fun b=>b=h3) w' (w'.setCell ⟨h3,1,none⟩ kv'):=aj.setCell (S:=fun b=>b=h3) w' (p:=⟨h3,1,none⟩) (.inl rfl) _
 have l3:=h.l3
 have hne:∀b,kv'.ownBlock=some b→w.heap.size≤b∧¬X b∧b≠h3∧ev.ownBlock≠some b:=fun b hb=>by
  rcases fr b hb with h1|h1
  ·exact h.knew b h1
  ·have:=h.aH.size
   exact⟨by omega,fun hx=>by have:=h.xlt b hx;omega,by omega,fun he=>by have:=E_ h.wJ b he;omega⟩
 have turn:∀b,b<w1.heap.size→Fe w X h3 ev kv b→(w'.setCell ⟨h3,1,none⟩ kv').heap[b]?=w1.heap[b]?∧Fe w X h3 ev kv' b:=fun b hb hQ=>by
  refine⟨?_,hQ.1,hQ.2.1,hQ.2.2.1,hQ.2.2.2.1,fun e=>?_⟩
  ·rw[hset.block b (Nat.lt_of_lt_of_le hb fm.size) hQ.2.2.1,fm.block b hb hQ.2.2.2.2]
  ·rcases fr b e with h1|h1
   ·exact hQ.2.2.2.2 h1
   ·omega
 refine⟨h.low,h.uN,fun k hk=>Nat.lt_of_lt_of_le (h.xlt k hk) (Nat.le_trans fm.size hset.size),?_,bC (fm.blk h.b3 hb3) 1 kv',h.tJ,h.Dx,?_,h.rE,?_,hne,fun x hx=>?_⟩
 ·have f1:aj S w w':=h.aH.trans fm fun i hi hs=>by have:=(h.knew i hs).1;omega
  exact f1.trans hset fun i hi hs=>by have hs:i=h3:=hs;have:=h.tJ;omega
 ·have o1:=fm.owns h.wJ fun b hb hs=>(h.knew b hs).2.2.2 hb
  exact hset.owns o1 fun b hb hs=>(h.rE b hb).2.2 hs
 ·rw[List.length_append,List.flatMap_append]
  have: [q].flatMap gB.cells=q.cells:=by simp
  rw[this]
  exact hset.owns own fun b hb hs=>(hne b hb).2.2.1 hs
 ·rcases List.mem_append.1 hx with hx|hx
  ·exact(h.kids x hx).turn turn
  ·rw[List.mem_singleton]at hx
   subst hx
   exact hq.turn turn
theorem jB.done (h:jB S X w ww h3 es l ev kv):dh (fun b=>w.heap.size≤b∧¬X b∧b≠h3) ww ev kv es (mkK l):=by
 refine⟨⟨Rd.own h.wJ,fun _ b hb=>h.rE b hb⟩,CW l,⟨?_,fun _ b hb=>⟨(h.knew b hb).1,(h.knew b hb).2.1,(h.knew b hb).2.2.1⟩⟩,MB fun q hq=>(h.kids q hq).turn fun b hb hQ=>⟨rfl,hQ.1,hQ.2.1,hQ.2.2.1⟩⟩
 rw[Me,CX]
 exact Rd.own h.Bv
theorem jB.kid (h:jB S X w w1 h3 es l ev kv) {e2 k2:Value} {es2:List aQ} {tV:aS} (ht:dh (fun b=>w1.heap.size≤b) ww e2 k2 es2 tV) (hs:w1.heap.size≤ww.heap.size):dh (Fe w X h3 ev kv) ww e2 k2 es2 tV:=
 ht.turn fun b hb hQ=>⟨rfl,by have:=h.aH.size;omega,fun hx=>by have:=h.xlt b hx;omega,by have:=h.l3;omega,fun he=>by have:=E_ h.wJ b he;omega,fun he=>by have:=E_ h.Bv b he;omega⟩
end
open Go.RowKit
theorem dw.left {st s:Option (List UInt8)} {m v:Int} (h:dw st m v s):(leftOf s).length≤(leftOf st).length:=by
 cases s with
 |none=>exact Nat.zero_le _
 |some r=>
  obtain⟨rfl,_⟩:=nP h
  show r.length≤(bG v++r).length
  rw[List.length_append];omega
theorem mX.left {st s:Option (List UInt8)} {m:Int} {v:ByteArray} (h:mX st m v s):(leftOf s).length≤(leftOf st).length:=by
 cases s with
 |none=>exact Nat.zero_le _
 |some r=>
  obtain⟨rfl,_⟩:=Na h
  show r.length≤(jF v++r).length
  rw[List.length_append];omega
theorem ji.less {st s:Option (List UInt8)} {m:Int} {n:Nat} (h:ji st m n s):(leftOf s).length≤(leftOf st).length:=by
 cases s with
 |none=>exact Nat.zero_le _
 |some r=>
  obtain⟨rfl,_⟩:=h.good
  show r.length≤(bG n++r).length
  rw[List.length_append];omega
theorem rD.left {B:fA} {d:Nat} {st s:Option (List UInt8)} {es:List aQ} {ks:aS} (h:rD B d st es ks s):(leftOf s).length≤(leftOf st).length:=by
 rcases h with⟨bs,r,rfl,rfl,h⟩|⟨rfl,_⟩
 ·show r.length≤bs.length
  rw[h.eq,List.length_append];omega
 ·exact Nat.zero_le _
theorem pJ.total (B:fA) (st:Option (List UInt8)):∃(e:aQ) (s1 s2 s3 s4:Option (List UInt8)),dw st B.dc e.dc s1∧dw s1 B.n e.n s2∧mX s2 B.s e.s s3∧dw s3 B.k e.k s4:=by
 obtain⟨a,s1,h1⟩:=dw.total st B.dc
 obtain⟨b,s2,h2⟩:=dw.total s1 B.n
 obtain⟨c,s3,h3⟩:=mX.total s2 B.s
 obtain⟨d,s4,h4⟩:=dw.total s3 B.k
 exact⟨⟨a,b,c,d⟩,s1,s2,s3,s4,h1,h2,h3,h4⟩
def GetPost (B:fA) (D:Nat) (st:Option (List UInt8)) (ib:Nat) (w:World) (e:Ending) (w':World):Prop:=
 ∃ev kv es ks s,e= .returned (.agg #[ev,kv])∧dh (fun b=>w.heap.size≤b) w' ev kv es ks∧rD B D st es ks s∧dJ w' ib s∧aj (Only ib) w w'
theorem abv (ib:Nat) (st:Option (List UInt8)) (w:World) (h:dJ w ib st):Calls Tryz.prog 173 #[.pointer (some ⟨ib,0,none⟩), .int .i64 0] w (GetPost gG 0 st ib w):=by
 have hlt:=h.lt
 have HF:=ah (fun w1 (f:aj ay w w1)=>(h.keep f fun _ _=>id).heap)
 clear h
 obtain⟨WB,eU⟩:∃WB,WB=(w.alloc (.cells #[.slice none 0 0, .slice none 0 0] 30)).alloc (.cells #[.slice none 0 0, .slice none 0 0] 30):=⟨_,rfl⟩
 obtain⟨hb3,hfb,hbs⟩:=uJ w (.cells #[.slice none 0 0, .slice none 0 0] 30) #[.slice none 0 0, .slice none 0 0] 30
 have hb2:WB.heap[w.heap.size]?=some (.cells #[.slice none 0 0, .slice none 0 0] 30 (0,0)):=by rw[eU,Below.heap_alloc _ _ _ (by simp)];exact heap_alloc_new w _
 rw[←eU]at hb3 hfb hbs
 have HB2:=ah hb2;clear hb2
 have HB3:=ah hb3;clear hb3
 have dI:=ah hfb;clear hfb
 have wE:=ah hbs;clear hbs
 have dF:=ah eU;clear eU
 have hno:¬Only ib w.heap.size:=fun h=>by have h:w.heap.size=ib:=h;omega
 have Uo:¬Only ib (w.heap.size+1):=fun h=>by have h:w.heap.size+1=ib:=h;omega
 have eP:=ah hno;clear hno
 have ND:=ah Uo;clear Uo
 go_enter Tryz.func173,Tryz.ntmps173
 go_wp2_with(first
  |(go_at_call 123;rw[←dF.out];obtain⟨a,c,hh⟩:=HF.out WB dI.out;refine(pG ib _ _ WB hh).mono ?_;rintro e w1 ⟨rfl,hi2,hf2⟩;have HI1:=ah (show dJ w1 ib none from hi2);clear hi2 hh;have bg:=ah hf2;clear hf2)
  |(go_at_call 174;refine(Fa ib none w1 HI1.out).mono ?_;rintro e w2 ⟨n,s1,rfl,hc1,hi2,hf2⟩;obtain⟨rfl,rfl⟩:=hc1.none_;clear hc1;have HI2:=ah hi2;clear hi2;have HF2:=ah hf2;clear hf2))
 go_loopw [13] (fun i ww=>i= .int .i64 0∧ww=w2) (fun _ _=>0)
 case atStart=>exact⟨rfl,rfl⟩
 case round=>
  obtain⟨rfl,rfl⟩:=hrel
  go_wp2_with(go_at_call 174;refine(Fa ib none wr HI2.out).mono ?_;rintro e w3 ⟨n,s1,rfl,hc1,hi2,hf2⟩;obtain⟨rfl,rfl⟩:=hc1.none_;clear hc1;have HI3:=ah hi2;clear hi2;have HF3:=ah hf2;clear hf2)
  go_loopw [34] (fun i ww=>i= .int .i64 0∧ww=w3) (fun _ _=>0)
  case atStart=>exact⟨rfl,rfl⟩
  case round=>
   obtain⟨rfl,rfl⟩:=hrel
   have k2:=HF3.out.blk (HF2.out.blk (bg.out.blk HB2.out eP.out) eP.out) eP.out
   have k3:=HF3.out.blk (HF2.out.blk (bg.out.blk HB3.out ND.out) ND.out) ND.out
   have y0:=au k2 0 rfl
   have y1:=au k2 1 rfl
   have f0:=aG k2 0
   have f1:=aG k2 1
   have z0:=au k3 0 rfl
   have z1:=au k3 1 rfl
   have hl2:=lt_of_block k2
   have K2:=ah k2;clear k2 k3
   go_wp2
   clear y0 y1
   have y0:=au (bC (bC K2.out 0 (.slice none 0 0)) 1 (.slice none 0 0)) 0 rfl
   have y1:=au (bC (bC K2.out 0 (.slice none 0 0)) 1 (.slice none 0 0)) 1 rfl
   refine bodyPost_ret (v:= .agg #[.slice none 0 0, .slice none 0 0]) (by simp[results,Tryz.results173,go_sem,y0,y1]) rfl ⟨_,_,[], .nil,none,rfl,?_,TP _ _ _ _,HI3.out.keep (fV _ _ _ _) ?_,?_⟩
   ·exact⟨⟨.inl ⟨none,rfl,rfl,rfl⟩,fun h=>absurd rfl h⟩,[],⟨.inl ⟨none,rfl,rfl,rfl⟩,fun h=>absurd rfl h⟩,rfl⟩
   ·intro j hj hs
    have hs:j=w.heap.size:=hs
    omega
   ·have f1:=(((dI.out.mono (T:=Only ib) fun _ _ h=>h.elim).trans bg.out fun _ _ h=>h).trans HF2.out fun _ _ h=>h).trans HF3.out fun _ _ h=>h
    exact f1.trans (fV _ _ _ _) fun i hi hs=>by have hs:i=w.heap.size:=hs;omega
end Go.Proofs.YtabkpccdnkjoiaaGreat
