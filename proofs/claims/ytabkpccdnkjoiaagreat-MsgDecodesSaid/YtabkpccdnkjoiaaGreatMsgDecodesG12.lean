/- Words for the law MsgDecodes: Varint, Out, Out2, RefNum, Dec, In. -/
import Derived.Test.YtabkpccdnkjoiaaGreatMsgDecodesG0
import Derived.Test.YtabkpccdnkjoiaaGreatMsgDecodesG1
import Derived.WalkKit
import Derived.Test.YtabkpccdnkjoiaaGreatProg
import Derived.Deep.AppendSrc
import Derived.Outline
import Derived.WalkArith
set_option linter.unusedSimpArgs false
set_option linter.unusedVariables false
set_option maxHeartbeats 32000000
set_option maxRecDepth 1000000
namespace Go.Proofs.YtabkpccdnkjoiaaGreat
def vl (n:Nat):List UInt8:=if h:n<128 then [UInt8.ofNat n]else UInt8.ofNat (n%128+128)::vl (n/128)
 termination_by n
 decreasing_by omega
def zz (v:Int):Nat:=if 0≤v then(2*v).toNat else(-(2*v)-1).toNat
def bG (v:Int):List UInt8:=vl (zz v)
theorem qB {n:Nat} (h:n<128):vl n=[UInt8.ofNat n]:=by unfold vl;rw[dif_pos h]
theorem tN {n:Nat} (h:¬n<128):vl n=UInt8.ofNat (n%128+128)::vl (n/128):=by rw[vl];rw[dif_neg h]
theorem Di {v:Int} (h1:-9223372036854775808≤v) (h2:v≤9223372036854775807):zz v<18446744073709551616:=by unfold zz;split<;>omega
theorem aaz {a b:Int} (h:zz a=zz b):a=b:=by unfold zz at h;split at h<;>split at h<;>omega
theorem toNat_ofNat {n:Nat} (h:n<256):(UInt8.ofNat n).toNat=n:=by simp;omega
theorem aaA (k:Nat):∀n,n<128^(k+1)→(vl n).length≤k+1:=by
 induction k with
 |zero=>intro n h;rw[qB (by simpa using h)];simp
 |succ k ih=>
  intro n h
  by_cases hn:n<128
  ·rw[qB hn];simp
  ·rw[tN hn,List.length_cons]
   have:=ih (n/128) (by rw[Nat.div_lt_iff_lt_mul (by omega)];rw[Nat.pow_succ]at h;exact h)
   omega
theorem Jc (n:Nat):1≤(vl n).length:=by
 by_cases hn:n<128
 ·rw[qB hn];simp
 ·rw[tN hn];simp
theorem Bj {n:Nat} (h:n<18446744073709551616):(vl n).length≤10:=aaA 9 n (by omega)
theorem jr {v:Int} (h1:-9223372036854775808≤v) (h2:v≤9223372036854775807):(bG v).length≤10:=Bj (Di h1 h2)
theorem rX (v:Int):1≤(bG v).length:=Jc _
theorem aaB:∀(n m:Nat) (x y:List UInt8),vl n++x=vl m++y→n=m∧x=y:=by
 intro n
 induction n using Nat.strongRecOn with
 |ind n ih=>
  intro m x y h
  by_cases hn:n<128<;>by_cases hm:m<128
  ·rw[qB hn,qB hm]at h
   simp only[List.cons_append,List.nil_append,List.cons.injEq]at h
   refine⟨?_,h.2⟩
   have:=congrArg UInt8.toNat h.1
   rw[toNat_ofNat (by omega),toNat_ofNat (by omega)]at this
   exact this
  ·rw[qB hn,tN hm]at h
   simp only[List.cons_append,List.nil_append,List.cons.injEq]at h
   have:=congrArg UInt8.toNat h.1
   rw[toNat_ofNat (by omega),toNat_ofNat (by omega)]at this
   omega
  ·rw[tN hn,qB hm]at h
   simp only[List.cons_append,List.nil_append,List.cons.injEq]at h
   have:=congrArg UInt8.toNat h.1
   rw[toNat_ofNat (by omega),toNat_ofNat (by omega)]at this
   omega
  ·rw[tN hn,tN hm]at h
   simp only[List.cons_append,List.cons.injEq]at h
   have h1:=congrArg UInt8.toNat h.1
   rw[toNat_ofNat (by omega),toNat_ofNat (by omega)]at h1
   obtain⟨h2,h3⟩:=ih (n/128) (by omega) (m/128) x y h.2
   exact⟨by omega,h3⟩
theorem lF {a b:Int} {x y:List UInt8} (h:bG a++x=bG b++y):a=b∧x=y:=
 let⟨h1,h2⟩:=aaB _ _ _ _ h;⟨aaz h1,h2⟩
open Go.RowKit
theorem Tryz.info_u8:(Tryz.prog.info? 5).map (fun i=>(i.zero,i.size,i.bytes))=some (some (.int .u8 0),1,1):=by kernel_rfl
structure jv (w:World) (ob:Nat) (v:Value) (bs:List UInt8):Prop where
 cell:w.heap[ob]?=some (.cells #[v] 127 (0,0))
 own:w.ownsRow 0 5 1 v bs.length (bV bs)
 apart:v.ownBlock≠some ob
def iT (ob:Nat) (v:Value) (k:Nat):Prop:=k=ob∨v.ownBlock=some k
theorem SC (a:Nat) (h:a<2^64):a^^^(2^64-1)=2^64-(a+1):=by
 apply Nat.eq_of_testBit_eq
 intro i
 rw[Nat.testBit_xor,Nat.testBit_two_pow_sub_one,Nat.testBit_two_pow_sub_succ h]
 by_cases hi:i<64
 ·simp[hi]
 ·have:a.testBit i=false:=Nat.testBit_lt_two_pow (Nat.lt_of_lt_of_le h (Nat.pow_le_pow_right (by omega) (by omega)))
  simp[hi,this]
theorem aaC (x:Int) (h1:-9223372036854775808≤x) (h2:x≤9223372036854775807):
 bits BinOp.xor IntKind.u64 (IntKind.u64.wrap (IntKind.u64.wrap x*2)) (IntKind.u64.wrap (x/9223372036854775808))=(zz x:Int):=by
 rw[IntKind.wrap_u64,IntKind.wrap_u64,IntKind.wrap_u64]
 by_cases h:0≤x
 ·have e1:x/9223372036854775808%18446744073709551616=((0:Nat):Int):=by omega
  have e2:x%18446744073709551616*2%18446744073709551616=((zz x:Nat):Int):=by unfold zz;rw[if_pos h];omega
  rw[e1,e2,bits_xor_u64_nat _ _ (Di h1 h2) (by omega),Nat.xor_zero]
 ·have e1:x/9223372036854775808%18446744073709551616=((2^64-1:Nat):Int):=by omega
  have e2:x%18446744073709551616*2%18446744073709551616=((18446744073709551615-zz x:Nat):Int):=by unfold zz;rw[if_neg h];omega
  have hz:=Di h1 h2
  rw[e1,e2,bits_xor_u64_nat _ _ (by omega) (by omega),SC _ (by omega)]
  omega
theorem jv.row {w w1:World} {ob:Nat} {v:Value} {bs:List UInt8} (h:jv w ob v bs) (f:aj (eY v) w w1):w1.cell? ⟨ob,0,none⟩=some v∧w1.frozen? ⟨ob,0,none⟩=false∧ob<w1.heap.size:=by
 have hb:=f.blk h.cell h.apart
 exact⟨cell_of_one hb,free_of_one hb,lt_of_block hb⟩
theorem jv.store {w w1:World} {ob:Nat} {v v2:Value} {bs cs:List UInt8} {n2:Nat} {xs2:List Value} (h:jv w ob v bs) (own:w1.ownsRow 0 5 1 v2 n2 xs2) (f:aj (eY v) w w1) (fr:gZ w v v2)
 (hx:xs2=bV (bs++cs)):jv (w1.setCell ⟨ob,0,none⟩ v2) ob v2 (bs++cs)∧aj (iT ob v) w (w1.setCell ⟨ob,0,none⟩ v2):=by
 have hb:=f.blk h.cell h.apart
 have hap:v2.ownBlock≠some ob:=fun e=>by
  rcases fr ob e with h1|h1
  ·exact h.apart h1
  ·have:=lt_of_block h.cell;omega
 subst hx
 have hn:n2=(bs++cs).length:=by have:=own.1;simpa using this.symm
 subst hn
 refine⟨⟨one_setCell hb,ownsRow_setCell_other own hap _,hap⟩,?_⟩
 exact(f.mono (T:=iT ob v) fun k _ hk=> .inr hk).trans (aj.setCell (S:=iT ob v) w1 (.inl (.inl rfl)) v2) fun _ _ h=>h
theorem Dj {w:World} {ob:Nat} {v v':Value} (h:gZ w v v'):∀i,i<w.heap.size→iT ob v' i→iT ob v i:=fun i hi hs=>by
 rcases hs with hs|hs
 ·exact .inl hs
 ·rcases h i hs with h1|h1
  ·exact .inr h1
  ·omega
theorem aaD (n:Nat):bits BinOp.or IntKind.u8 ((n:Int)%256) 128=((n%128+128:Nat):Int):=by
 have e:((n:Int)%256)=((n%256:Nat):Int):=by omega
 rw[e,show(128:Int)=((128:Nat):Int)from rfl,u8_or_nat _ _ (by omega) (by omega)]
 have h:∀k,k<256→k|||128=k%128+128:=by decide+kernel
 rw[h _ (by omega)]
 congr 1
 omega
def aaE (w:World) (ob:Nat) (v:Value) (bs:List UInt8) (x:Int) (u:Value) (wr:World):Prop:=
 ∃(n:Nat) (v':Value) (cs:List UInt8),u= .int .u64 n∧n<18446744073709551616∧cs.length+(vl n).length≤10∧jv wr ob v' (bs++cs)∧cs++vl n=bG x∧gZ w v v'∧aj (iT ob v) w wr
theorem SE (ob:Nat) (x:Int) (w:World) (v:Value) (bs:List UInt8) (h:jv w ob v bs) (h1:-9223372036854775808≤x) (h2:x≤9223372036854775807) (hl:bs.length≤100000000):
 Calls Tryz.prog 70 #[.pointer (some ⟨ob,0,none⟩), .int .i64 x] w fun e w'=>e= .returned (.tuple #[])∧
  ∃v',jv w' ob v' (bs++bG x)∧gZ w v v'∧aj (iT ob v) w w':=by
 obtain⟨i0,hi,hz0,hz1,hz2⟩:=info_parts Tryz.info_u8
 have hz:=aaC x h1 h2
 go_enter Tryz.func70,Tryz.ntmps70
 go_wp2
 clear hz
 have hzl:=Di h1 h2
 go_loopw [4] (fun u wr=>aaE w ob v bs x u wr) (fun u _=>(intOf u).toNat)
 case atStart=>exact⟨_,v,[],rfl,hzl,by simpa using Bj hzl,by simpa using h,rfl,fun k hk=> .inl hk,aj.refl _ _⟩
 case round=>
  obtain⟨n,v',cs,rfl,hn,hc,ho,hcs,hfr,hfm⟩:=hrel
  have hcell:=cell_of_one ho.cell
  have hfree:=free_of_one ho.cell
  have hob:=lt_of_block ho.cell
  have HO:=ah ho;clear ho
  have rY:=ah hcs;clear hcs
  have HN:=ah hn;clear hn
  have HC:=ah hc;clear hc
  have HZ:=ah hzl;clear hzl
  have HL:=ah hl;clear hl
  have H1:=ah h1;clear h1
  have H2:=ah h2;clear h2
  have HF:=ah hfr;clear hfr
  have HM:=ah hfm;clear hfm
  clear h
  by_cases hlt:n<128
  ·go_wp2_with(at_builtin;refine vW _ _ rfl (.tmp 34) (.tmp 37) 22 rfl 5 i0 (.int .u8 0) 1 1 Tryz.underlying22 hi hz0 hz1 hz2 rfl (by decide) _ _ _ HO.out.own 1 1 rfl rfl rfl ?c1 ?c2 ?c3 ?_)
   case c1=>simp[Value.oneCell']
   case c2=>have:=HC.out;have:=HL.out;simp only[List.length_append,maxLen];omega
   case c3=>have:=HC.out;have:=HL.out;simp only[List.length_append];omega
   intro ad c w1 lW kP lX
   obtain⟨k0,k1,k2⟩:=HO.out.row kP
   have OW:=ah lW;clear lW
   have FM:=ah kP;clear kP
   have FR:=ah lX;clear lX
   obtain⟨o1,o2⟩:=HO.out.store (cs:=[UInt8.ofNat n]) OW.out FM.out FR.out (Qh _ _ (by rw[toNat_ofNat (by omega)]))
   have O1:=ah o1;clear o1
   have O2:=ah o2;clear o2
   go_wp2
   go_end0
   refine⟨rfl,_,?_,HF.out.trans HM.out.size FR.out,HM.out.trans O2.out ?_⟩
   ·have e:=O1.out
    rw[List.append_assoc,←qB hlt,rY.out]at e
    exact e
   ·exact Dj HF.out
  ·go_wp2_with(at_builtin;refine vW _ _ rfl (.tmp 22) (.tmp 26) 22 rfl 5 i0 (.int .u8 0) 1 1 Tryz.underlying22 hi hz0 hz1 hz2 rfl (by decide) _ _ _ HO.out.own 1 1 rfl rfl rfl ?c1 ?c2 ?c3 ?_)
   case c1=>simp[Value.oneCell']
   case c2=>have:=HC.out;have:=HL.out;simp only[List.length_append,maxLen];omega
   case c3=>have:=HC.out;have:=HL.out;simp only[List.length_append];omega
   intro ad c w1 lW kP lX
   obtain⟨k0,k1,k2⟩:=HO.out.row kP
   have OW:=ah lW;clear lW
   have FM:=ah kP;clear kP
   have FR:=ah lX;clear lX
   obtain⟨o1,o2⟩:=HO.out.store (cs:=[UInt8.ofNat (n%128+128)]) OW.out FM.out FR.out (Qh _ _ (by rw[toNat_ofNat (by omega),aaD]))
   have O1:=ah o1;clear o1
   have O2:=ah o2;clear o2
   go_wp2
   go_roundw
   case rel=>
    have e:=O1.out
    rw[List.append_assoc]at e
    have hb:=tN hlt
    have hs:=rY.out
    have hc:=HC.out
    rw[hb]at hs hc
    exact⟨n/128,_,cs++ [UInt8.ofNat (n%128+128)],by go_num,by have:=HN.out;omega,by simp only[List.length_append,List.length_cons,List.length_nil]at hc⊢;omega,e,
     by rw[List.append_assoc];exact hs,HF.out.trans HM.out.size FR.out,HM.out.trans O2.out (Dj HF.out)⟩
   case measure=>simp[intOf];omega
theorem MO {ops:Array Oper} {rest:List Oper} {o:Oper} {a:Act} {Q:Exit→Act→World→Prop} (w:World) (hgd:o.guard=none) (s x:Operand) (tx:TypeId)
 (ho:o.op= .call {callee:= .builtin .append,args:= #[s,x],argTypes:= #[22,tx]}) (v:Value) (bs:List UInt8) (hown:w.ownsRow 0 5 1 v bs.length (bV bs)) (xv:Value) (cs:List UInt8)
 (hv:a.eval s=v) (hx:a.eval x=xv) (hs:Src Tryz.prog 1 tx xv cs.length (bV cs) w) (hl:bs.length+cs.length≤140737488355328)
 (h:∀ad c w',w'.ownsRow 0 5 1 (.slice ad (bs.length+cs.length) c) (bs++cs).length (bV (bs++cs))→aj (eY v) w w'→gZ w v (.slice ad (bs.length+cs.length) c)→
   (Value.slice ad (bs.length+cs.length) c= .slice none 0 0↔v= .slice none 0 0∧cs.length=0)→wpList Tryz.prog ops Q rest (a.put o.dst (.slice ad (bs.length+cs.length) c)) w'):
 wpList Tryz.prog ops Q (o::rest) a w:=by
 obtain⟨i0,hi,hz0,hz1,hz2⟩:=info_parts Tryz.info_u8
 refine KA w hgd s x 22 tx ho 5 i0 (.int .u8 0) 1 1 Tryz.underlying22 hi hz0 hz1 hz2 rfl (by decide) v _ _ hv hown xv _ _ hx hs (by simp only[maxLen];omega) (by omega) fun ad c w' g1 g2 g3 g4=>h ad c w' ?_ g2 g3 g4
 rw[wX,List.length_append]
 exact g1
theorem Jd {ops:Array Oper} {rest:List Oper} {o:Oper} {a:Act} {Q:Exit→Act→World→Prop} (w:World) (hgd:o.guard=none) (s x:Operand)
 (ho:o.op= .call {callee:= .builtin .append,args:= #[s,x],argTypes:= #[22,22]}) (k:Int) (v:Value) (bs:List UInt8) (hown:w.ownsRow 0 5 1 v bs.length (bV bs)) (b:UInt8)
 (hv:a.eval s=v) (hx:a.eval x= .slice (some ⟨w.heap.size,0,none⟩) 1 1) (hk:k=(b.toNat:Int)) (hl:bs.length+1≤140737488355328)
 (h:∀ad c w',w'.ownsRow 0 5 1 (.slice ad (bs.length+1) c) (bs++ [b]).length (bV (bs++ [b]))→aj (eY v) w w'→gZ w v (.slice ad (bs.length+1) c)→wpList Tryz.prog ops Q rest (a.put o.dst (.slice ad (bs.length+1) c)) w'):
 wpList Tryz.prog ops Q (o::rest) a (w.alloc (.cells #[.int .u8 k] 5)):=by
 obtain⟨i0,hi,hz0,hz1,hz2⟩:=info_parts Tryz.info_u8
 subst hk
 refine vW w [.int .u8 (b.toNat:Int)] hgd s x 22 ho 5 i0 (.int .u8 0) 1 1 Tryz.underlying22 hi hz0 hz1 hz2 rfl (by decide) v _ _ hown 1 1 hv hx rfl (by simp[Value.oneCell']) (by simp only[maxLen];omega) (by omega) fun ad c w' g1 g2 g3=>h ad c w' ?_ g2 g3
 rw[wX,List.length_append]
 exact g1
theorem SG (w:World):(w.alloc (.cells #[] 5)).ownsRow 0 5 1 (.slice (some ⟨w.heap.size,0,none⟩) 0 0) ([]:List UInt8).length (bV []):=
 ⟨rfl, .inr ⟨w.heap.size,0, #[],rfl,Nat.zero_le _,heap_alloc_new w _,Nat.le_refl _,Nat.zero_le _,rfl,rfl⟩⟩
theorem clone_nil (w:World):Calls Tryz.prog 121 #[.slice none 0 0] w fun e w'=>e= .returned (.slice none 0 0)∧w=w':=by
 have hq:=Lib.run_eql_slice_nil (P:=Tryz.prog) w 22 5 none 0 0 0 0 Tryz.underlying22
 go_enter Tryz.func121,Tryz.ntmps121
 go_wp2
 go_ret
 exact⟨rfl,rfl⟩
theorem SH (w:World) (a:Addr) (c:Nat) (bs:List UInt8) (h:Rd w (.slice (some a) bs.length c) bs.length (bV bs)) (hl:bs.length≤140737488355328):
 Calls Tryz.prog 121 #[.slice (some a) bs.length c] w fun e w'=>∃ad c',e= .returned (.slice ad bs.length c')∧w'.ownsRow 0 5 1 (.slice ad bs.length c') bs.length (bV bs)∧yE w (.slice ad bs.length c')∧aj (fun _=>False) w w':=by
 obtain⟨i0,hi,hz0,hz1,hz2⟩:=info_parts Tryz.info_u8
 have hq:=Lib.run_eql_slice_nil (P:=Tryz.prog) w 22 5 (some a) bs.length c 0 0 Tryz.underlying22
 go_enter Tryz.func121,Tryz.ntmps121
 have hs:=(h.keep (aj.alloc (fun _=>False) w (.cells #[] 5)) (fun _ _ h=>h)).src (P:=Tryz.prog) (size:=1) Tryz.underlying22 (by simp) (Qi bs)
 have HS:=ah hs;clear hs
 have HH:=ah h;clear h
 go_wp2_with(at_builtin;refine MO _ rfl (.tmp 5) (.tmp 6) 22 rfl _ [] (SG w) _ bs rfl rfl HS.out ?c1 ?_)
 case c1=>simpa using hl
 intro ad c1 w1 lW kP lX _
 have OW:=ah lW;clear lW
 have FM:=ah kP;clear kP
 have FR:=ah lX;clear lX
 clear hq
 go_wp2
 go_ret
 refine⟨ad,c1,rfl,OW.out,?_,?_⟩
 ·intro k hk
  rcases FR.out k hk with h1|h1
  ·simp[Value.ownBlock]at h1;omega
  ·simp at h1;omega
 ·exact(aj.alloc (fun _=>False) w _).trans FM.out (fun i hi hs=>by simp[eY,Value.ownBlock]at hs;omega)
structure Copy (w:World) (v:Value) (bs:List UInt8) (w':World):Prop where
 own:w'.ownsRow 0 5 1 v bs.length (bV bs)
 new:yE w v
 aH:aj (fun _=>False) w w'
 shape:∃ad c,v= .slice ad bs.length c
theorem clone_any (w:World) (v:Value) (bs:List UInt8) (h:Rd w v bs.length (bV bs)) (hl:bs.length≤140737488355328):
 Calls Tryz.prog 121 #[v] w fun e w'=>∃v',e= .returned v'∧Copy w v' bs w':=by
 rcases h with⟨ad,rfl,h2,h3⟩|⟨b,off,c,rfl,hx⟩
 ·have hb:bs=[]:=by simpa[bV]using h3
  subst hb
  cases ad with
  |some a=>exact(SH w a 0 [] (.inl ⟨_,rfl,rfl,rfl⟩) hl).mono fun e w' ⟨ad,c',he,h1,h2,h3⟩=>⟨_,he,h1,h2,h3,ad,c',rfl⟩
  |none=>
  exact(clone_nil w).mono fun e w' ⟨he,hw⟩=>⟨_,he,by subst hw;exact⟨World.ownsRow_nil w 0 _ 1,fun k hk=>by simp[Value.ownBlock]at hk,aj.refl _ _,none,0,rfl⟩⟩
 ·exact(SH w ⟨b,off,none⟩ c bs (.inr ⟨b,off,c,rfl,hx⟩) hl).mono fun e w' ⟨ad,c',he,h1,h2,h3⟩=>⟨_,he,h1,h2,h3,ad,c',rfl⟩
theorem aaF (ob:Nat) (w:World) (v:Value) (bs:List UInt8) (h:jv w ob v bs) (hl:bs.length≤60000):Calls Tryz.prog 74 #[.pointer (some ⟨ob,0,none⟩)] w fun e w'=>∃v',e= .returned (.tuple #[v', .int .i64 0])∧Copy w v' bs w':=by
 have hcell:=cell_of_one h.cell
 have hc:=clone_any w v bs (Rd.own h.own) (by omega)
 have HC:=ah hc;clear hc
 obtain⟨a,c,rfl⟩:∃a c,v= .slice a bs.length c:=by
  rcases h.own.2 with⟨rfl,h0⟩|⟨g,cap,cur,rfl,_⟩
  ·exact⟨none,0,by rw[h0]⟩
  ·exact⟨_,_,rfl⟩
 clear h
 go_enter Tryz.func74,Tryz.ntmps74
 go_wp2_with(go_at_call 121;refine HC.out.mono ?_)
 rintro e w1 ⟨v',rfl,hcp⟩
 have HP:=ah hcp;clear hcp
 go_wp2
 go_ret2
 exact⟨v',rfl,HP.out⟩
open Go.RowKit
def jF (s:ByteArray):List UInt8:=bG s.size++s.data.toList
theorem aaG (s:ByteArray):byteCells s=bV s.data.toList:=rfl
theorem aaH (w:World) (s:ByteArray):Src Tryz.prog 1 9 (.string s) s.data.toList.length (bV s.data.toList) w:=by
 have:=Src.ofString (P:=Tryz.prog) w (tx:=9) Tryz.underlying9 s
 rw[aaG]at this
 simpa using this
theorem SI {w:World} {e:TypeId} {size:Nat} {v:Value} {n:Nat} {xs:List Value} (h:w.ownsRow 0 e size v n xs):∃a c,v= .slice a n c:=by
 rcases h.2 with⟨rfl,h0⟩|⟨g,cap,cur,rfl,_⟩
 ·exact⟨none,0,by rw[h0]⟩
 ·exact⟨_,_,rfl⟩
theorem aaI (ob:Nat) (s:ByteArray) (w:World) (v:Value) (bs:List UInt8) (h:jv w ob v bs) (hl:bs.length+s.size≤99999000):
 Calls Tryz.prog 228 #[.pointer (some ⟨ob,0,none⟩), .string s] w fun e w'=>e= .returned (.tuple #[])∧
  ∃v',jv w' ob v' (bs++jF s)∧gZ w v v'∧aj (iT ob v) w w':=by
 have hn:=SE ob s.size w v bs h (by omega) (by omega) (by omega)
 have hb:(bG s.size).length≤10:=jr (by omega) (by omega)
 have hlen:(bs++bG s.size).length+s.size≤100000000:=by simp only[List.length_append];omega
 generalize hB:bs++bG s.size=b1 at hn hlen
 have HB:=ah hB;clear hB
 have HN:=ah hn;clear hn
 have HL:=ah hlen;clear hlen
 clear h hb hl
 go_enter Tryz.func228,Tryz.ntmps228
 go_wp2_with(go_at_call 70;refine HN.out.mono ?_)
 rintro e w1 ⟨rfl,v1,ho,hf,hm⟩
 have hcell:=cell_of_one ho.cell
 have hfree:=free_of_one ho.cell
 obtain⟨a1,c1,rfl⟩:=SI ho.own
 have HO:=ah ho;clear ho
 have HF:=ah hf;clear hf
 have HM:=ah hm;clear hm
 go_wp2_with(at_builtin;refine MO _ rfl (.tmp 14) (.tmp 15) 9 rfl _ _ HO.out.own _ s.data.toList rfl rfl (aaH _ s) ?c1 ?_)
 case c1=>have:=HL.out;simp only[Array.length_toList];show _+s.size≤_;omega
 intro ad c2 w2 lW kP lX _
 obtain⟨k0,k1,k2⟩:=HO.out.row kP
 have OW:=ah lW;clear lW
 have FM:=ah kP;clear kP
 have FR:=ah lX;clear lX
 obtain⟨o1,o2⟩:=HO.out.store (cs:=s.data.toList) OW.out FM.out FR.out (by simp[wX])
 have O1:=ah o1;clear o1
 have O2:=ah o2;clear o2
 go_wp2
 go_end0
 refine⟨rfl,_,?_,HF.out.trans HM.out.size FR.out,HM.out.trans O2.out (Dj HF.out)⟩
 have e:=O1.out
 have hx:b1++s.data.toList=bs++jF s:=by rw[←HB.out,List.append_assoc];rfl
 rw[hx]at e
 exact e
theorem aaJ (w:World):jv (w.alloc (.cells #[.slice none 0 0] 127)) w.heap.size (.slice none 0 0) []:=
 ⟨heap_alloc_new w _,World.ownsRow_nil _ 0 _ 1,by simp[Value.ownBlock]⟩
theorem kQ {w:World} {v:Value} {bs:List UInt8} (h:Rd w v bs.length (bV bs)):(convert 22 9 v).run Tryz.prog w= .ok (.string ⟨bs.toArray⟩) w:=by
 rcases h with⟨ad,rfl,h1,h2⟩|⟨b,off,c,rfl,_,_,h3⟩
 ·have hb:bs=[]:=by simpa[bV]using h2
  subst hb
  rw[run_convert_bytes_string w 22 9 5 _ _ _ Tryz.underlying22 Tryz.underlying5 Tryz.underlying9]
  cases ad with
  |none=>rfl
  |some a=>
   have hl:=run_loadCells_list (P:=Tryz.prog) w a [] (fun j u hu=>by simp at hu)
   rw[run_bytesToString w a 0 0 [] hl]
   rfl
 ·rw[run_convert_bytes_string w 22 9 5 _ _ _ Tryz.underlying22 Tryz.underlying5 Tryz.underlying9]
  have e:bV bs=(bs.map (fun b=>(b.toNat:Int))).map (Value.int .u8):=by simp[bV]
  have hl:=run_loadCells_list (P:=Tryz.prog) w ⟨b,off,none⟩ (bV bs) (fun j u hu=>by rw[addr_add];exact h3 j u hu)
  rw[Kz,e]at hl
  rw[run_bytesToString w ⟨b,off,none⟩ bs.length c _ hl,foldl_push_byteCells]
  simp
open Go.RowKit
theorem Copy.nil (w:World):Copy w (.slice none 0 0) [] w:=⟨World.ownsRow_nil w 0 _ 1,fun k hk=>by simp[Value.ownBlock]at hk,aj.refl _ _,none,0,rfl⟩
theorem Copy.app {w w1 w2:World} {v v2:Value} {bs cs:List UInt8} {n:Nat} {xs:List Value} (h:Copy w v bs w1) (own:w2.ownsRow 0 5 1 v2 n xs) (hx:xs=bV (bs++cs)) (f:aj (eY v) w1 w2) (fr:gZ w1 v v2):Copy w v2 (bs++cs) w2:=by
 subst hx
 have hn:n=(bs++cs).length:=by have:=own.1;simpa using this.symm
 subst hn
 refine⟨own,fun k hk=>?_,h.aH.trans f fun i hi hs=>?_,SI own⟩
 ·rcases fr k hk with h1|h1
  ·exact h.new k h1
  ·exact Nat.le_trans h.aH.size h1
 ·have:=h.new i hs;omega
theorem Copy.step {w w1 w2:World} {v:Value} {bs:List UInt8} (h:Copy w v bs w1) (f:aj (fun _=>False) w1 w2):Copy w v bs w2:=
 ⟨f.owns h.own fun _ _ hs=>hs,h.new,h.aH.trans f fun _ _ hs=>hs,h.shape⟩
theorem Copy.rd {w w1:World} {v:Value} {bs:List UInt8} (h:Copy w v bs w1):Rd w1 v bs.length (bV bs):=Rd.own h.own
theorem Copy.weaken {w0 w w1:World} {v:Value} {bs:List UInt8} (h:Copy w v bs w1) (f:aj (fun _=>False) w0 w):Copy w0 v bs w1:=
 ⟨h.own,fun k hk=>Nat.le_trans f.size (h.new k hk),f.trans h.aH fun _ _ hs=>hs,h.shape⟩
def SK (w:World) (x:Int) (u o:Value) (wr:World):Prop:=
 ∃(n:Nat) (cs:List UInt8),u= .int .u64 n∧n<18446744073709551616∧cs.length+(vl n).length≤10∧Copy w o cs wr∧cs++vl n=bG x
theorem SL (x:Int) (w:World) (h1:-9223372036854775808≤x) (h2:x≤9223372036854775807):
 Calls Tryz.prog 179 #[.int .i64 x] w fun e w'=>∃v',e= .returned v'∧Copy w v' (bG x) w':=by
 have hzl:=Di h1 h2
 by_cases hneg:x<0
 ·have hze:(2*-(x+1)+1:Int)=(zz x:Int):=by unfold zz;rw[if_neg (by omega)];omega
  go_enter Tryz.func179,Tryz.ntmps179
  go_wp2
  clear hneg
  go_loopw [3,4] (fun u o wr=>SK w x u o wr) (fun u _ _=>(intOf u).toNat)
  case atStart=>exact⟨zz x,[],rfl,hzl,by simpa using Bj hzl,Copy.nil w,rfl⟩
  case round=>
   obtain⟨n,cs,rfl,hn,hc,ho,hcs⟩:=hrel
   obtain⟨ao,co,rfl⟩:=ho.shape
   have HO:=ah ho;clear ho
   have rY:=ah hcs;clear hcs
   have HN:=ah hn;clear hn
   have HC:=ah hc;clear hc
   have HZ:=ah hzl;clear hzl
   have H1:=ah h1;clear h1
   have H2:=ah h2;clear h2
   have ZE:=ah hze;clear hze
   by_cases hlt:n<128
   ·go_wp2_with(at_builtin;refine Jd _ rfl (.tmp 27) (.tmp 30) rfl _ _ cs HO.out.own (UInt8.ofNat n) rfl rfl ?c1 ?c2 ?_)
    case c1=>rw[toNat_ofNat (by omega)]
    case c2=>have:=HC.out;omega
    intro ad c w1 lW kP lX
    have OW:=ah lW;clear lW
    have FM:=ah kP;clear kP
    have FR:=ah lX;clear lX
    go_wp2
    go_ret
    refine⟨_,rfl,?_⟩
    have e:=HO.out.app (cs:=[UInt8.ofNat n]) OW.out (by simp[wX]) FM.out FR.out
    rw[←qB hlt,rY.out]at e
    exact e
   ·obtain⟨b,hb⟩:∃b:UInt8,b=UInt8.ofNat (n%128+128):=⟨_,rfl⟩
    have hbn:b.toNat=n%128+128:=by rw[hb,toNat_ofNat (by omega)]
    have hvb:=tN hlt
    rw[←hb]at hvb
    have HV:=ah hvb;clear hvb
    have hwr:IntKind.u64.wrap ((n:Int)/128)=(n:Int)/128:=IntWalk.u64_in _ (by have:=HN.out;omega)
    have HB:=ah hbn;clear hbn
    clear hb
    go_wp2_with(at_builtin;refine Jd _ rfl (.tmp 18) (.tmp 23) rfl _ _ cs HO.out.own b rfl rfl ?c1 ?c2 ?_)
    case c1=>rw[HB.out];omega
    case c2=>have:=HC.out;omega
    intro ad c w1 lW kP lX
    have OW:=ah lW;clear lW
    have FM:=ah kP;clear kP
    have FR:=ah lX;clear lX
    go_wp2
    go_roundw
    case rel=>
     have e:=HO.out.app (cs:=[b]) OW.out (by simp[wX]) FM.out FR.out
     have hs:=rY.out
     have hc:=HC.out
     rw[HV.out]at hs hc
     exact⟨n/128,cs++ [b],by go_num,by have:=HN.out;omega,by simp only[List.length_append,List.length_cons,List.length_nil]at hc⊢;omega,e,by rw[List.append_assoc];exact hs⟩
    case measure=>simp[intOf];omega
 ·have hze:(2*x:Int)=(zz x:Int):=by unfold zz;rw[if_pos (by omega)];omega
  go_enter Tryz.func179,Tryz.ntmps179
  go_wp2
  clear hneg
  go_loopw [3,4] (fun u o wr=>SK w x u o wr) (fun u _ _=>(intOf u).toNat)
  case atStart=>exact⟨zz x,[],rfl,hzl,by simpa using Bj hzl,Copy.nil w,rfl⟩
  case round=>
   obtain⟨n,cs,rfl,hn,hc,ho,hcs⟩:=hrel
   obtain⟨ao,co,rfl⟩:=ho.shape
   have HO:=ah ho;clear ho
   have rY:=ah hcs;clear hcs
   have HN:=ah hn;clear hn
   have HC:=ah hc;clear hc
   have HZ:=ah hzl;clear hzl
   have H1:=ah h1;clear h1
   have H2:=ah h2;clear h2
   have ZE:=ah hze;clear hze
   by_cases hlt:n<128
   ·go_wp2_with(at_builtin;refine Jd _ rfl (.tmp 27) (.tmp 30) rfl _ _ cs HO.out.own (UInt8.ofNat n) rfl rfl ?c1 ?c2 ?_)
    case c1=>rw[toNat_ofNat (by omega)]
    case c2=>have:=HC.out;omega
    intro ad c w1 lW kP lX
    have OW:=ah lW;clear lW
    have FM:=ah kP;clear kP
    have FR:=ah lX;clear lX
    go_wp2
    go_ret
    refine⟨_,rfl,?_⟩
    have e:=HO.out.app (cs:=[UInt8.ofNat n]) OW.out (by simp[wX]) FM.out FR.out
    rw[←qB hlt,rY.out]at e
    exact e
   ·obtain⟨b,hb⟩:∃b:UInt8,b=UInt8.ofNat (n%128+128):=⟨_,rfl⟩
    have hbn:b.toNat=n%128+128:=by rw[hb,toNat_ofNat (by omega)]
    have hvb:=tN hlt
    rw[←hb]at hvb
    have HV:=ah hvb;clear hvb
    have hwr:IntKind.u64.wrap ((n:Int)/128)=(n:Int)/128:=IntWalk.u64_in _ (by have:=HN.out;omega)
    have HB:=ah hbn;clear hbn
    clear hb
    go_wp2_with(at_builtin;refine Jd _ rfl (.tmp 18) (.tmp 23) rfl _ _ cs HO.out.own b rfl rfl ?c1 ?c2 ?_)
    case c1=>rw[HB.out];omega
    case c2=>have:=HC.out;omega
    intro ad c w1 lW kP lX
    have OW:=ah lW;clear lW
    have FM:=ah kP;clear kP
    have FR:=ah lX;clear lX
    go_wp2
    go_roundw
    case rel=>
     have e:=HO.out.app (cs:=[b]) OW.out (by simp[wX]) FM.out FR.out
     have hs:=rY.out
     have hc:=HC.out
     rw[HV.out]at hs hc
     exact⟨n/128,cs++ [b],by go_num,by have:=HN.out;omega,by simp only[List.length_append,List.length_cons,List.length_nil]at hc⊢;omega,e,by rw[List.append_assoc];exact hs⟩
    case measure=>simp[intOf];omega
end Go.Proofs.YtabkpccdnkjoiaaGreat
namespace Go.Proofs.YtabkpccdnkjoiaaGreat
theorem yY (k:Nat):128^(k+1)=128^k*128:=Nat.pow_succ ..
theorem aaK (k:Nat):0<128^k:=Nat.pow_pos (by omega)
theorem SN {n k:Nat}:(vl n).drop k≠ []→(vl n).drop k=vl (n/128^k):=by
 induction k generalizing n with
 |zero=>intro _;simp
 |succ k ih=>
  intro h
  by_cases hn:n<128
  ·rw[qB hn]at h
   simp at h
  ·rw[tN hn]at h⊢
   rw[List.drop_succ_cons]at h⊢
   rw[ih h,yY,Nat.mul_comm,Nat.div_div_eq_div_mul]
def xP (bs:List UInt8) (k u:Nat):Prop:=∀m,1≤m→bs.take k++vl m=vl (u+m*128^k)
theorem xP.zero (bs:List UInt8):xP bs 0 0:=fun m _=>by simp
theorem aaL {c:UInt8} {m:Nat} (hc:128≤c.toNat) (hm:1≤m):c::vl m=vl (c.toNat%128+m*128):=by
 have hlt:=c.toNat_lt
 rw[tN (n:=c.toNat%128+m*128) (by omega)]
 have e1:(c.toNat%128+m*128)%128+128=c.toNat:=by omega
 have e2:(c.toNat%128+m*128)/128=m:=by omega
 rw[e1,e2]
 congr 1
 simp
theorem xP.step {bs:List UInt8} {k u:Nat} (h:xP bs k u) (hk:k<bs.length) (hc:128≤bs[k].toNat):xP bs (k+1) (u+bs[k].toNat%128*128^k):=by
 intro m hm
 rw[List.take_succ_eq_append_getElem hk,List.append_assoc,List.cons_append,List.nil_append,aaL hc hm,h _ (by omega),yY,Nat.add_mul]
 congr 1
 rw[Nat.add_assoc]
 congr 2
 rw[Nat.mul_assoc,Nat.mul_comm 128]
theorem xP.last {bs:List UInt8} {k u:Nat} (h:xP bs k u) (hk:k<bs.length) (hc:bs[k].toNat<128) (hz:1≤bs[k].toNat∨k=0) (h0:k=0→u=0):
 bs=vl (u+bs[k].toNat*128^k)++bs.drop (k+1):=by
 have e:bs.take (k+1)=vl (u+bs[k].toNat*128^k):=by
  rw[List.take_succ_eq_append_getElem hk]
  have hb: [bs[k]]=vl bs[k].toNat:=by rw[qB hc];simp
  rw[hb]
  rcases Nat.eq_zero_or_pos bs[k].toNat with hz0|hp
  ·rcases hz with h1|h1
   ·omega
   ·subst h1
    have:=h0 rfl
    subst this
    simp
  ·exact h _ hp
 rw[←e,List.take_append_drop]
theorem aaM {k u c:Nat} (hk:k≤9) (hu:u<128^k) (hc:c<128) (h9:k=9→c≤1):u+c*128^k<18446744073709551616:=by
 rcases Nat.lt_or_ge k 9 with h|h
 ·have h1:128^(k+1)≤128^9:=Nat.pow_le_pow_right (by omega) (by omega)
  have h2:c*128^k≤127*128^k:=Nat.mul_le_mul_right _ (by omega)
  rw[yY]at h1
  have h3:(128:Nat)^9=9223372036854775808:=by decide
  omega
 ·obtain rfl:k=9:=by omega
  have h3:(128:Nat)^9=9223372036854775808:=by decide
  rw[h3]at hu⊢
  have:=h9 rfl
  have h4:c*9223372036854775808≤1*9223372036854775808:=Nat.mul_le_mul_right _ this
  omega
theorem SQ {n k:Nat} {bs rest:List UInt8} (hb:bs=vl n++rest) (hn:n<18446744073709551616) (hk:k<(vl n).length):
 ∃h:k<bs.length,k≤9∧(k=9→bs[k].toNat≤1)∧bs[k].toNat%128=n/128^k%128∧
  (bs[k].toNat<128↔k+1=(vl n).length)∧(bs[k].toNat<128→n/128^k=bs[k].toNat∧(1≤bs[k].toNat∨k=0))∧(128≤bs[k].toNat→k+1<(vl n).length):=by
 subst hb
 have hl:=Bj hn
 have hd:(vl n).drop k≠ []:=fun e=>by
  have:=congrArg List.length e
  simp at this;omega
 have he:=SN hd
 have hlen:(vl n).length-k=(vl (n/128^k)).length:=by rw[←he,List.length_drop]
 have hk':k<(vl n++rest).length:=by rw[List.length_append];omega
 have hg:(vl n++rest)[k]=(vl n)[k]:=List.getElem_append_left hk
 have hh:(vl n)[k]?=(vl (n/128^k))[0]?:=by rw[←he];simp
 rw[List.getElem?_eq_getElem hk]at hh
 have hmod:=Nat.mod_lt (n/128^k) (show 0<128 by omega)
 refine⟨hk',by omega,?_⟩
 rw[hg]
 by_cases hs:n/128^k<128
 ·rw[qB hs]at hh hlen
  simp only[List.getElem?_cons_zero,Option.some.injEq]at hh
  have ht:(vl n)[k].toNat=n/128^k:=by rw[hh,toNat_ofNat (by omega)]
  rw[ht]
  simp only[List.length_cons,List.length_nil]at hlen
  refine⟨fun h9=>?_,by omega,by omega,fun _=>⟨rfl,?_⟩,by omega⟩
  ·subst h9
   have h3:(128:Nat)^9=9223372036854775808:=by decide
   rw[h3];omega
  ·rcases Nat.eq_zero_or_pos k with h0|h0
   ·exact .inr h0
   ·left
    obtain⟨j,rfl⟩:∃j,k=j+1:=⟨k-1,by omega⟩
    have hd':(vl n).drop j≠ []:=fun e=>by
     have:=congrArg List.length e
     simp at this;omega
    have hj:=SN hd'
    have hlj:(vl n).length-j=(vl (n/128^j)).length:=by rw[←hj,List.length_drop]
    have hbig:¬n/128^j<128:=fun hs'=>by
     rw[qB hs']at hlj;simp at hlj;omega
    rw[yY,←Nat.div_div_eq_div_mul]
    omega
 ·rw[tN hs]at hh hlen
  simp only[List.getElem?_cons_zero,Option.some.injEq]at hh
  have ht:(vl n)[k].toNat=n/128^k%128+128:=by rw[hh,toNat_ofNat (by omega)]
  rw[ht]
  simp only[List.length_cons]at hlen
  have hp:=Jc (n/128^k/128)
  refine⟨fun h9=>?_,by omega,by omega,by omega,by omega⟩
  subst h9
  have h3:(128:Nat)^9=9223372036854775808:=by decide
  rw[h3]at hs;omega
theorem SS (n k:Nat):n%128^k+n/128^k%128*128^k=n%128^(k+1):=by
 rw[yY,Nat.mod_mul,Nat.mul_comm (128^k)]
theorem aaN (n k:Nat):n%128^k+n/128^k*128^k=n:=by
 rw[Nat.add_comm,Nat.mul_comm];exact Nat.div_add_mod n (128^k)
def qC (n:Nat):Int:=if n%2=0 then(n/2:Nat)else-((n/2:Nat):Int)-1
theorem Je (v:Int):qC (zz v)=v:=by unfold qC zz;split<;>split<;>omega
theorem aaO (n:Nat):zz (qC n)=n:=by unfold qC zz;split<;>split<;>omega
theorem SX {n:Nat} (h:n<18446744073709551616):-9223372036854775808≤qC n∧qC n≤9223372036854775807:=by unfold qC;split<;>omega
theorem SY (n:Nat):bG (qC n)=vl n:=by unfold bG;rw[aaO]
def lY (v:Int):Prop:=-9223372036854775808≤v∧v≤9223372036854775807
def Begins (bs:List UInt8) (v:Int) (rest:List UInt8):Prop:=lY v∧bs=bG v++rest
theorem Begins.unique {bs r s:List UInt8} {v u:Int} (h:Begins bs v r) (k:Begins bs u s):v=u∧r=s:=lF (h.2.symm.trans k.2)
theorem Begins.aaP {bs r:List UInt8} {n:Nat} (hn:n<18446744073709551616) (h:bs=vl n++r):Begins bs (qC n) r:=⟨SX hn,by rw[SY];exact h⟩
theorem Begins.vl {bs r:List UInt8} {v:Int} (h:Begins bs v r):zz v<18446744073709551616∧bs=vl (zz v)++r:=⟨Di h.1.1 h.1.2,h.2⟩
def Jf (bs:List UInt8):Prop:=∀v r,¬Begins bs v r
open Go.RowKit
theorem oM {w:World} {b:Nat} {cs:Array Value} {t:TypeId} {f:Nat×Nat} (h:w.heap[b]?=some (.cells cs t f)) (j:Nat) {u:Value} (hu:cs[j]?=some u):w.cell? ⟨b,j,none⟩=some u:=
 (cell_of_row w b j cs t f h).trans hu
theorem free_at {w:World} {b:Nat} {cs:Array Value} {t:TypeId} (h:w.heap[b]?=some (.cells cs t (0,0))) (j:Nat):w.frozen? ⟨b,j,none⟩=false:=by simp[World.frozen?,h]
theorem Jg {w:World} {b:Nat} {cs:Array Value} {t:TypeId} {f:Nat×Nat} (h:w.heap[b]?=some (.cells cs t f)) (j:Nat) (u:Value):(w.setCell ⟨b,j,none⟩ u).heap[b]?=some (.cells (cs.setIfInBounds j u) t f):=by
 simp only[World.setCell,Array.getElem?_modify,if_true,h,Option.map_some]
 rfl
def Only (b k:Nat):Prop:=k=b
def fK (_:Nat):Prop:=False
theorem dG (w:World) (b j:Nat) (u:Value):aj (Only b) w (w.setCell ⟨b,j,none⟩ u):=aj.setCell (S:=Only b) w (p:=⟨b,j,none⟩) (.inl (show Only b b from rfl)) u
structure uM (w:World) (ib:Nat) (v:Value) (bs:List UInt8):Prop where
 cells:w.heap[ib]?=some (.cells #[v, .bool false] 195 (0,0))
 rd:Rd w v bs.length (bV bs)
 apart:v.ownBlock≠some ib
def Dk (w:World) (ib:Nat):Prop:=w.heap[ib]?=some (.cells #[.slice none 0 0, .bool true] 195 (0,0))
def dJ (w:World) (ib:Nat):Option (List UInt8)→Prop
 |none=>Dk w ib
 |some bs=>∃v,uM w ib v bs∧∀k,v.ownBlock=some k→k<ib
def leftOf:Option (List UInt8)→List UInt8
 |none=> []
 |some bs=>bs
theorem uM.keep {w w':World} {ib:Nat} {v:Value} {bs:List UInt8} (h:uM w ib v bs) {S:Nat→Prop} (f:aj S w w') (h1:¬S ib) (h2:∀k,v.ownBlock=some k→¬S k):uM w' ib v bs:=
 ⟨f.blk h.cells h1,h.rd.keep f h2,h.apart⟩
theorem pG (ib:Nat) (v:Value) (b:Bool) (w:World) (h:w.heap[ib]?=some (.cells #[v, .bool b] 195 (0,0))):
 Calls Tryz.prog 123 #[.pointer (some ⟨ib,0,none⟩)] w fun e w'=>e= .returned (.tuple #[])∧Dk w' ib∧aj (Only ib) w w':=by
 have c0:=oM h 0 rfl
 have c1:=oM h 1 rfl
 have f0:=free_at h 0
 have f1:=free_at h 1
 have HH:=ah h;clear h
 go_enter Tryz.func123,Tryz.ntmps123
 go_wp2
 go_end0
 refine⟨rfl,?_,?_⟩
 ·have:=Jg (Jg HH.out 0 (.slice none 0 0)) 1 (.bool true)
  unfold Dk
  simpa using this
 ·exact(dG w ib 0 _).trans (dG _ ib 1 _) fun _ _ h=>h
theorem xQ {w:World} {v:Value} {n:Nat} {xs:List Value} (h:Rd w v n xs):∃a c,v= .slice a n c:=by
 rcases h with⟨ad,rfl,rfl,_⟩|⟨b,off,c,rfl,_⟩
 ·exact⟨ad,0,rfl⟩
 ·exact⟨_,c,rfl⟩
theorem dJ.heap {w:World} {ib:Nat} {st:Option (List UInt8)} (h:dJ w ib st):∃a c,w.heap[ib]?=some (.cells #[.slice a (leftOf st).length c, .bool st.isNone] 195 (0,0)):=by
 cases st with
 |none=>exact⟨none,0,h⟩
 |some bs=>
  obtain⟨v,hv,_⟩:=h
  obtain⟨a,c,rfl⟩:=xQ hv.rd
  exact⟨a,c,hv.cells⟩
theorem S_ (ib:Nat) (st:Option (List UInt8)) (w:World) (h:dJ w ib st):
 Calls Tryz.prog 223 #[.pointer (some ⟨ib,0,none⟩)] w fun e w'=>e= .returned (.int .i64 (leftOf st).length)∧w=w':=by
 obtain⟨a,c,hh⟩:=h.heap
 have c0:=oM hh 0 rfl
 clear h hh
 go_enter Tryz.func223,Tryz.ntmps223
 go_wp2
 go_ret
 exact⟨rfl,rfl⟩
theorem oN (ib:Nat) (st:Option (List UInt8)) (w:World) (h:dJ w ib st):
 Calls Tryz.prog 58 #[.pointer (some ⟨ib,0,none⟩)] w fun e w'=>e= .returned (.bool st.isNone)∧w=w':=by
 obtain⟨a,c,hh⟩:=h.heap
 generalize st.isNone=bd at*
 have c1:=oM hh 1 rfl
 clear h hh
 go_enter Tryz.func58,Tryz.ntmps58
 go_wp2
 go_ret
 exact⟨rfl,rfl⟩
def nO:Option (List UInt8)→Bool
 |none=>false
 |some bs=>bs.length==0
theorem Dl (ib:Nat) (st:Option (List UInt8)) (w:World) (h:dJ w ib st):
 Calls Tryz.prog 61 #[.pointer (some ⟨ib,0,none⟩)] w fun e w'=>e= .returned (.bool (nO st))∧w=w':=by
 cases st with
 |none=>
  have c0:=oM (show w.heap[ib]?=_ from h) 0 rfl
  have c1:=oM (show w.heap[ib]?=_ from h) 1 rfl
  clear h
  go_enter Tryz.func61,Tryz.ntmps61
  go_wp2
  go_ret
  exact⟨rfl,rfl⟩
 |some bs=>
  obtain⟨v,hv,_⟩:=h
  obtain⟨a,c,rfl⟩:=xQ hv.rd
  have c0:=oM hv.cells 0 rfl
  have c1:=oM hv.cells 1 rfl
  clear hv
  by_cases h0:bs.length=0
  ·have hd:((bs.length:Int)==0)=true:=by simp[h0]
   have he:nO (some bs)=true:=by simp[nO,h0]
   rw[he]
   clear he h0
   go_enter Tryz.func61,Tryz.ntmps61
   go_wp2
   go_ret
   exact⟨rfl,rfl⟩
  ·have hd:((bs.length:Int)==0)=false:=beq_false_of_ne (by omega)
   have he:nO (some bs)=false:=by simp[nO];simpa using h0
   rw[he]
   clear he h0
   go_enter Tryz.func61,Tryz.ntmps61
   go_wp2
   go_ret
   exact⟨rfl,rfl⟩
theorem aaQ (v:Value) (bs:List UInt8) (w:World) (h:Rd w v bs.length (bV bs)) (hl:bs.length≤140737488355328):
 Calls Tryz.prog 55 #[v] w fun e w'=>∃ib,e= .returned (.pointer (some ⟨ib,0,none⟩))∧dJ w' ib (some bs)∧w.heap.size≤ib∧aj fK w w':=by
 have hc:=clone_any w v bs h hl
 have HC:=ah hc;clear hc
 clear h
 go_enter Tryz.func55,Tryz.ntmps55
 go_wp2_with(go_at_call 121;refine HC.out.mono ?_)
 rintro e w1 ⟨v1,rfl,hcp⟩
 obtain⟨a,c,rfl⟩:=hcp.shape
 have HP:=ah hcp;clear hcp
 go_wp2
 go_ret
 refine⟨_,rfl,⟨_,⟨heap_alloc_new w1 _,?_,?_⟩,?_⟩,HP.out.aH.size,HP.out.aH.trans (aj.alloc fK w1 _) fun _ _ h=>h⟩
 ·exact HP.out.rd.keep (aj.alloc fK w1 _) fun _ _ h=>h
 ·intro e
  have:=HP.out.own.lt _ e
  omega
 ·intro k e
  exact(HP.out.own.lt _ e).2
end Go.Proofs.YtabkpccdnkjoiaaGreat
