/- Words for the law ShSet: Leaf, R8d, R8e, SmallT, R8c. -/
import Derived.Test.YtlhmbkjdfjoilaaGreatShSetG0
import Derived.Test.YtlhmbkjdfjoilaaGreatShSetG7
import Derived.Test.YtlhmbkjdfjoilaaGreatShSetG8
import Derived.Test.YtlhmbkjdfjoilaaGreatShSetG9
import Derived.Test.YtlhmbkjdfjoilaaGreatShSetG10
set_option linter.unusedSimpArgs false
set_option linter.unusedVariables false
set_option maxHeartbeats 32000000
set_option maxRecDepth 1000000
namespace Go.Proofs.YtlhmbkjdfjoilaaGreat
open Go.RowKit
abbrev kN:=List (Value×aG)
def kD (l:kN):List Value:=l.flatMap fun x=>x.1::x.2.cells
def lT (p:Value) (es:List aG):kN:=es.map fun e=>(p,e)
def kY (l:kN):aS:=l.map fun x=>(x.2.dc,x.2.n)
def pV (l:kN):Prop:=∀x∈l,x.1.oneCell'=true
theorem AQ (a b:kN):kD (a++b)=kD a++kD b:=by simp[kD]
theorem MF (x:Value×aG) (l:kN):kD (x::l)=x.1:: .int .i64 x.2.dc:: .int .i64 x.2.n:: .string x.2.s:: .int .i64 x.2.k::kD l:=rfl
theorem AU:∀l:kN,(kD l).length=l.length*5
 |[]=>rfl
 |x::l=>by rw[MF];simp only[List.length_cons,AU l];omega
theorem Fe {l:kN} (h:pV l):∀v∈kD l,v.oneCell'=true:=by
 intro v hv
 simp only[kD,List.mem_flatMap]at hv
 obtain⟨x,hx,hv⟩:=hv
 rcases List.mem_cons.1 hv with rfl|hv
 ·exact h x hx
 ·simp[aG.cells]at hv
  rcases hv with rfl|rfl|rfl|rfl<;>rfl
theorem MG:∀(l:kN) (k:Nat),k<l.length→(kD l)[k*5+1]?=some (.int .i64 (l.getD k (.bool true,aG.zero)).2.dc)∧(kD l)[k*5+2]?=some (.int .i64 (l.getD k (.bool true,aG.zero)).2.n)
 |[],_,h=>by cases h
 |x::l,0,_=>⟨rfl,rfl⟩
 |x::l,k+1,h=>by
  obtain⟨h1,h2⟩:=MG l k (by simpa using h)
  rw[MF,show(k+1)*5+1=(k*5+1)+1+1+1+1+1 by omega,show(k+1)*5+2=(k*5+2)+1+1+1+1+1 by omega]
  exact⟨h1,h2⟩
theorem VZ {w:World} {b off c n:Nat} {l:kN} (h:Rd w (.slice (some ⟨b,off,none⟩) n c) n (kD l)) (k:Nat) (hk:k<l.length):
 w.cell? ⟨b,off+k*5+1,none⟩=some (.int .i64 (l.getD k (.bool true,aG.zero)).2.dc)∧w.cell? ⟨b,off+k*5+2,none⟩=some (.int .i64 (l.getD k (.bool true,aG.zero)).2.n):=by
 obtain⟨h1,h2⟩:=MG l k hk
 exact⟨h.cell (k*5+1) _ h1,h.cell (k*5+2) _ h2⟩
theorem V_ {l:kN} {k:Nat} (hk:k<l.length):kY (l.take (k+1))=kY (l.take k)++ [((l.getD k (.bool true,aG.zero)).2.dc,(l.getD k (.bool true,aG.zero)).2.n)]:=by
 rw[take_succ (.bool true,aG.zero) hk];simp[kY]
theorem Fg (a b:kN):kY (a++b)=kY a++kY b:=by simp[kY]
theorem qN (l:kN):(kY l).length=l.length:=by simp[kY]
theorem Wh (p:Value) (es:List aG):kY (lT p es)=jR es:=by simp[kY,lT,jR]
theorem Wi (p:Value) (es:List aG):(lT p es).length=es.length:=by simp[lT]
theorem pV.lT {p:Value} (h:p.oneCell'=true) (es:List aG):pV (lT p es):=fun x hx=>by
 obtain⟨e,_,rfl⟩:=List.mem_map.1 hx
 exact h
theorem pV.append {a b:kN} (ha:pV a) (hb:pV b):pV (a++b):=fun x hx=>(List.mem_append.1 hx).elim (ha x) (hb x)
theorem Wj {p:Value} {es:List aG} {k:Nat} (hk:k<es.length):kD (lT p (es.take (k+1)))=kD (lT p (es.take k))++ [p, .int .i64 (es.getD k aG.zero).dc, .int .i64 (es.getD k aG.zero).n, .string (es.getD k aG.zero).s, .int .i64 (es.getD k aG.zero).k]:=by
 rw[take_succ aG.zero hk,show lT p (es.take k++ [es.getD k aG.zero])=lT p (es.take k)++ [(p,es.getD k aG.zero)] by simp[lT],AQ]
 rfl
def kP (l:List ByteArray):List Value:=l.map .string
theorem Fh (a b:List ByteArray):kP (a++b)=kP a++kP b:=by simp[kP]
@[simp] theorem Fj (l:List ByteArray):(kP l).length=l.length:=by simp[kP]
theorem Fp (l:List ByteArray):∀v∈kP l,v.oneCell'=true:=by
 intro v hv
 simp only[kP,List.mem_map]at hv
 obtain⟨r,_,rfl⟩:=hv
 rfl
theorem Wn:(Tryz.prog.info? 103).map (fun i=>(i.zero,i.size,i.bytes))=some (some (.agg #[.slice none 0 0, .int .i64 0, .int .i64 0, .string ByteArray.empty, .int .i64 0]),5,64):=by kernel_rfl
theorem Wp:(Tryz.prog.info? 9).map (fun i=>(i.zero,i.size,i.bytes))=some (some (.string ByteArray.empty),1,16):=by kernel_rfl
open Go.RowKit
def MH (w:World) (es:List aG) (ks:aH) (e:Ending) (w':World):Prop:=
 ∃(v':Value) (l:kN),e= .returned v'∧OwnAt w w' 103 5 v' l.length (kD l)∧kY l=dX es ks∧pV l
theorem Wq (Q:Nat→Prop):∀(N:Nat) (es:List aG) (ks:aH) (w:World) (ev kv pv:Value) (pl:List ByteArray),dF ks<N→bC Q w ev kv es ks→sizeT es ks≤100000→Rd w pv pl.length (kP pl)→pl.length+N≤200000→
 Calls Tryz.prog 50 #[.agg #[ev,kv],pv] w (MH w es ks):=by
 intro N
 induction N with
 |zero=>intros;exfalso;omega
 |succ N gG=>
  intro es ks w ev kv pv pl hN ht hsz hp hpl
  obtain⟨i0,hi,hz0,hz1,hz2⟩:=info_parts Wn
  obtain⟨j0,hji,hy0,hy1,hy2⟩:=info_parts Wp
  obtain⟨ae,ce,rfl⟩:=ht.ents.rd.sl
  obtain⟨os,hkr,dU⟩:=ht.kids
  obtain⟨ak,ck,rfl⟩:=hkr.rd.sl
  obtain⟨ap,cp,rfl⟩:=hp.sl
  have HP:=ah hp;clear hp
  have HE:=ah ht.ents.rd
  have fH:=ah hkr.rd;clear hkr ht
  have jH:=ah dU;clear dU
  have IH:=ah gG;clear gG
  have bT:=ah (aj.alloc au w (.cells #[.slice ae es.length ce, .slice ak ks.len ck] 28))
  have box0:(w.alloc (.cells #[.slice ae es.length ce, .slice ak ks.len ck] 28)).cell? ⟨w.heap.size,0,none⟩=some (.slice ae es.length ce):=aI (heap_alloc_new w _) 0 rfl
  have box1:(w.alloc (.cells #[.slice ae es.length ce, .slice ak ks.len ck] 28)).cell? ⟨w.heap.size,1,none⟩=some (.slice ak ks.len ck):=aI (heap_alloc_new w _) 1 rfl
  have B0:=ah box0;clear box0
  have B1:=ah box1;clear box1
  have mP:=ah (Nat.le_trans (zC es ks) hsz)
  have ru:es.length≤100000:=by unfold sizeT at hsz;omega
  have IG:ks.len≤100000:=by have:=kV ks;unfold sizeT at hsz;omega
  have jS:=ah hsz;clear hsz
  have lH:=ah hN;clear hN
  have hq5:pl.length≤200000:=by omega
  have lu:=ah hpl;clear hpl
  generalize hes:es.length=n at*
  have HN:=ah hes;clear hes
  generalize hkl:ks.len=m at*
  have HM:=ah hkl;clear hkl
  generalize MI:pl.length=q at*
  have HQ:=ah MI;clear MI
  go_enter Tryz.func50,Tryz.ntmps50
  go_wp2_with fail
  have b0:=B0.out
  go_wp2
  clear b0
  go_loopw [5,12] (fun v i ww=>∃k:Nat,k≤n∧i= .int .i64 k∧OwnAt (w.alloc (.cells #[.slice ae n ce, .slice ak m ck] 28)) ww 103 5 v k (kD (lT (.slice ap q cp) (es.take k)))) (fun _ i _=>n-(intOf i).toNat)
  case atStart=>exact⟨0,Nat.zero_le _,rfl,OwnAt.nil (aj.refl _ _) _ _⟩
  case round=>
   obtain⟨k,hk,rfl,ho⟩:=hrel
   obtain⟨av,cv,rfl⟩:=ho.shape
   have HO:=ah ho;clear ho
   by_cases hlt:k<n
   ·rcases Rd.shape HE.out with⟨ad,he,h0⟩|⟨b,off,cc,he,hmax⟩
    ·exfalso;have:=HN.out;omega
    ·injection he with e1 e2 e3
     subst e1 e3
     clear e2
     have hlk:k<es.length:=by rw[HN.out];exact hlt
     obtain⟨p0,p1,p2,p3⟩:=nJ HE.out k hlk
     have f2:=bT.out.aF HO.out.aJ
     have q0:=f2.cell' p0 id
     have q1:=f2.cell' p1 id
     have q2:=f2.cell' p2 id
     have q3:=f2.cell' p3 id
     have b0:=HO.out.aJ.cell' B0.out id
     clear p0 p1 p2 p3 f2
     have hE:=Wj (p:= .slice ap q cp) hlk
     generalize es.getD k aG.zero=e at*
     have sS:=ah hE;clear hE
     go_wp2_with(at_builtin;refine jF _ _ [.slice ap q cp, .int .i64 e.dc, .int .i64 e.n, .string e.s, .int .i64 e.k] rfl (.tmp 15) (.tmp 23) 50 rfl 103 i0 _ 5 64 Tryz.underlying50 hi hz0 hz1 hz2 (by decide) (by decide) _ _ _ HO.out 1 1 rfl (by simp[Act.eval]) rfl (by simp[Value.oneCell']) (by simp only[maxLen];omega) (by omega) ?_;intro zk iU w2 bI;have OW:=ah bI;clear bI)
     go_roundw
     case rel=>exact⟨k+1,by omega,by go_num,by rw[sS.out];exact OW.out⟩
     case measure=>simp[intOf];omega
   ·obtain rfl:n=k:=by omega
    rw[List.take_of_length_le (by rw[HN.out];exact Nat.le_refl _)]at HO
    have b1:=HO.out.aJ.cell' B1.out id
    go_wp2
    clear b1
    go_loopw [5,29] (fun v i ww=>∃(k:Nat) (l:kN),k≤m∧i= .int .i64 k∧OwnAt (w.alloc (.cells #[.slice ae n ce, .slice ak m ck] 28)) ww 103 5 v l.length (kD l)∧dX es ks=kY l++gB (ks.drop k)∧pV l) (fun _ i _=>m-(intOf i).toNat)
    case atStart=>exact⟨0,lT (.slice ap q cp) es,Nat.zero_le _,rfl,by rw[Wi,HN.out];exact HO.out,by rw[Wh];rfl,pV.lT rfl es⟩
    case round=>
     obtain⟨k,l,hk,rfl,ho,hd,hone⟩:=hrel
     obtain⟨av,cv,rfl⟩:=ho.shape
     have dQ:=ah ho;clear ho
     have HD:=ah hd;clear hd
     have oU:=ah hone;clear hone
     by_cases hlt:k<m
     ·obtain⟨key,es',sub,rest,hdr⟩:=aH.nI (n:=k) (ks:=ks) (by rw[HM.out];exact hlt)
      rcases Rd.shape fH.out with⟨ad,he,h0⟩|⟨b,off,cc,he,hmax⟩
      ·exfalso;have:=HM.out;omega
      ·injection he with e1 e2 e3
       subst e1 e3
       clear e2
       have f2:=bT.out.aF dQ.out.aJ
       obtain⟨ev',kv',c0,c1,c2,hta⟩:=lG (fH.out.aN f2) (jH.out.aN f2) hdr
       obtain⟨dI,dJ,rfl⟩:=hta.ents.rd.sl
       obtain⟨os',fC,jA⟩:=hta.kids
       obtain⟨dK,dL,rfl⟩:=fC.rd.sl
       clear fC jA
       have hpr:=HP.out.aN f2
       have qL:=ah hpr;clear hpr f2
       have b1:=dQ.out.aJ.cell' B1.out id
       have sU:=ah (IE hdr)
       have eF:=ah (qx k hdr)
       have HST:=ah (q_ k hdr)
       have iF:=ah hta;clear hta
       have HIH:=ah (fun w' (h:aj au wr w') pv (hpv:Rd w' pv (pl++ [key]).length (kP (pl++ [key])))=>IH.out es' sub w' _ _ pv (pl++ [key]) (by have:=eF.out;have:=lH.out;omega) (iF.out.aN h) (by have:=HST.out;have:=jS.out;unfold sizeT at*;omega) hpv (by have:=lu.out;have:=HQ.out;simp;omega))
       have hlen:l.length+(dX es' sub).length≤100000:=by
        have h1:=mP.out
        rw[HD.out,sU.out,List.length_append,List.length_append,qN]at h1
        omega
       have HLEN:=ah hlen;clear hlen
       clear hdr
       generalize es'.length=n' at*
       generalize sub.len=m' at*
       go_wp2_with fail
       refine iY (S:=fun w'=>w'.cell? ⟨w.heap.size,1,none⟩=some (.slice (some ⟨b,off,none⟩) m ck)∧w'.cell? ⟨b,off+k*3,none⟩=some (.string key)) 11 (by kernel_rfl) ⟨b1,c0⟩ ?_
       intro hS
       have jD:aj au wr wr.drew:=aj.drew _ _
       have XQ:=ah jD
       generalize wr.drew=Y at*
       refine aT 1 33 rfl rfl (v:=?_) (.inl ⟨by rfl,?_⟩) ?_
       rotate_left 1
       ·(intro w hSw;(try dsimp only at hSw);go_simp;(try with_reducible rfl))
       refine aT 3 35 rfl rfl (v:=?_) (.inl ⟨by rfl,?_⟩) ?_
       rotate_left 1
       ·(intro w hSw;(try dsimp only at hSw);go_simp;(try with_reducible rfl))
       try simp only[Act.put,aP,aQ,aO]
       refine aT 4 36 rfl rfl (v:=?_) (.inl ⟨by rfl,?_⟩) ?_
       rotate_left 1
       ·(intro w hSw;(try dsimp only at hSw);go_simp;(try with_reducible rfl))
       refine aT 5 37 rfl rfl (v:=?_) (.inl ⟨by rfl,?_⟩) ?_
       rotate_left 1
       ·(intro w hSw;(try dsimp only at hSw);go_simp;(try with_reducible rfl))
       try simp only[Act.put,aP,aQ,aO]
       refine aT 6 38 rfl rfl (v:=?_) (.inl ⟨by rfl,?_⟩) ?_
       rotate_left 1
       ·(intro w hSw;(try dsimp only at hSw);go_simp;(try with_reducible rfl))
       refine aT 7 39 rfl rfl (v:=?_) (.inl ⟨by rfl,?_⟩) ?_
       rotate_left 1
       ·(intro w hSw;(try dsimp only at hSw);go_simp;(try with_reducible rfl))
       try simp only[Act.put,aP,aQ,aO]
       refine aT 8 40 rfl rfl (v:=?_) (.inl ⟨by rfl,?_⟩) ?_
       rotate_left 1
       ·(intro w hSw;(try dsimp only at hSw);go_simp;(try with_reducible rfl))
       try simp only[Act.put,aP,aQ,aO]
       refine vF (i:=0) (j:=9) (by kernel_rfl) rfl rfl (fun K hK=>?_) (fun K hK=>?_)
       ·go_simp
        have hfA:aj au Y (Y.alloc (.cells #[] 9)):=aj.alloc _ _ _
        have hE:OwnAt wr (Y.alloc (.cells #[] 9)) 9 1 (.slice (some ⟨Y.heap.size,0,none⟩) 0 0) 0 []:=OwnAt.empty jD _ _
        have hS:(Y.alloc (.cells #[] 9)).cell? ⟨w.heap.size,1,none⟩=some (.slice (some ⟨b,off,none⟩) m ck)∧(Y.alloc (.cells #[] 9)).cell? ⟨b,off+k*3,none⟩=some (.string key):=⟨hfA.cell' hS.1 id,hfA.cell' hS.2 id⟩
        have jD:=jD.aF hfA
        (try have hne:kb≠Y.heap.size:=by have:=hkb;omega)
        (try have jf:=jf.aN hfA)
        refine hK.out _ _ hS ?_
        clear hK K hfA
        obtain⟨eb,heb⟩:∃eb,Y.heap.size=eb:=⟨_,rfl⟩
        rw[heb]at hE⊢
        have uh:eb<(Y.alloc (.cells #[] 9)).heap.size:=by rw[←heb];simp
        (try rw[heb]at hne)
        clear heb
        generalize Y.alloc (.cells #[] 9)=Y at*
        try simp only[Act.put,aP,aQ,aO]
        refine vF (i:=2) (j:=9) (by kernel_rfl) rfl rfl (fun K hK=>?_) (fun K hK=>?_)
        ·refine vG wr Y (kP pl) rfl (.tmp 32) (.tmp 33) 101 101 rfl 9 9 j0 _ 1 16 Tryz.underlying101 Tryz.underlying101 hji hy0 hy1 hy2 (by decide) (by decide) _ 0 [] hE _ q (by simp[Act.eval]) (by simp[Act.eval]) (qL.out.aN jD) (by rw[Fj,HQ.out];omega) (Fp _) (by simp only[maxLen];omega) (by omega) ?_
         intro MJ zn Y2 hP rY yC
         rw[Nat.zero_add]at hP
         rw[List.nil_append]at hP
         have hS:Y2.cell? ⟨w.heap.size,1,none⟩=some (.slice (some ⟨b,off,none⟩) m ck)∧Y2.cell? ⟨b,off+k*3,none⟩=some (.string key):=⟨hP.aJ.cell' b1 id,hP.aJ.cell' c0 id⟩
         have jD:=hP.aJ
         (try have jf:=jf.keep rY (fun x hx hr=>by simp[dh,Value.ownBlock]at hx hr;omega))
         rw[Nat.zero_add]
         refine hK.out _ _ hS ?_
         clear hK K rY yC hE uh
         generalize Y2=Y at*
         try simp only[Act.put,aP,aQ,aO]
         refine bP (i:=9) (by kernel_rfl) rfl (fun K hK=>?_)
         go_simp
         have hfA:aj au Y (Y.alloc (.cells #[.string key] 9)):=aj.alloc _ _ _
         have hS:(Y.alloc (.cells #[.string key] 9)).cell? ⟨w.heap.size,1,none⟩=some (.slice (some ⟨b,off,none⟩) m ck)∧(Y.alloc (.cells #[.string key] 9)).cell? ⟨b,off+k*3,none⟩=some (.string key):=⟨hfA.cell' hS.1 id,hfA.cell' hS.2 id⟩
         have jD:=jD.aF hfA
         (try have hne:Y.heap.size≠eb:=by have:=uh;omega)
         (try have hE:=hE.keep hfA)
         (try have hP:=hP.keep hfA)
         have jf:Rd (Y.alloc (.cells #[.string key] 9)) (.slice (some ⟨Y.heap.size,0,none⟩) 1 1) 1 [.string key]:= .inr ⟨Y.heap.size,0,1,rfl,Nat.le_refl _,by decide,fun j u hu=>by rw[Nat.zero_add];exact aI (heap_alloc_new Y _) j (by simpa using hu)⟩
         refine hK.out _ _ hS ?_
         clear hK K hfA
         obtain⟨kb,lU⟩:∃kb,Y.heap.size=kb:=⟨_,rfl⟩
         rw[lU]at jf⊢
         have hkb:kb<(Y.alloc (.cells #[.string key] 9)).heap.size:=by rw[←lU];simp
         (try rw[lU]at hne)
         clear lU
         generalize Y.alloc (.cells #[.string key] 9)=Y at*
         try simp only[Act.put,aP,aQ,aO]
         refine bP (i:=10) (by kernel_rfl) rfl (fun K hK=>?_)
         refine vG wr Y [.string key] rfl (.tmp 34) (.tmp 41) 101 101 rfl 9 9 j0 _ 1 16 Tryz.underlying101 Tryz.underlying101 hji hy0 hy1 hy2 (by decide) (by decide) _ q (kP pl) hP _ 1 (by simp[Act.eval]) (by simp[Act.eval]) jf rfl (by simp[Value.oneCell']) (by simp only[maxLen];omega) (by omega) ?_
         intro MK ML Y3 lV yD yE
         have hS:Y3.cell? ⟨w.heap.size,1,none⟩=some (.slice (some ⟨b,off,none⟩) m ck)∧Y3.cell? ⟨b,off+k*3,none⟩=some (.string key):=⟨lV.aJ.cell' b1 id,lV.aJ.cell' c0 id⟩
         refine hK.out _ _ hS ?_
         clear hK K yD yE hP
         have jq:=ah lV;clear lV
         try simp only[Act.put,aP,aQ,aO]
         refine iK (by kernel_rfl) (by kernel_rfl) rfl (fun K hK=>?_)
         go_simp
         refine hK.out _ _ ?_
         clear hK K jf hS
         have c1:=jq.out.aJ.cell' c1 id
         have c2:=jq.out.aJ.cell' c2 id
         have b1:=jq.out.aJ.cell' b1 id
         go_wp2_with(first
          |(go_at_call 50;refine(HIH.out _ jq.out.aJ _ (by have:=jq.out.rd;rw[Fh,List.length_append,HQ.out];exact this)).mono ?_;rintro e w3 ⟨v3,l3,rfl,ho3,hd3,oC⟩;obtain⟨a3,c3,rfl⟩:=ho3.shape;have bJ:=ah ho3;clear ho3;have HD3:=ah hd3;clear hd3;have rZ:=ah oC;clear oC;have HKK:=ah (dQ.out.keep (jq.out.aJ.aF bJ.out.aJ)))
          |(at_builtin;refine mD _ _ _ rfl (.tmp 43) (.tmp 51) 50 50 rfl 103 103 i0 _ 5 64 Tryz.underlying50 Tryz.underlying50 hi hz0 hz1 hz2 (by decide) (by decide) _ _ _ HKK.out _ l3.length rfl rfl bJ.out.rd (by rw[AU]) (Fe rZ.out) (by have:=HLEN.out;rw[←HD3.out,qN]at this;simp only[maxLen];omega) (by have:=HLEN.out;rw[←HD3.out,qN]at this;omega) ?_;intro MN Fq w5 dw;have OW:=ah dw;clear dw))
         go_roundw
         case rel=>exact⟨k+1,l++l3,by omega,by go_num,by rw[List.length_append,AQ];exact OW.out,by rw[HD.out,sU.out,Fg,HD3.out,List.append_assoc],oU.out.append rZ.out⟩
         case measure=>simp[intOf];omega
        ·go_simp
         have hfA:aj au Y (Y.alloc (.cells #[.string key] 9)):=aj.alloc _ _ _
         have hS:(Y.alloc (.cells #[.string key] 9)).cell? ⟨w.heap.size,1,none⟩=some (.slice (some ⟨b,off,none⟩) m ck)∧(Y.alloc (.cells #[.string key] 9)).cell? ⟨b,off+k*3,none⟩=some (.string key):=⟨hfA.cell' hS.1 id,hfA.cell' hS.2 id⟩
         have jD:=jD.aF hfA
         (try have hne:Y.heap.size≠eb:=by have:=uh;omega)
         (try have hE:=hE.keep hfA)
         (try have hP:=hP.keep hfA)
         have jf:Rd (Y.alloc (.cells #[.string key] 9)) (.slice (some ⟨Y.heap.size,0,none⟩) 1 1) 1 [.string key]:= .inr ⟨Y.heap.size,0,1,rfl,Nat.le_refl _,by decide,fun j u hu=>by rw[Nat.zero_add];exact aI (heap_alloc_new Y _) j (by simpa using hu)⟩
         refine hK.out _ _ hS ?_
         clear hK K hfA
         obtain⟨kb,lU⟩:∃kb,Y.heap.size=kb:=⟨_,rfl⟩
         rw[lU]at jf⊢
         have hkb:kb<(Y.alloc (.cells #[.string key] 9)).heap.size:=by rw[←lU];simp
         (try rw[lU]at hne)
         clear lU
         generalize Y.alloc (.cells #[.string key] 9)=Y at*
         try simp only[Act.put,aP,aQ,aO]
         refine bP (i:=2) (by kernel_rfl) rfl (fun K hK=>?_)
         refine vG wr Y (kP pl) rfl (.tmp 32) (.tmp 33) 101 101 rfl 9 9 j0 _ 1 16 Tryz.underlying101 Tryz.underlying101 hji hy0 hy1 hy2 (by decide) (by decide) _ 0 [] hE _ q (by simp[Act.eval]) (by simp[Act.eval]) (qL.out.aN jD) (by rw[Fj,HQ.out];omega) (Fp _) (by simp only[maxLen];omega) (by omega) ?_
         intro MJ zn Y2 hP rY yC
         rw[Nat.zero_add]at hP
         rw[List.nil_append]at hP
         have hS:Y2.cell? ⟨w.heap.size,1,none⟩=some (.slice (some ⟨b,off,none⟩) m ck)∧Y2.cell? ⟨b,off+k*3,none⟩=some (.string key):=⟨hP.aJ.cell' b1 id,hP.aJ.cell' c0 id⟩
         have jD:=hP.aJ
         (try have jf:=jf.keep rY (fun x hx hr=>by simp[dh,Value.ownBlock]at hx hr;omega))
         rw[Nat.zero_add]
         refine hK.out _ _ hS ?_
         clear hK K rY yC hE uh
         generalize Y2=Y at*
         try simp only[Act.put,aP,aQ,aO]
         refine bP (i:=10) (by kernel_rfl) rfl (fun K hK=>?_)
         refine vG wr Y [.string key] rfl (.tmp 34) (.tmp 41) 101 101 rfl 9 9 j0 _ 1 16 Tryz.underlying101 Tryz.underlying101 hji hy0 hy1 hy2 (by decide) (by decide) _ q (kP pl) hP _ 1 (by simp[Act.eval]) (by simp[Act.eval]) jf rfl (by simp[Value.oneCell']) (by simp only[maxLen];omega) (by omega) ?_
         intro MK ML Y3 lV yD yE
         have hS:Y3.cell? ⟨w.heap.size,1,none⟩=some (.slice (some ⟨b,off,none⟩) m ck)∧Y3.cell? ⟨b,off+k*3,none⟩=some (.string key):=⟨lV.aJ.cell' b1 id,lV.aJ.cell' c0 id⟩
         refine hK.out _ _ hS ?_
         clear hK K yD yE hP
         have jq:=ah lV;clear lV
         try simp only[Act.put,aP,aQ,aO]
         refine iK (by kernel_rfl) (by kernel_rfl) rfl (fun K hK=>?_)
         go_simp
         refine hK.out _ _ ?_
         clear hK K jf hS
         have c1:=jq.out.aJ.cell' c1 id
         have c2:=jq.out.aJ.cell' c2 id
         have b1:=jq.out.aJ.cell' b1 id
         go_wp2_with(first
          |(go_at_call 50;refine(HIH.out _ jq.out.aJ _ (by have:=jq.out.rd;rw[Fh,List.length_append,HQ.out];exact this)).mono ?_;rintro e w3 ⟨v3,l3,rfl,ho3,hd3,oC⟩;obtain⟨a3,c3,rfl⟩:=ho3.shape;have bJ:=ah ho3;clear ho3;have HD3:=ah hd3;clear hd3;have rZ:=ah oC;clear oC;have HKK:=ah (dQ.out.keep (jq.out.aJ.aF bJ.out.aJ)))
          |(at_builtin;refine mD _ _ _ rfl (.tmp 43) (.tmp 51) 50 50 rfl 103 103 i0 _ 5 64 Tryz.underlying50 Tryz.underlying50 hi hz0 hz1 hz2 (by decide) (by decide) _ _ _ HKK.out _ l3.length rfl rfl bJ.out.rd (by rw[AU]) (Fe rZ.out) (by have:=HLEN.out;rw[←HD3.out,qN]at this;simp only[maxLen];omega) (by have:=HLEN.out;rw[←HD3.out,qN]at this;omega) ?_;intro MN Fq w5 dw;have OW:=ah dw;clear dw))
         go_roundw
         case rel=>exact⟨k+1,l++l3,by omega,by go_num,by rw[List.length_append,AQ];exact OW.out,by rw[HD.out,sU.out,Fg,HD3.out,List.append_assoc],oU.out.append rZ.out⟩
         case measure=>simp[intOf];omega
       ·go_simp
        have hfA:aj au Y (Y.alloc (.cells #[.string key] 9)):=aj.alloc _ _ _
        have hS:(Y.alloc (.cells #[.string key] 9)).cell? ⟨w.heap.size,1,none⟩=some (.slice (some ⟨b,off,none⟩) m ck)∧(Y.alloc (.cells #[.string key] 9)).cell? ⟨b,off+k*3,none⟩=some (.string key):=⟨hfA.cell' hS.1 id,hfA.cell' hS.2 id⟩
        have jD:=jD.aF hfA
        (try have hne:Y.heap.size≠eb:=by have:=uh;omega)
        (try have hE:=hE.keep hfA)
        (try have hP:=hP.keep hfA)
        have jf:Rd (Y.alloc (.cells #[.string key] 9)) (.slice (some ⟨Y.heap.size,0,none⟩) 1 1) 1 [.string key]:= .inr ⟨Y.heap.size,0,1,rfl,Nat.le_refl _,by decide,fun j u hu=>by rw[Nat.zero_add];exact aI (heap_alloc_new Y _) j (by simpa using hu)⟩
        refine hK.out _ _ hS ?_
        clear hK K hfA
        obtain⟨kb,lU⟩:∃kb,Y.heap.size=kb:=⟨_,rfl⟩
        rw[lU]at jf⊢
        have hkb:kb<(Y.alloc (.cells #[.string key] 9)).heap.size:=by rw[←lU];simp
        (try rw[lU]at hne)
        clear lU
        generalize Y.alloc (.cells #[.string key] 9)=Y at*
        try simp only[Act.put,aP,aQ,aO]
        refine bP (i:=0) (by kernel_rfl) rfl (fun K hK=>?_)
        go_simp
        have hfA:aj au Y (Y.alloc (.cells #[] 9)):=aj.alloc _ _ _
        have hE:OwnAt wr (Y.alloc (.cells #[] 9)) 9 1 (.slice (some ⟨Y.heap.size,0,none⟩) 0 0) 0 []:=OwnAt.empty jD _ _
        have hS:(Y.alloc (.cells #[] 9)).cell? ⟨w.heap.size,1,none⟩=some (.slice (some ⟨b,off,none⟩) m ck)∧(Y.alloc (.cells #[] 9)).cell? ⟨b,off+k*3,none⟩=some (.string key):=⟨hfA.cell' hS.1 id,hfA.cell' hS.2 id⟩
        have jD:=jD.aF hfA
        (try have hne:kb≠Y.heap.size:=by have:=hkb;omega)
        (try have jf:=jf.aN hfA)
        refine hK.out _ _ hS ?_
        clear hK K hfA
        obtain⟨eb,heb⟩:∃eb,Y.heap.size=eb:=⟨_,rfl⟩
        rw[heb]at hE⊢
        have uh:eb<(Y.alloc (.cells #[] 9)).heap.size:=by rw[←heb];simp
        (try rw[heb]at hne)
        clear heb
        generalize Y.alloc (.cells #[] 9)=Y at*
        try simp only[Act.put,aP,aQ,aO]
        refine bP (i:=2) (by kernel_rfl) rfl (fun K hK=>?_)
        refine vG wr Y (kP pl) rfl (.tmp 32) (.tmp 33) 101 101 rfl 9 9 j0 _ 1 16 Tryz.underlying101 Tryz.underlying101 hji hy0 hy1 hy2 (by decide) (by decide) _ 0 [] hE _ q (by simp[Act.eval]) (by simp[Act.eval]) (qL.out.aN jD) (by rw[Fj,HQ.out];omega) (Fp _) (by simp only[maxLen];omega) (by omega) ?_
        intro MJ zn Y2 hP rY yC
        rw[Nat.zero_add]at hP
        rw[List.nil_append]at hP
        have hS:Y2.cell? ⟨w.heap.size,1,none⟩=some (.slice (some ⟨b,off,none⟩) m ck)∧Y2.cell? ⟨b,off+k*3,none⟩=some (.string key):=⟨hP.aJ.cell' b1 id,hP.aJ.cell' c0 id⟩
        have jD:=hP.aJ
        (try have jf:=jf.keep rY (fun x hx hr=>by simp[dh,Value.ownBlock]at hx hr;omega))
        rw[Nat.zero_add]
        refine hK.out _ _ hS ?_
        clear hK K rY yC hE uh
        generalize Y2=Y at*
        try simp only[Act.put,aP,aQ,aO]
        refine bP (i:=10) (by kernel_rfl) rfl (fun K hK=>?_)
        refine vG wr Y [.string key] rfl (.tmp 34) (.tmp 41) 101 101 rfl 9 9 j0 _ 1 16 Tryz.underlying101 Tryz.underlying101 hji hy0 hy1 hy2 (by decide) (by decide) _ q (kP pl) hP _ 1 (by simp[Act.eval]) (by simp[Act.eval]) jf rfl (by simp[Value.oneCell']) (by simp only[maxLen];omega) (by omega) ?_
        intro MK ML Y3 lV yD yE
        have hS:Y3.cell? ⟨w.heap.size,1,none⟩=some (.slice (some ⟨b,off,none⟩) m ck)∧Y3.cell? ⟨b,off+k*3,none⟩=some (.string key):=⟨lV.aJ.cell' b1 id,lV.aJ.cell' c0 id⟩
        refine hK.out _ _ hS ?_
        clear hK K yD yE hP
        have jq:=ah lV;clear lV
        try simp only[Act.put,aP,aQ,aO]
        refine iK (by kernel_rfl) (by kernel_rfl) rfl (fun K hK=>?_)
        go_simp
        refine hK.out _ _ ?_
        clear hK K jf hS
        have c1:=jq.out.aJ.cell' c1 id
        have c2:=jq.out.aJ.cell' c2 id
        have b1:=jq.out.aJ.cell' b1 id
        go_wp2_with(first
         |(go_at_call 50;refine(HIH.out _ jq.out.aJ _ (by have:=jq.out.rd;rw[Fh,List.length_append,HQ.out];exact this)).mono ?_;rintro e w3 ⟨v3,l3,rfl,ho3,hd3,oC⟩;obtain⟨a3,c3,rfl⟩:=ho3.shape;have bJ:=ah ho3;clear ho3;have HD3:=ah hd3;clear hd3;have rZ:=ah oC;clear oC;have HKK:=ah (dQ.out.keep (jq.out.aJ.aF bJ.out.aJ)))
         |(at_builtin;refine mD _ _ _ rfl (.tmp 43) (.tmp 51) 50 50 rfl 103 103 i0 _ 5 64 Tryz.underlying50 Tryz.underlying50 hi hz0 hz1 hz2 (by decide) (by decide) _ _ _ HKK.out _ l3.length rfl rfl bJ.out.rd (by rw[AU]) (Fe rZ.out) (by have:=HLEN.out;rw[←HD3.out,qN]at this;simp only[maxLen];omega) (by have:=HLEN.out;rw[←HD3.out,qN]at this;omega) ?_;intro MN Fq w5 dw;have OW:=ah dw;clear dw))
        go_roundw
        case rel=>exact⟨k+1,l++l3,by omega,by go_num,by rw[List.length_append,AQ];exact OW.out,by rw[HD.out,sU.out,Fg,HD3.out,List.append_assoc],oU.out.append rZ.out⟩
        case measure=>simp[intOf];omega
     ·obtain rfl:m=k:=by omega
      have hd:=HD.out
      rw[aH.nX (by rw[HM.out];exact Nat.le_refl _)]at hd
      have hd2:kY l=dX es ks:=by rw[hd];simp[gB]
      have HD2:=ah hd2;clear hd2 hd
      go_wp2
      go_ret
      exact⟨_,l,rfl,dQ.out.base bT.out,HD2.out,oU.out⟩
open Go.RowKit
theorem MO (Q:Nat→Prop) (es:List aG) (ks:aH) (w:World) (ev kv:Value) (ht:bC Q w ev kv es ks) (hsz:sizeT es ks≤100000):
 Calls Tryz.prog 24 #[.agg #[ev,kv]] w (MH w es ks):=by
 obtain⟨ae,ce,rfl⟩:=ht.ents.rd.sl
 obtain⟨os,hkr,dU⟩:=ht.kids
 obtain⟨ak,ck,rfl⟩:=hkr.rd.sl
 have HC:=ah (fun W (f:aj au w W)=>Wq Q _ es ks W _ _ (.slice none 0 0) [] (Nat.lt_succ_self _) (ht.aN f) hsz (.inl ⟨none,rfl,rfl,rfl⟩) (by unfold sizeT at hsz;simp;omega))
 clear hkr dU ht hsz
 go_enter Tryz.func24,Tryz.ntmps24
 go_wp2_with(go_at_call 50;refine(HC.out _ (aj.alloc _ _ _)).mono ?_;rintro e w3 ⟨v3,l,rfl,ho3,hd3,oC⟩;obtain⟨a3,c3,rfl⟩:=ho3.shape;have bJ:=ah (ho3.base (aj.alloc au w _));clear ho3;have HD3:=ah hd3;clear hd3;have Ag:=ah oC;clear oC)
 go_ret
 exact⟨_,l,rfl,bJ.out,HD3.out,Ag.out⟩
theorem Ws (Q:Nat→Prop) (es:List aG) (ks:aH) (w:World) (ev kv:Value) (ht:bC Q w ev kv es ks) (hsz:sizeT es ks≤2000) (hd:qp (dX es ks)):
 Calls Tryz.prog 66 #[.agg #[ev,kv]] w fun e w'=>∃v' c,e= .returned v'∧OwnAt w w' 92 3 v' c.length (bU c)∧mg (dX es ks) c∧c.length≤8000:=by
 obtain⟨i0,hi,hz0,hz1,hz2⟩:=info_parts IC
 obtain⟨ae,ce,rfl⟩:=ht.ents.rd.sl
 obtain⟨os,hkr,dU⟩:=ht.kids
 obtain⟨ak,ck,rfl⟩:=hkr.rd.sl
 have HC:=ah (fun W (f:aj au w W)=>MO Q es ks W _ _ (ht.aN f) (by omega))
 have hdl:=zC es ks
 have mP:=ah (show(dX es ks).length≤2000 by omega)
 have HDK:=ah hd;clear hd
 have jk:=ah (aj.alloc au w (.cells #[.slice ae es.length ce, .slice ak ks.len ck] 28))
 clear hkr dU ht hsz hdl
 go_enter Tryz.func66,Tryz.ntmps66
 go_wp2_with(go_at_call 24;refine(HC.out _ jk.out).mono ?_;rintro e w3 ⟨v3,l,rfl,ho3,hd3,-⟩;obtain⟨a3,c3,rfl⟩:=ho3.shape;have bJ:=ah (ho3.base jk.out);clear ho3;have HD3:=ah hd3;clear hd3)
 have hl:=mP.out
 rw[←HD3.out,qN]at hl
 generalize hn:l.length=n at*
 have HN:=ah hn;clear hn
 go_loopw [3,10] (fun v i ww=>∃k:Nat,k≤n∧i= .int .i64 k∧OwnAt w3 ww 98 2 v k (bZ (kY (l.take k)))) (fun _ i _=>n-(intOf i).toNat)
 case atStart=>exact⟨0,Nat.zero_le _,rfl,OwnAt.nil (aj.refl _ _) _ _⟩
 case round=>
  obtain⟨k,hk,rfl,ho⟩:=hrel
  obtain⟨av,cv,rfl⟩:=ho.shape
  have HO:=ah ho;clear ho
  by_cases hlt:k<n
  ·rcases Rd.shape bJ.out.rd with⟨ad,he,h0⟩|⟨b,off,cc,he,hmax⟩
   ·exfalso;omega
   ·injection he with e1 e2 e3
    subst e1 e3
    clear e2
    have hlk:k<l.length:=by rw[HN.out];exact hlt
    obtain⟨p0,p1⟩:=VZ bJ.out.rd k hlk
    have q0:=HO.out.aJ.cell' p0 id
    have q1:=HO.out.aJ.cell' p1 id
    clear p0 p1
    have hE:=V_ hlk
    generalize l.getD k (.bool true,aG.zero)=x at*
    have sS:=ah hE;clear hE
    go_wp2_with(at_builtin;refine jF _ _ [.int .i64 x.2.dc, .int .i64 x.2.n] rfl (.tmp 13) (.tmp 20) 138 rfl 98 i0 _ 2 16 Tryz.underlying138 hi hz0 hz1 hz2 (by decide) (by decide) _ _ _ HO.out 1 1 rfl (by simp[Act.eval]) rfl (by simp[Value.oneCell']) (by simp only[maxLen];omega) (by omega) ?_;intro zk iU w2 bI;have OW:=ah bI;clear bI)
    go_roundw
    case rel=>exact⟨k+1,by omega,by go_num,by rw[sS.out,kS];exact OW.out⟩
    case measure=>simp[intOf];omega
  ·obtain rfl:n=k:=by omega
   rw[List.take_of_length_le (by rw[HN.out];exact Nat.le_refl _),HD3.out]at HO
   have hnn:n=(dX es ks).length:=by rw[←HD3.out,qN];exact HN.out.symm
   have hrun:gZ wr (.slice av n cv) (dX es ks):=by show Rd wr _ (dX es ks).length _;rw[←hnn];exact HO.out.rd
   have Wu:=ah hrun;clear hrun hnn
   go_wp2_with(go_at_call 88;refine(PU _ _ (dX es ks) Wu.out HDK.out (by have:=mP.out;omega)).mono ?_;rintro e w5 ⟨v5,c5,rfl,h_,hof,-⟩;obtain⟨a5,Fq,rfl⟩:=h_.shape;have iH:=ah h_;clear h_;have mO:=ah hof;clear hof)
   go_ret
   exact⟨_,c5,rfl,(iH.out.base HO.out.aJ).base bJ.out.aJ,mO.out,by have:=mO.out.length;have:=mP.out;omega⟩
end Go.Proofs.YtlhmbkjdfjoilaaGreat
namespace Go.Proofs.YtlhmbkjdfjoilaaGreat
def kQ:aH→Int→Nat→Int
 | .nil,left,_=>left
 | .cons _ es sub rest,left,d=>if left<0∨d=0 then-1 else kQ rest (kQ sub (left-es.length-sub.len) (d-1)) d
def kZ (es:List aG) (ks:aH) (left:Int) (d:Nat):Int:=kQ ks (left-es.length-ks.len) d
theorem AV (key:ByteArray) (es:List aG) (sub rest:aH) (left:Int) (d:Nat):kQ (.cons key es sub rest) left d=if left<0∨d=0 then-1 else kQ rest (kZ es sub left (d-1)) d:=rfl
theorem Wv:∀ {ks:aH} {left:Int} {d:Nat},0≤kQ ks left d→0≤left
 | .nil,_,_,h=>h
 | .cons _ es sub rest,left,d,h=>by
   rw[AV]at h
   split at h
   ·omega
   ·omega
theorem Fv:∀ {ks:aH} {left:Int} {d:Nat},0≤kQ ks left d→kQ ks left d+dF ks=left+ks.len
 | .nil,_,_,_=>by simp[kQ,dF,aH.len]
 | .cons _ es sub rest,left,d,h=>by
   rw[AV]at h⊢
   split at h
   ·omega
   ·rename_i hc
    rw[if_neg hc]
    have h1:=Wv h
    have h2:=Fv h
    have h3:=Fv (ks:=sub) h1
    unfold kZ at h2 h3⊢
    simp only[dF,aH.len]
    omega
theorem Wx {es:List aG} {ks:aH} {left:Int} {d:Nat} (h:0≤kZ es ks left d):(sizeT es ks:Int)≤left:=by
 have:=Fv h
 unfold kZ at h
 unfold sizeT
 omega
theorem Fz:∀ {ks:aH} {left:Int} {d:Nat},ks.Ok→left≤1000→-300000000000000≤left→kQ ks left d≤1000∧-300000000000000≤kQ ks left d
 | .nil,_,_,_,h1,h2=>⟨h1,h2⟩
 | .cons _ es sub rest,left,d,hk,h1,h2=>by
   rw[AV]
   split
   ·omega
   ·obtain⟨_,he,hs,hok,hr⟩:=hk
    have:=he.len
    have h3:=Fz (ks:=sub) (left:=left-es.length-sub.len) (d:=d-1) hok (by omega) (by omega)
    exact Fz hr h3.1 h3.2
theorem Wy {ks:aH} {n:Nat} {key:ByteArray} {es:List aG} {sub rest:aH} (h:ks.drop n= .cons key es sub rest) (left:Int) (d:Nat):
 kQ (ks.drop n) left d=if left<0∨d=0 then-1 else kQ (ks.drop (n+1)) (kZ es sub left (d-1)) d:=by
 rw[h,aH.qY n ks h,AV]
open Go.RowKit
theorem WA (Q:Nat→Prop):∀(N:Nat) (es:List aG) (ks:aH) (left:Int) (d:Nat) (w:World) (ev kv:Value),dF ks<N→bC Q w ev kv es ks→iE es ks→left≤1000→0≤left→d≤100→
 Calls Tryz.prog 79 #[.agg #[ev,kv], .int .i64 left, .int .i64 d] w fun e w'=>e= .returned (.int .i64 (kZ es ks left d))∧aj au w w':=by
 intro N
 induction N with
 |zero=>intros;exfalso;omega
 |succ N gG=>
  intro es ks left d w ev kv hN ht hok hl1 hl2 hd
  obtain⟨ae,ce,rfl⟩:=ht.ents.rd.sl
  obtain⟨os,hkr,dU⟩:=ht.kids
  obtain⟨ak,ck,rfl⟩:=hkr.rd.sl
  have fH:=ah hkr.rd;clear hkr ht
  have jH:=ah dU;clear dU
  have IH:=ah gG;clear gG
  have bT:=ah (aj.alloc au w (.cells #[.slice ae es.length ce, .slice ak ks.len ck] 28))
  have box1:(w.alloc (.cells #[.slice ae es.length ce, .slice ak ks.len ck] 28)).cell? ⟨w.heap.size,1,none⟩=some (.slice ak ks.len ck):=aI (heap_alloc_new w _) 1 rfl
  have B1:=ah box1;clear box1
  have hel:=hok.es.len
  have XR:=hok.len
  have dQ:=ah hok.ks;clear hok
  have jS:=ah hN;clear hN
  have hrt:kZ es ks left d=kQ ks (left-es.length-ks.len) d:=rfl
  rw[hrt]
  clear hrt
  generalize es.length=n at*
  generalize hkl:ks.len=m at*
  have HM:=ah hkl;clear hkl
  obtain⟨l0,hl0⟩:∃l0:Int,l0=left-n-m:=⟨_,rfl⟩
  have hb0:l0≤1000∧-300000000000000≤l0:=by omega
  rw[←hl0]
  go_enter Tryz.func79,Tryz.ntmps79
  go_wp2
  go_loopw [1,20] (fun lv i ww=>∃(k:Nat) (x:Int),k≤m∧i= .int .i64 k∧lv= .int .i64 x∧x≤1000∧-300000000000000≤x∧kQ ks l0 d=kQ (ks.drop k) x d∧aj au (w.alloc (.cells #[.slice ae n ce, .slice ak m ck] 28)) ww) (fun _ i _=>m-(intOf i).toNat)
  case atStart=>exact⟨0,l0,Nat.zero_le _,rfl,by rw[hl0],hb0.1,hb0.2,rfl,aj.refl _ _⟩
  case round=>
   clear hl0
   obtain⟨k,x,hk,rfl,rfl,hx1,hx2,hr,hw⟩:=hrel
   have HW:=ah hw;clear hw
   have b1:=HW.out.cell' B1.out id
   by_cases hlt:k<m
   ·obtain⟨key,es',sub,rest,hdr⟩:=aH.nI (n:=k) (ks:=ks) (by rw[HM.out];exact hlt)
    rw[Wy hdr]at hr
    by_cases hx0:x<0
    ·rw[if_pos (.inl hx0)]at hr
     have HR:=ah hr;clear hr
     clear hdr
     go_wp2
     go_ret
     exact⟨uj HR.out.symm,bT.out.aF HW.out⟩
    ·by_cases hd0:d=0
     ·subst hd0
      rw[if_pos (.inr rfl)]at hr
      have HR:=ah hr;clear hr
      clear hdr
      go_wp2
      go_ret
      exact⟨uj HR.out.symm,bT.out.aF HW.out⟩
     ·rw[if_neg (by omega)]at hr
      rcases Rd.shape (fH.out.aN (bT.out.aF HW.out))with⟨ad,he,h0⟩|⟨b,off,cc,he,hmax⟩
      ·exfalso;have:=HM.out;omega
      ·injection he with e1 e2 e3
       subst e1 e3
       clear e2
       obtain⟨ev',kv',c0,c1,c2,hta⟩:=lG (fH.out.aN (bT.out.aF HW.out)) (jH.out.aN (bT.out.aF HW.out)) hdr
       obtain⟨dI,dJ,rfl⟩:=hta.ents.rd.sl
       obtain⟨os',fC,jA⟩:=hta.kids
       obtain⟨dK,dL,rfl⟩:=fC.rd.sl
       clear fC jA
       have hok':=dQ.out.drop k
       rw[hdr]at hok'
       have hsub:iE es' sub:=⟨hok'.2.1,hok'.2.2.1,hok'.2.2.2.1⟩
       have hbd:=Fz (ks:=sub) (left:=x-es'.length-sub.len) (d:=d-1) hsub.ks (by omega) (by have:=hsub.es.len;have:=hsub.len;omega)
       obtain⟨y,hy⟩:∃y,y=kZ es' sub x (d-1):=⟨_,rfl⟩
       have nT:=ah (show y≤1000∧-300000000000000≤y by rw[hy];exact hbd);clear hbd
       have hih:=IH.out es' sub x (d-1) wr _ _ (by have:=qx k hdr;have:=jS.out;omega) hta hsub hx1 (by omega) (by omega)
       rw[show((d-1:Nat):Int)=(d:Int)-1 by omega]at hih
       rw[←hy]at hih hr
       have HIH:=ah hih;clear hih hta hok' hsub hdr hy
       have HR:=ah hr;clear hr
       generalize es'.length=n' at*
       generalize sub.len=m' at*
       have hd1:(d:Int)≤100:=by omega
       have hd2:(1:Int)≤d:=by omega
       have hdz:((d:Int)==0)=false:=by simp;omega
       go_wp2_with(go_at_call 79;refine HIH.out.mono ?_;rintro e w3 ⟨rfl,hw3⟩;have HW3:=ah hw3;clear hw3)
       go_roundw
       case rel=>exact⟨k+1,y,by omega,by go_num,rfl,nT.out.1,nT.out.2,HR.out,HW.out.aF HW3.out⟩
       case measure=>simp[intOf];omega
   ·obtain rfl:m=k:=by omega
    rw[aH.nX (by rw[HM.out];exact Nat.le_refl _)]at hr
    have HR:=ah hr;clear hr
    go_wp2
    go_ret
    exact⟨uj HR.out.symm,bT.out.aF HW.out⟩
theorem WC (Q:Nat→Prop) (es:List aG) (ks:aH) (left:Int) (w:World) (ev kv:Value) (ht:bC Q w ev kv es ks) (hok:iE es ks) (h1:left≤1000) (h2:0≤left):
 Calls Tryz.prog 55 #[.agg #[ev,kv], .int .i64 left] w fun e w'=>e= .returned (.bool (decide (0≤kZ es ks left 8)))∧aj au w w':=by
 obtain⟨ae,ce,rfl⟩:=ht.ents.rd.sl
 obtain⟨os,hkr,dU⟩:=ht.kids
 obtain⟨ak,ck,rfl⟩:=hkr.rd.sl
 have hc:∀W,aj au w W→Calls Tryz.prog 79 #[.agg #[.slice ae es.length ce, .slice ak ks.len ck], .int .i64 left, .int .i64 8] W fun e w'=>e= .returned (.int .i64 (kZ es ks left 8))∧aj au W w':=fun W f=>WA Q _ es ks left 8 W _ _ (Nat.lt_succ_self _) (ht.aN f) hok h1 h2 (by omega)
 have HC:=ah hc
 clear hkr dU ht hok hc
 generalize kZ es ks left 8=y at*
 generalize es.length=n at*
 generalize ks.len=m at*
 go_enter Tryz.func55,Tryz.ntmps55
 go_wp2_with(go_at_call 79;refine(HC.out _ (aj.alloc _ _ _)).mono ?_;rintro e w3 ⟨rfl,hw3⟩;have HW3:=ah ((aj.alloc au _ _).aF hw3);clear hw3)
 go_ret
 exact⟨rfl,HW3.out⟩
theorem WE (Q:Nat→Prop) (es:List aG) (ks:aH) (w:World) (ev kv:Value) (ht:bC Q w ev kv es ks) (hok:iE es ks):
 Calls Tryz.prog 63 #[.agg #[ev,kv]] w fun e w'=>e= .returned (.bool (aY 5 es ks))∧aj au w w':=by
 obtain⟨ae,ce,rfl⟩:=ht.ents.rd.sl
 obtain⟨os,hkr,dU⟩:=ht.kids
 obtain⟨ak,ck,rfl⟩:=hkr.rd.sl
 have hc:∀W,aj au w W→Calls Tryz.prog 84 #[.agg #[.slice ae es.length ce, .slice ak ks.len ck], .int .i64 5] W fun e w'=>e= .returned (.bool (aY 5 es ks))∧aj au W w':=fun W f=>Qd Q _ es ks 5 W _ _ (Nat.lt_succ_self _) (ht.aN f) hok (by omega)
 have HC:=ah hc
 clear hkr dU ht hok hc
 generalize aY 5 es ks=y at*
 generalize es.length=n at*
 generalize ks.len=m at*
 go_enter Tryz.func63,Tryz.ntmps63
 go_wp2_with(go_at_call 84;refine(HC.out _ (aj.alloc _ _ _)).mono ?_;rintro e w3 ⟨rfl,hw3⟩;have HW3:=ah ((aj.alloc au _ _).aF hw3);clear hw3)
 go_ret
 exact⟨rfl,HW3.out⟩
end Go.Proofs.YtlhmbkjdfjoilaaGreat
