/- Words for the law ShardParts: Lv5, Lv6, Sh22, Sh23, Sh24. -/
import Derived.Test.YtlhmbkjdfjoilaaGreatShardPartsG0
import Derived.Test.YtlhmbkjdfjoilaaGreatShardPartsG9
import Derived.Test.YtlhmbkjdfjoilaaGreatShardPartsG10
import Derived.Test.YtlhmbkjdfjoilaaGreatShardPartsG14
import Derived.Test.YtlhmbkjdfjoilaaGreatShardPartsG17
import Derived.Test.YtlhmbkjdfjoilaaGreatShardPartsG19
import Derived.Test.YtlhmbkjdfjoilaaGreatShardPartsG23
set_option linter.unusedSimpArgs false
set_option linter.unusedVariables false
set_option maxHeartbeats 32000000
set_option maxRecDepth 1000000
namespace Go.Proofs.YtlhmbkjdfjoilaaGreat
open Go.RowKit
theorem Oh (es:List aF):(jX es).length=es.length:=by simp[jX]
theorem Hw:∀ks:aH,(fZ ks).length≤cu ks
 | .nil=>Nat.le_refl _
 | .cons key es sub rest=>by
   show((jX es++fZ sub).map (fun x=>(key::x.1,x.2))++fZ rest).length≤1+es.length+cu sub+cu rest
   have h1:=Hw sub
   have h2:=Hw rest
   rw[List.length_append,List.length_map,List.length_append,Oh]
   omega
theorem Hy (es:List aF) (ks:aH):(gW es ks).length≤sizeT es ks:=by
 have:=Hw ks
 unfold gW sizeT
 rw[List.length_append,Oh]
 omega
theorem Yl {ks:aH} {n:Nat} {key:ByteArray} {es:List aF} {sub rest:aH} (h:ks.drop n= .cons key es sub rest):fZ (ks.drop n)=(gW es sub).map (fun x=>(key::x.1,x.2))++fZ (ks.drop (n+1)):=by
 rw[h,aH.qY n ks h];rfl
def oK (pl:List ByteArray) (x:Lf):Lf:=(pl++x.1,x.2)
theorem Ym (L:List Lf):L.map (oK [])=L:=by
 have:oK []=id:=rfl
 rw[this,List.map_id]
theorem Hz (pl:List ByteArray) (key:ByteArray) (L:List Lf):(L.map fun x=>(key::x.1,x.2)).map (oK pl)=L.map (oK (pl++ [key])):=by
 rw[List.map_map]
 exact List.map_congr_left fun x _=>by simp[oK]
def nV (pl:List ByteArray) (pv:Value) (es:List aF):List bV:=es.map fun e=>⟨pl,pv,e⟩
theorem Yn (pl:List ByteArray) (pv:Value) (es:List aF):(nV pl pv es).length=es.length:=by simp[nV]
theorem Yo (pl:List ByteArray) (pv:Value) (es:List aF):(nV pl pv es).map bV.con=(jX es).map (oK pl):=by
 unfold nV jX
 rw[List.map_map,List.map_map]
 exact List.map_congr_left fun e _=>by simp[bV.con,oK]
theorem Yp {pl:List ByteArray} {p:Value} {es:List aF} {k:Nat} (hk:k<es.length):iD (nV pl p (es.take (k+1)))=iD (nV pl p (es.take k))++ [p, .int .i64 (es.getD k aF.zero).dc, .int .i64 (es.getD k aF.zero).n, .string (es.getD k aF.zero).s, .int .i64 (es.getD k aF.zero).k]:=by
 rw[take_succ aF.zero hk,show nV pl p (es.take k++ [es.getD k aF.zero])=nV pl p (es.take k)++ [⟨pl,p,es.getD k aF.zero⟩] by simp[nV],FI]
 rfl
def vH (l:List bV):Prop:=∀x∈l,x.pv.oneCell'=true
theorem vH.append {a b:List bV} (ha:vH a) (hb:vH b):vH (a++b):=fun x hx=>(List.mem_append.1 hx).elim (ha x) (hb x)
theorem CS {l:List bV} (h:vH l):∀v∈iD l,v.oneCell'=true:=by
 intro v hv
 simp only[iD,List.mem_flatMap]at hv
 obtain⟨x,hx,hv⟩:=hv
 rcases List.mem_cons.1 hv with rfl|hv
 ·exact h x hx
 ·simp at hv
  rcases hv with rfl|rfl|rfl|rfl<;>rfl
structure jD (P:Nat→Prop) (w W:World) (v:Value) (l:List bV):Prop where
 own:OwnAt w W 103 5 v l.length (iD l)
 each:∀x∈l,gy (fun k=>(P k∨w.heap.size≤k)∧v.ownBlock≠some k) W x.pv x.path.length (dX x.path)
 one:vH l
theorem jD.aN {P:Nat→Prop} {w W W':World} {v:Value} {l:List bV} (h:jD P w W v l) (f:aj au W W'):jD P w W' v l:=
 ⟨h.own.keep f,fun x hx=>(h.each x hx).keep f fun _ _ e=>e.elim,h.one⟩
theorem jD.base {P:Nat→Prop} {w0 w W:World} {v:Value} {l:List bV} (h:jD P w W v l) (f:aj au w0 w):jD P w0 W v l:=
 ⟨h.own.base f,fun x hx=>(h.each x hx).turn fun k _ hk=>⟨rfl,hk.1.imp id fun h2=>Nat.le_trans f.size h2,hk.2⟩,h.one⟩
theorem jD.Yq {P:Nat→Prop} {w W:World} {v:Value} {l:List bV} (h:jD P w W v l):uY (fun k=>(P k∨w.heap.size≤k)∧v.ownBlock≠some k) W v l:=⟨h.own.rd,h.each⟩
theorem jD.nil {P:Nat→Prop} {w W:World} (f:aj au w W):jD P w W (.slice none 0 0) []:=⟨OwnAt.nil f _ _,fun x hx=>(by cases hx),fun x hx=>(by cases hx)⟩
theorem jD.add {P:Nat→Prop} {w W W2:World} {v v':Value} {l m:List bV} (h:jD P w W v l) (f:aj (bY v) W W2) (fr:jk W v v') (own:W2.ownsRow 0 103 5 v' (l.length+m.length) (iD l++iD m))
 (hm:∀x∈m,gy (fun k=>(P k∨w.heap.size≤k)∧v.ownBlock≠some k) W x.pv x.path.length (dX x.path)) (ho:vH m):jD P w W2 v' (l++m):=by
 have h1:=h.own.step own f fr
 refine⟨by rw[List.length_append,FI];exact h1,fun x hx=>?_,h.one.append ho⟩
 have hx:gy (fun k=>(P k∨w.heap.size≤k)∧v.ownBlock≠some k) W x.pv x.path.length (dX x.path):=(List.mem_append.1 hx).elim (h.each x) (hm x)
 exact hx.turn fun k hk hQ=>⟨f.block k hk hQ.2,hQ.1,fun e=>by
  rcases fr k e with s|s
  ·exact hQ.2 s
  ·omega⟩
theorem jD.ents {P:Nat→Prop} {w W:World} {v pv:Value} {pl:List ByteArray} {es:List aF} (h:OwnAt w W 103 5 v es.length (iD (nV pl pv es))) (hp:gy P w pv pl.length (dX pl)) (h1:pv.oneCell'=true):jD P w W v (nV pl pv es):=
 ⟨by rw[Yn];exact h,fun x hx=>by
   obtain⟨e,_,rfl⟩:=List.mem_map.1 hx
   exact hp.turn fun k hk hQ=>⟨h.aI.block k hk id, .inl hQ,fun e=>by have:=h.new k e;omega⟩,fun x hx=>by
   obtain⟨e,_,rfl⟩:=List.mem_map.1 hx
   exact h1⟩
def Yr (P:Nat→Prop) (w:World) (es:List aF) (ks:aH) (pl:List ByteArray) (e:Ending) (w':World):Prop:=
 ∃(v':Value) (l:List bV),e= .returned v'∧jD P w w' v' l∧l.map bV.con=(gW es ks).map (oK pl)
theorem Yt (Q:Nat→Prop):∀(N:Nat) (P:Nat→Prop) (es:List aF) (ks:aH) (w:World) (ev kv pv:Value) (pl:List ByteArray),cu ks<N→bg Q w ev kv es ks→sizeT es ks≤100000→gy P w pv pl.length (dX pl)→pl.length+N≤200000→
 Calls Tryz.prog 50 #[.agg #[ev,kv],pv] w (Yr P w es ks pl):=by
 intro N
 induction N with
 |zero=>intros;exfalso;omega
 |succ N fO=>
  intro P es ks w ev kv pv pl hN ht hsz hp hpl
  obtain⟨i0,hi,hz0,hz1,hz2⟩:=info_parts AB
  obtain⟨j0,hji,hy0,hy1,hy2⟩:=info_parts Jz
  obtain⟨ae,ce,rfl⟩:=ht.ents.rd.sl
  obtain⟨os,hkr,dH⟩:=ht.kids
  obtain⟨ak,ck,rfl⟩:=hkr.rd.sl
  obtain⟨ap,cp,rfl⟩:=hp.rd.sl
  have HPQ:=ah hp
  have HP:=ah hp.rd;clear hp
  have HE:=ah ht.ents.rd
  have fH:=ah hkr.rd;clear hkr ht
  have jH:=ah dH;clear dH
  have IH:=ah fO;clear fO
  have bT:=ah (aj.alloc au w (.cells #[.slice ae es.length ce, .slice ak ks.len ck] 28))
  have box0:(w.alloc (.cells #[.slice ae es.length ce, .slice ak ks.len ck] 28)).cell? ⟨w.heap.size,0,none⟩=some (.slice ae es.length ce):=aJ (heap_alloc_new w _) 0 rfl
  have box1:(w.alloc (.cells #[.slice ae es.length ce, .slice ak ks.len ck] 28)).cell? ⟨w.heap.size,1,none⟩=some (.slice ak ks.len ck):=aJ (heap_alloc_new w _) 1 rfl
  have B0:=ah box0;clear box0
  have B1:=ah box1;clear box1
  have lM:=ah (Nat.le_trans (Hy es ks) hsz)
  have oN:es.length≤100000:=by unfold sizeT at hsz;omega
  have wF:ks.len≤100000:=by have:=kG ks;unfold sizeT at hsz;omega
  have jy:=ah hsz;clear hsz
  have kH:=ah hN;clear hN
  have hq5:pl.length≤200000:=by omega
  have kD:=ah hpl;clear hpl
  generalize hes:es.length=n at*
  have HN:=ah hes;clear hes
  generalize hkl:ks.len=m at*
  have HM:=ah hkl;clear hkl
  generalize su:pl.length=q at*
  have HQ:=ah su;clear su
  go_enter Tryz.func50,Tryz.ntmps50
  go_wp2_with fail
  have b0:=B0.out
  go_wp2
  clear b0
  go_loopw [5,12] (fun v i ww=>∃k:Nat,k≤n∧i= .int .i64 k∧OwnAt (w.alloc (.cells #[.slice ae n ce, .slice ak m ck] 28)) ww 103 5 v k (iD (nV pl (.slice ap q cp) (es.take k)))) (fun _ i _=>n-(intOf i).toNat)
  case atStart=>exact⟨0,Nat.zero_le _,rfl,OwnAt.nil (aj.refl _ _) _ _⟩
  case round=>
   obtain⟨k,hk,rfl,ho⟩:=hrel
   obtain⟨av,cv,rfl⟩:=ho.shape
   have HO:=ah ho;clear ho
   by_cases hlt:k<n
   ·rcases Rd.shape HE.out with⟨ad,he,h0⟩|⟨b,off,cc,he,hmax⟩
    ·exfalso;have:=HN.out;omega
    ·injection he with e1 e2 e3
     subst e1 e3
     clear e2
     have hlk:k<es.length:=by rw[HN.out];exact hlt
     obtain⟨p0,p1,p2,p3⟩:=nD HE.out k hlk
     have f2:=bT.out.aG HO.out.aI
     have q0:=f2.cell' p0 id
     have q1:=f2.cell' p1 id
     have q2:=f2.cell' p2 id
     have q3:=f2.cell' p3 id
     have b0:=HO.out.aI.cell' B0.out id
     clear p0 p1 p2 p3 f2
     have hE:=Yp (pl:=pl) (p:= .slice ap q cp) hlk
     generalize es.getD k aF.zero=e at*
     have rC:=ah hE;clear hE
     go_wp2_with(at_builtin;refine ku _ _ [.slice ap q cp, .int .i64 e.dc, .int .i64 e.n, .string e.s, .int .i64 e.k] rfl (.tmp 15) (.tmp 23) 50 rfl 103 i0 _ 5 64 Tryz.underlying50 hi hz0 hz1 hz2 (by decide) (by decide) _ _ _ HO.out 1 1 rfl (by simp[Act.eval]) rfl (by simp[Value.oneCell']) (by simp only[maxLen];omega) (by omega) ?_;intro yx jd w2 bn;have OW:=ah bn;clear bn)
     go_roundw
     case rel=>exact⟨k+1,by omega,by go_num,by rw[rC.out];exact OW.out⟩
     case measure=>simp[intOf];omega
   ·obtain rfl:n=k:=by omega
    rw[List.take_of_length_le (by rw[HN.out];exact Nat.le_refl _)]at HO
    have b1:=HO.out.aI.cell' B1.out id
    go_wp2
    clear b1
    go_loopw [5,29] (fun v i ww=>∃(k:Nat) (l:List bV),k≤m∧i= .int .i64 k∧jD P (w.alloc (.cells #[.slice ae n ce, .slice ak m ck] 28)) ww v l∧(gW es ks).map (oK pl)=l.map bV.con++(fZ (ks.drop k)).map (oK pl)) (fun _ i _=>m-(intOf i).toNat)
    case atStart=>exact⟨0,nV pl (.slice ap q cp) es,Nat.zero_le _,rfl,jD.ents (by rw[HN.out];exact HO.out) (by rw[HQ.out];exact HPQ.out.keep bT.out fun _ _ e=>e.elim) rfl,by rw[Yo,←List.map_append];rfl⟩
    case round=>
     obtain⟨k,l,hk,rfl,ho,hd⟩:=hrel
     obtain⟨av,cv,rfl⟩:=ho.own.shape
     have qQ:=ah ho
     have cZ:=ah ho.own;clear ho
     have HD:=ah hd;clear hd
     by_cases hlt:k<m
     ·obtain⟨key,es',sub,rest,hdr⟩:=aH.mD (n:=k) (ks:=ks) (by rw[HM.out];exact hlt)
      rcases Rd.shape fH.out with⟨ad,he,h0⟩|⟨b,off,cc,he,hmax⟩
      ·exfalso;have:=HM.out;omega
      ·injection he with e1 e2 e3
       subst e1 e3
       clear e2
       have f2:=bT.out.aG cZ.out.aI
       obtain⟨ev',kv',c0,c1,c2,hta⟩:=k_ (fH.out.aN f2) (jH.out.aN f2) hdr
       obtain⟨dI,dJ,rfl⟩:=hta.ents.rd.sl
       obtain⟨os',fB,jA⟩:=hta.kids
       obtain⟨dK,dL,rfl⟩:=fB.rd.sl
       clear fB jA
       have hpr:=HP.out.aN f2
       have nP:=ah hpr;clear hpr f2
       have b1:=cZ.out.aI.cell' B1.out id
       have oq:=ah (Yl hdr)
       have eF:=ah (qC k hdr)
       have HST:=ah (ru k hdr)
       have je:=ah hta;clear hta
       have HIH:=ah (fun w' (h:aj au wr w') pv (hpv:gy (fun k=>wr.heap.size≤k) w' pv (pl++ [key]).length (dX (pl++ [key])))=>IH.out (fun k=>wr.heap.size≤k) es' sub w' _ _ pv (pl++ [key]) (by have:=eF.out;have:=kH.out;omega) (je.out.aN h) (by have:=HST.out;have:=jy.out;unfold sizeT at*;omega) hpv (by have:=kD.out;have:=HQ.out;simp;omega))
       have hlen:l.length+(gW es' sub).length≤100000:=by
        have h1:=lM.out
        rw[←List.length_map (f:=oK pl),HD.out,oq.out]at h1
        simp only[List.length_append,List.length_map]at h1
        omega
       have HLEN:=ah hlen;clear hlen
       clear hdr
       generalize es'.length=n' at*
       generalize sub.len=m' at*
       go_wp2_with fail
       refine iZ (S:=fun w'=>w'.cell? ⟨w.heap.size,1,none⟩=some (.slice (some ⟨b,off,none⟩) m ck)∧w'.cell? ⟨b,off+k*3,none⟩=some (.string key)) 11 (by kernel_rfl) ⟨b1,c0⟩ ?_
       intro hS
       have eX:aj au wr wr.drew:=aj.drew _ _
       have Xy:=ah eX
       generalize wr.drew=Y at*
       refine aT 1 33 rfl rfl (v:=?_) (.inl ⟨by rfl,?_⟩) ?_
       rotate_left 1
       ·(intro w hSw;(try dsimp only at hSw);go_simp;(try with_reducible rfl))
       refine aT 3 35 rfl rfl (v:=?_) (.inl ⟨by rfl,?_⟩) ?_
       rotate_left 1
       ·(intro w hSw;(try dsimp only at hSw);go_simp;(try with_reducible rfl))
       try simp only[Act.put,aP,aQ,aO]
       refine aT 4 36 rfl rfl (v:=?_) (.inl ⟨by rfl,?_⟩) ?_
       rotate_left 1
       ·(intro w hSw;(try dsimp only at hSw);go_simp;(try with_reducible rfl))
       refine aT 5 37 rfl rfl (v:=?_) (.inl ⟨by rfl,?_⟩) ?_
       rotate_left 1
       ·(intro w hSw;(try dsimp only at hSw);go_simp;(try with_reducible rfl))
       try simp only[Act.put,aP,aQ,aO]
       refine aT 6 38 rfl rfl (v:=?_) (.inl ⟨by rfl,?_⟩) ?_
       rotate_left 1
       ·(intro w hSw;(try dsimp only at hSw);go_simp;(try with_reducible rfl))
       refine aT 7 39 rfl rfl (v:=?_) (.inl ⟨by rfl,?_⟩) ?_
       rotate_left 1
       ·(intro w hSw;(try dsimp only at hSw);go_simp;(try with_reducible rfl))
       try simp only[Act.put,aP,aQ,aO]
       refine aT 8 40 rfl rfl (v:=?_) (.inl ⟨by rfl,?_⟩) ?_
       rotate_left 1
       ·(intro w hSw;(try dsimp only at hSw);go_simp;(try with_reducible rfl))
       try simp only[Act.put,aP,aQ,aO]
       refine sV (i:=0) (j:=9) (by kernel_rfl) rfl rfl (fun K hK=>?_) (fun K hK=>?_)
       ·go_simp
        have hfA:aj au Y (Y.alloc (.cells #[] 9)):=aj.alloc _ _ _
        have hE:OwnAt wr (Y.alloc (.cells #[] 9)) 9 1 (.slice (some ⟨Y.heap.size,0,none⟩) 0 0) 0 []:=OwnAt.empty eX _ _
        have hS:(Y.alloc (.cells #[] 9)).cell? ⟨w.heap.size,1,none⟩=some (.slice (some ⟨b,off,none⟩) m ck)∧(Y.alloc (.cells #[] 9)).cell? ⟨b,off+k*3,none⟩=some (.string key):=⟨hfA.cell' hS.1 id,hfA.cell' hS.2 id⟩
        have eX:=eX.aG hfA
        (try have hne:kb≠Y.heap.size:=by have:=hkb;omega)
        (try have dR:=dR.aN hfA)
        refine hK.out _ _ hS ?_
        clear hK K hfA
        obtain⟨eb,heb⟩:∃eb,Y.heap.size=eb:=⟨_,rfl⟩
        rw[heb]at hE⊢
        have lV:eb<(Y.alloc (.cells #[] 9)).heap.size:=by rw[←heb];simp
        (try rw[heb]at hne)
        clear heb
        generalize Y.alloc (.cells #[] 9)=Y at*
        try simp only[Act.put,aP,aQ,aO]
        refine sV (i:=2) (j:=9) (by kernel_rfl) rfl rfl (fun K hK=>?_) (fun K hK=>?_)
        ·refine oz wr Y (dX pl) rfl (.tmp 32) (.tmp 33) 101 101 rfl 9 9 j0 _ 1 16 Tryz.underlying101 Tryz.underlying101 hji hy0 hy1 hy2 (by decide) (by decide) _ 0 [] hE _ q (by simp[Act.eval]) (by simp[Act.eval]) (nP.out.aN eX) (by rw[wH,HQ.out];omega) (wI _) (by simp only[maxLen];omega) (by omega) ?_
         intro zQ uI Y2 hP kW pY
         rw[Nat.zero_add]at hP
         rw[List.nil_append]at hP
         have hS:Y2.cell? ⟨w.heap.size,1,none⟩=some (.slice (some ⟨b,off,none⟩) m ck)∧Y2.cell? ⟨b,off+k*3,none⟩=some (.string key):=⟨hP.aI.cell' b1 id,hP.aI.cell' c0 id⟩
         have eX:=hP.aI
         (try have dR:=dR.keep kW (fun x hx hr=>by simp[bY,Value.ownBlock]at hx hr;omega))
         rw[Nat.zero_add]
         refine hK.out _ _ hS ?_
         clear hK K kW pY hE lV
         generalize Y2=Y at*
         try simp only[Act.put,aP,aQ,aO]
         refine bK (i:=9) (by kernel_rfl) rfl (fun K hK=>?_)
         go_simp
         have hfA:aj au Y (Y.alloc (.cells #[.string key] 9)):=aj.alloc _ _ _
         have hS:(Y.alloc (.cells #[.string key] 9)).cell? ⟨w.heap.size,1,none⟩=some (.slice (some ⟨b,off,none⟩) m ck)∧(Y.alloc (.cells #[.string key] 9)).cell? ⟨b,off+k*3,none⟩=some (.string key):=⟨hfA.cell' hS.1 id,hfA.cell' hS.2 id⟩
         have eX:=eX.aG hfA
         (try have hne:Y.heap.size≠eb:=by have:=lV;omega)
         (try have hE:=hE.keep hfA)
         (try have hP:=hP.keep hfA)
         have dR:Rd (Y.alloc (.cells #[.string key] 9)) (.slice (some ⟨Y.heap.size,0,none⟩) 1 1) 1 [.string key]:= .inr ⟨Y.heap.size,0,1,rfl,Nat.le_refl _,by decide,fun j u hu=>by rw[Nat.zero_add];exact aJ (heap_alloc_new Y _) j (by simpa using hu)⟩
         refine hK.out _ _ hS ?_
         clear hK K hfA
         obtain⟨kb,gX⟩:∃kb,Y.heap.size=kb:=⟨_,rfl⟩
         rw[gX]at dR⊢
         have hkb:kb<(Y.alloc (.cells #[.string key] 9)).heap.size:=by rw[←gX];simp
         (try rw[gX]at hne)
         clear gX
         generalize Y.alloc (.cells #[.string key] 9)=Y at*
         try simp only[Act.put,aP,aQ,aO]
         refine bK (i:=10) (by kernel_rfl) rfl (fun K hK=>?_)
         refine oz wr Y [.string key] rfl (.tmp 34) (.tmp 41) 101 101 rfl 9 9 j0 _ 1 16 Tryz.underlying101 Tryz.underlying101 hji hy0 hy1 hy2 (by decide) (by decide) _ q (dX pl) hP _ 1 (by simp[Act.eval]) (by simp[Act.eval]) dR rfl (by simp[Value.oneCell']) (by simp only[maxLen];omega) (by omega) ?_
         intro zS zT Y3 gY qg qh
         have hS:Y3.cell? ⟨w.heap.size,1,none⟩=some (.slice (some ⟨b,off,none⟩) m ck)∧Y3.cell? ⟨b,off+k*3,none⟩=some (.string key):=⟨gY.aI.cell' b1 id,gY.aI.cell' c0 id⟩
         refine hK.out _ _ hS ?_
         clear hK K qg qh hP
         have dG:=ah gY;clear gY
         try simp only[Act.put,aP,aQ,aO]
         refine gQ (by kernel_rfl) (by kernel_rfl) rfl (fun K hK=>?_)
         go_simp
         refine hK.out _ _ ?_
         clear hK K dR hS
         have c1:=dG.out.aI.cell' c1 id
         have c2:=dG.out.aI.cell' c2 id
         have b1:=dG.out.aI.cell' b1 id
         go_wp2_with(first
          |(go_at_call 50;refine(HIH.out _ dG.out.aI _ (by have:=dG.out.yQ;rw[wG,List.length_append,HQ.out];exact this)).mono ?_;rintro e w3 ⟨v3,l3,rfl,ho3,hd3⟩;obtain⟨a3,c3,rfl⟩:=ho3.own.shape;have ig:=ah ho3;have bJ:=ah ho3.own;clear ho3;have hd4:=congrArg List.length hd3;rw[List.length_map,List.length_map]at hd4;have HD4:=ah hd4;have HD3:=ah hd3;clear hd3 hd4;have HKK:=ah (qQ.out.aN (dG.out.aI.aG bJ.out.aI)))
          |(at_builtin;refine vM _ rfl (.tmp 43) (.tmp 51) 50 50 rfl 103 i0 _ 5 64 Tryz.underlying50 hi hz0 hz1 hz2 (by decide) (by decide) _ _ _ rfl HKK.out.own.own _ l3.length _ rfl (bJ.out.rd.src Tryz.underlying50 (by rw[BO]) (CS ig.out.one)) (by have:=HLEN.out;have:=HD4.out;simp only[maxLen];omega) (by have:=HLEN.out;have:=HD4.out;omega) ?_;intro xO vF w5 bU mV mW _;have OW:=ah (HKK.out.add mV mW bU (fun x hx=>(ig.out.each x hx).turn fun k _ hQ=>⟨rfl, .inr (by have h1:=cZ.out.aI.size;have h2:=dG.out.aI.size;have h3:=hQ.1;omega),fun e=>by have h2:=dG.out.aI.size;have h3:=hQ.1;obtain⟨cur,h4⟩:=iY cZ.out.own e;have h5:=lt_of_block h4;omega⟩) ig.out.one);clear bU mV mW))
         go_roundw
         case rel=>exact⟨k+1,l++l3,by omega,by go_num,OW.out,by rw[HD.out,oq.out,List.map_append,Hz,List.map_append,HD3.out,List.append_assoc]⟩
         case measure=>simp[intOf];omega
        ·go_simp
         have hfA:aj au Y (Y.alloc (.cells #[.string key] 9)):=aj.alloc _ _ _
         have hS:(Y.alloc (.cells #[.string key] 9)).cell? ⟨w.heap.size,1,none⟩=some (.slice (some ⟨b,off,none⟩) m ck)∧(Y.alloc (.cells #[.string key] 9)).cell? ⟨b,off+k*3,none⟩=some (.string key):=⟨hfA.cell' hS.1 id,hfA.cell' hS.2 id⟩
         have eX:=eX.aG hfA
         (try have hne:Y.heap.size≠eb:=by have:=lV;omega)
         (try have hE:=hE.keep hfA)
         (try have hP:=hP.keep hfA)
         have dR:Rd (Y.alloc (.cells #[.string key] 9)) (.slice (some ⟨Y.heap.size,0,none⟩) 1 1) 1 [.string key]:= .inr ⟨Y.heap.size,0,1,rfl,Nat.le_refl _,by decide,fun j u hu=>by rw[Nat.zero_add];exact aJ (heap_alloc_new Y _) j (by simpa using hu)⟩
         refine hK.out _ _ hS ?_
         clear hK K hfA
         obtain⟨kb,gX⟩:∃kb,Y.heap.size=kb:=⟨_,rfl⟩
         rw[gX]at dR⊢
         have hkb:kb<(Y.alloc (.cells #[.string key] 9)).heap.size:=by rw[←gX];simp
         (try rw[gX]at hne)
         clear gX
         generalize Y.alloc (.cells #[.string key] 9)=Y at*
         try simp only[Act.put,aP,aQ,aO]
         refine bK (i:=2) (by kernel_rfl) rfl (fun K hK=>?_)
         refine oz wr Y (dX pl) rfl (.tmp 32) (.tmp 33) 101 101 rfl 9 9 j0 _ 1 16 Tryz.underlying101 Tryz.underlying101 hji hy0 hy1 hy2 (by decide) (by decide) _ 0 [] hE _ q (by simp[Act.eval]) (by simp[Act.eval]) (nP.out.aN eX) (by rw[wH,HQ.out];omega) (wI _) (by simp only[maxLen];omega) (by omega) ?_
         intro zQ uI Y2 hP kW pY
         rw[Nat.zero_add]at hP
         rw[List.nil_append]at hP
         have hS:Y2.cell? ⟨w.heap.size,1,none⟩=some (.slice (some ⟨b,off,none⟩) m ck)∧Y2.cell? ⟨b,off+k*3,none⟩=some (.string key):=⟨hP.aI.cell' b1 id,hP.aI.cell' c0 id⟩
         have eX:=hP.aI
         (try have dR:=dR.keep kW (fun x hx hr=>by simp[bY,Value.ownBlock]at hx hr;omega))
         rw[Nat.zero_add]
         refine hK.out _ _ hS ?_
         clear hK K kW pY hE lV
         generalize Y2=Y at*
         try simp only[Act.put,aP,aQ,aO]
         refine bK (i:=10) (by kernel_rfl) rfl (fun K hK=>?_)
         refine oz wr Y [.string key] rfl (.tmp 34) (.tmp 41) 101 101 rfl 9 9 j0 _ 1 16 Tryz.underlying101 Tryz.underlying101 hji hy0 hy1 hy2 (by decide) (by decide) _ q (dX pl) hP _ 1 (by simp[Act.eval]) (by simp[Act.eval]) dR rfl (by simp[Value.oneCell']) (by simp only[maxLen];omega) (by omega) ?_
         intro zS zT Y3 gY qg qh
         have hS:Y3.cell? ⟨w.heap.size,1,none⟩=some (.slice (some ⟨b,off,none⟩) m ck)∧Y3.cell? ⟨b,off+k*3,none⟩=some (.string key):=⟨gY.aI.cell' b1 id,gY.aI.cell' c0 id⟩
         refine hK.out _ _ hS ?_
         clear hK K qg qh hP
         have dG:=ah gY;clear gY
         try simp only[Act.put,aP,aQ,aO]
         refine gQ (by kernel_rfl) (by kernel_rfl) rfl (fun K hK=>?_)
         go_simp
         refine hK.out _ _ ?_
         clear hK K dR hS
         have c1:=dG.out.aI.cell' c1 id
         have c2:=dG.out.aI.cell' c2 id
         have b1:=dG.out.aI.cell' b1 id
         go_wp2_with(first
          |(go_at_call 50;refine(HIH.out _ dG.out.aI _ (by have:=dG.out.yQ;rw[wG,List.length_append,HQ.out];exact this)).mono ?_;rintro e w3 ⟨v3,l3,rfl,ho3,hd3⟩;obtain⟨a3,c3,rfl⟩:=ho3.own.shape;have ig:=ah ho3;have bJ:=ah ho3.own;clear ho3;have hd4:=congrArg List.length hd3;rw[List.length_map,List.length_map]at hd4;have HD4:=ah hd4;have HD3:=ah hd3;clear hd3 hd4;have HKK:=ah (qQ.out.aN (dG.out.aI.aG bJ.out.aI)))
          |(at_builtin;refine vM _ rfl (.tmp 43) (.tmp 51) 50 50 rfl 103 i0 _ 5 64 Tryz.underlying50 hi hz0 hz1 hz2 (by decide) (by decide) _ _ _ rfl HKK.out.own.own _ l3.length _ rfl (bJ.out.rd.src Tryz.underlying50 (by rw[BO]) (CS ig.out.one)) (by have:=HLEN.out;have:=HD4.out;simp only[maxLen];omega) (by have:=HLEN.out;have:=HD4.out;omega) ?_;intro xO vF w5 bU mV mW _;have OW:=ah (HKK.out.add mV mW bU (fun x hx=>(ig.out.each x hx).turn fun k _ hQ=>⟨rfl, .inr (by have h1:=cZ.out.aI.size;have h2:=dG.out.aI.size;have h3:=hQ.1;omega),fun e=>by have h2:=dG.out.aI.size;have h3:=hQ.1;obtain⟨cur,h4⟩:=iY cZ.out.own e;have h5:=lt_of_block h4;omega⟩) ig.out.one);clear bU mV mW))
         go_roundw
         case rel=>exact⟨k+1,l++l3,by omega,by go_num,OW.out,by rw[HD.out,oq.out,List.map_append,Hz,List.map_append,HD3.out,List.append_assoc]⟩
         case measure=>simp[intOf];omega
       ·go_simp
        have hfA:aj au Y (Y.alloc (.cells #[.string key] 9)):=aj.alloc _ _ _
        have hS:(Y.alloc (.cells #[.string key] 9)).cell? ⟨w.heap.size,1,none⟩=some (.slice (some ⟨b,off,none⟩) m ck)∧(Y.alloc (.cells #[.string key] 9)).cell? ⟨b,off+k*3,none⟩=some (.string key):=⟨hfA.cell' hS.1 id,hfA.cell' hS.2 id⟩
        have eX:=eX.aG hfA
        (try have hne:Y.heap.size≠eb:=by have:=lV;omega)
        (try have hE:=hE.keep hfA)
        (try have hP:=hP.keep hfA)
        have dR:Rd (Y.alloc (.cells #[.string key] 9)) (.slice (some ⟨Y.heap.size,0,none⟩) 1 1) 1 [.string key]:= .inr ⟨Y.heap.size,0,1,rfl,Nat.le_refl _,by decide,fun j u hu=>by rw[Nat.zero_add];exact aJ (heap_alloc_new Y _) j (by simpa using hu)⟩
        refine hK.out _ _ hS ?_
        clear hK K hfA
        obtain⟨kb,gX⟩:∃kb,Y.heap.size=kb:=⟨_,rfl⟩
        rw[gX]at dR⊢
        have hkb:kb<(Y.alloc (.cells #[.string key] 9)).heap.size:=by rw[←gX];simp
        (try rw[gX]at hne)
        clear gX
        generalize Y.alloc (.cells #[.string key] 9)=Y at*
        try simp only[Act.put,aP,aQ,aO]
        refine bK (i:=0) (by kernel_rfl) rfl (fun K hK=>?_)
        go_simp
        have hfA:aj au Y (Y.alloc (.cells #[] 9)):=aj.alloc _ _ _
        have hE:OwnAt wr (Y.alloc (.cells #[] 9)) 9 1 (.slice (some ⟨Y.heap.size,0,none⟩) 0 0) 0 []:=OwnAt.empty eX _ _
        have hS:(Y.alloc (.cells #[] 9)).cell? ⟨w.heap.size,1,none⟩=some (.slice (some ⟨b,off,none⟩) m ck)∧(Y.alloc (.cells #[] 9)).cell? ⟨b,off+k*3,none⟩=some (.string key):=⟨hfA.cell' hS.1 id,hfA.cell' hS.2 id⟩
        have eX:=eX.aG hfA
        (try have hne:kb≠Y.heap.size:=by have:=hkb;omega)
        (try have dR:=dR.aN hfA)
        refine hK.out _ _ hS ?_
        clear hK K hfA
        obtain⟨eb,heb⟩:∃eb,Y.heap.size=eb:=⟨_,rfl⟩
        rw[heb]at hE⊢
        have lV:eb<(Y.alloc (.cells #[] 9)).heap.size:=by rw[←heb];simp
        (try rw[heb]at hne)
        clear heb
        generalize Y.alloc (.cells #[] 9)=Y at*
        try simp only[Act.put,aP,aQ,aO]
        refine bK (i:=2) (by kernel_rfl) rfl (fun K hK=>?_)
        refine oz wr Y (dX pl) rfl (.tmp 32) (.tmp 33) 101 101 rfl 9 9 j0 _ 1 16 Tryz.underlying101 Tryz.underlying101 hji hy0 hy1 hy2 (by decide) (by decide) _ 0 [] hE _ q (by simp[Act.eval]) (by simp[Act.eval]) (nP.out.aN eX) (by rw[wH,HQ.out];omega) (wI _) (by simp only[maxLen];omega) (by omega) ?_
        intro zQ uI Y2 hP kW pY
        rw[Nat.zero_add]at hP
        rw[List.nil_append]at hP
        have hS:Y2.cell? ⟨w.heap.size,1,none⟩=some (.slice (some ⟨b,off,none⟩) m ck)∧Y2.cell? ⟨b,off+k*3,none⟩=some (.string key):=⟨hP.aI.cell' b1 id,hP.aI.cell' c0 id⟩
        have eX:=hP.aI
        (try have dR:=dR.keep kW (fun x hx hr=>by simp[bY,Value.ownBlock]at hx hr;omega))
        rw[Nat.zero_add]
        refine hK.out _ _ hS ?_
        clear hK K kW pY hE lV
        generalize Y2=Y at*
        try simp only[Act.put,aP,aQ,aO]
        refine bK (i:=10) (by kernel_rfl) rfl (fun K hK=>?_)
        refine oz wr Y [.string key] rfl (.tmp 34) (.tmp 41) 101 101 rfl 9 9 j0 _ 1 16 Tryz.underlying101 Tryz.underlying101 hji hy0 hy1 hy2 (by decide) (by decide) _ q (dX pl) hP _ 1 (by simp[Act.eval]) (by simp[Act.eval]) dR rfl (by simp[Value.oneCell']) (by simp only[maxLen];omega) (by omega) ?_
        intro zS zT Y3 gY qg qh
        have hS:Y3.cell? ⟨w.heap.size,1,none⟩=some (.slice (some ⟨b,off,none⟩) m ck)∧Y3.cell? ⟨b,off+k*3,none⟩=some (.string key):=⟨gY.aI.cell' b1 id,gY.aI.cell' c0 id⟩
        refine hK.out _ _ hS ?_
        clear hK K qg qh hP
        have dG:=ah gY;clear gY
        try simp only[Act.put,aP,aQ,aO]
        refine gQ (by kernel_rfl) (by kernel_rfl) rfl (fun K hK=>?_)
        go_simp
        refine hK.out _ _ ?_
        clear hK K dR hS
        have c1:=dG.out.aI.cell' c1 id
        have c2:=dG.out.aI.cell' c2 id
        have b1:=dG.out.aI.cell' b1 id
        go_wp2_with(first
         |(go_at_call 50;refine(HIH.out _ dG.out.aI _ (by have:=dG.out.yQ;rw[wG,List.length_append,HQ.out];exact this)).mono ?_;rintro e w3 ⟨v3,l3,rfl,ho3,hd3⟩;obtain⟨a3,c3,rfl⟩:=ho3.own.shape;have ig:=ah ho3;have bJ:=ah ho3.own;clear ho3;have hd4:=congrArg List.length hd3;rw[List.length_map,List.length_map]at hd4;have HD4:=ah hd4;have HD3:=ah hd3;clear hd3 hd4;have HKK:=ah (qQ.out.aN (dG.out.aI.aG bJ.out.aI)))
         |(at_builtin;refine vM _ rfl (.tmp 43) (.tmp 51) 50 50 rfl 103 i0 _ 5 64 Tryz.underlying50 hi hz0 hz1 hz2 (by decide) (by decide) _ _ _ rfl HKK.out.own.own _ l3.length _ rfl (bJ.out.rd.src Tryz.underlying50 (by rw[BO]) (CS ig.out.one)) (by have:=HLEN.out;have:=HD4.out;simp only[maxLen];omega) (by have:=HLEN.out;have:=HD4.out;omega) ?_;intro xO vF w5 bU mV mW _;have OW:=ah (HKK.out.add mV mW bU (fun x hx=>(ig.out.each x hx).turn fun k _ hQ=>⟨rfl, .inr (by have h1:=cZ.out.aI.size;have h2:=dG.out.aI.size;have h3:=hQ.1;omega),fun e=>by have h2:=dG.out.aI.size;have h3:=hQ.1;obtain⟨cur,h4⟩:=iY cZ.out.own e;have h5:=lt_of_block h4;omega⟩) ig.out.one);clear bU mV mW))
        go_roundw
        case rel=>exact⟨k+1,l++l3,by omega,by go_num,OW.out,by rw[HD.out,oq.out,List.map_append,Hz,List.map_append,HD3.out,List.append_assoc]⟩
        case measure=>simp[intOf];omega
     ·obtain rfl:m=k:=by omega
      have hd:=HD.out
      rw[aH.nZ (by rw[HM.out];exact Nat.le_refl _)]at hd
      have hd2:l.map bV.con=(gW es ks).map (oK pl):=by rw[hd];simp[fZ]
      have HD2:=ah hd2;clear hd2 hd
      go_wp2
      go_ret
      exact⟨_,l,rfl,qQ.out.base bT.out,HD2.out⟩
theorem Oi (Q:Nat→Prop) (es:List aF) (ks:aH) (w:World) (ev kv:Value) (ht:bg Q w ev kv es ks) (hsz:sizeT es ks≤100000):
 Calls Tryz.prog 24 #[.agg #[ev,kv]] w fun e w'=>∃(v':Value) (l:List bV),e= .returned v'∧jD au w w' v' l∧l.map bV.con=gW es ks:=by
 obtain⟨ae,ce,rfl⟩:=ht.ents.rd.sl
 obtain⟨os,hkr,dH⟩:=ht.kids
 obtain⟨ak,ck,rfl⟩:=hkr.rd.sl
 have HC:=ah (fun W (f:aj au w W)=>Yt Q _ au es ks W _ _ (.slice none 0 0) [] (Nat.lt_succ_self _) (ht.aN f) hsz ⟨.inl ⟨none,rfl,rfl,rfl⟩,fun h=>absurd rfl h⟩ (by unfold sizeT at hsz;simp;omega))
 clear hkr dH ht hsz
 go_enter Tryz.func24,Tryz.ntmps24
 go_wp2_with(go_at_call 50;refine(HC.out _ (aj.alloc _ _ _)).mono ?_;rintro e w3 ⟨v3,l,rfl,ho3,hd3⟩;obtain⟨a3,c3,rfl⟩:=ho3.own.shape;have bJ:=ah (ho3.base (aj.alloc au w _));clear ho3;rw[Ym]at hd3;have HD3:=ah hd3;clear hd3)
 go_ret
 exact⟨_,l,rfl,bJ.out,HD3.out⟩
end Go.Proofs.YtlhmbkjdfjoilaaGreat
namespace Go.Proofs.YtlhmbkjdfjoilaaGreat
def zW (x:xG):List Lf:=(jX x.2.1++fZ x.2.2).map fun y=>(x.1::y.1,y.2)
theorem H_:∀ks:aH,fZ ks=(eU ks).flatMap zW
 | .nil=>rfl
 | .cons key es sub rest=>by
   show(jX es++fZ sub).map (fun x=>(key::x.1,x.2))++fZ rest=zW (key,es,sub)++(eU rest).flatMap zW
   rw[H_ rest]
   rfl
def oL (l:List dO):List Lf:=l.flatMap fun x=>gW [] x.1
theorem Oj (a b:List dO):oL (a++b)=oL a++oL b:=by simp[oL]
theorem Ol {n:Nat} (t:dO) (h1:1≤n) (h4:n≤4):(oL (fQ n t)).Perm (gW [] t.1):=by
 have e:oL (fQ n t)=((fQ n t).flatMap fun x=>eU x.1).flatMap zW:=by
  unfold oL
  rw[List.flatMap_assoc]
  refine congrArg List.flatten (List.map_congr_left fun x _=>?_)
  exact H_ x.1
 rw[e,show gW [] t.1=(eU t.1).flatMap zW from H_ t.1]
 exact(MN t h1 h4).flatMap_right _
theorem Yu {n k:Nat} (t:dO) (h:k<n):oL ((fQ n t).take (k+1))=oL ((fQ n t).take k)++gW [] (bH (dA n k) t.1):=by
 rw[take_succ gJ (by rw[Gs];exact h),Oj,Gt t h]
 simp[oL]
theorem Yv {n:Nat} (t:dO) (k:Nat) (h1:1≤n) (h4:n≤4):(oL ((fQ n t).take k)).length≤cu t.1:=by
 have h:=(Ol t h1 h4).length_eq
 have h2:=Hy [] t.1
 unfold sizeT at h2
 rw[←List.take_append_drop k (fQ n t),Oj,List.length_append]at h
 simp only[List.length_nil]at h2
 omega
theorem Yw {n k i:Nat} {ks:aH} {key:ByteArray} {es:List aF} {sub rest:aH} (h:(bH (dA n k) ks).drop i= .cons key es sub rest):rY key n=(k:Int):=by
 have hm:key∈(bH (dA n k) ks).keys:=by
  have:∀(i:Nat) {ks:aH},ks.drop i= .cons key es sub rest→key∈ks.keys:=by
   intro i
   induction i with
   |zero=>intro ks h;cases ks with
    |nil=>cases h
    |cons k' e' s' r'=>cases h;simp[aH.keys]
   |succ i ih=>intro ks h;cases ks with
    |nil=>cases h
    |cons k' e' s' r'=>exact List.mem_cons_of_mem _ (ih (ks:=r') h)
  exact this i h
 rw[tK,List.mem_filter]at hm
 simpa[dA]using hm.2
open Go.RowKit
def xR (s:Int):Nat:=1+(s%4).toNat
theorem Yx (s:Int):((xR s:Nat):Int)=1+s%4:=by unfold xR;omega
theorem Yy (s:Int):1≤xR s∧xR s≤4:=by unfold xR;omega
theorem Yz {w:World} {v:Value} {qs:List bD} (h:uf w v qs) (hs:qs.all nU=true) (hr:qs.all ql=true):XO w qs:=⟨fun q hq=>by
 obtain⟨h1,h2,h3,h4⟩:=h.each q hq
 obtain⟨g1,g2⟩:=NR (List.all_eq_true.1 hs q hq)
 have hrb:=List.all_eq_true.1 hr q hq
 unfold ql at hrb
 rw[Bool.and_eq_true,decide_eq_true_eq]at hrb
 have he:q.es=[]:=List.eq_nil_of_length_eq_zero hrb.2
 have hc:f_ q.es q.ks q.c:=by
  by_cases hc:f_ q.es q.ks q.c
  ·exact hc
  ·rw[bW hc]at hrb;cases hrb.1
 rw[he]at g1 h2 hc
 exact⟨h1,he,⟨⟨h2,by show sizeT [] q.ks≤2000;omega,h3,by show q.c.length≤2000;omega⟩,hc⟩,by unfold sizeT at g1;simpa[qL,bD.g]using g1,g2⟩⟩
theorem YA {w:World} {v:Value} {qs:List bD} (h:uf w v qs) (hs:qs.all nU=true):∀q∈qs,jW q.es q.ks q.c:=fun q hq=>by
 obtain⟨h1,h2,h3,h4⟩:=h.each q hq
 obtain⟨g1,g2⟩:=NR (List.all_eq_true.1 hs q hq)
 exact⟨h2,by omega,h3,by omega⟩
open Go.RowKit
open Go.RowKit
end Go.Proofs.YtlhmbkjdfjoilaaGreat
