/- Words for the law ShardParts: Lv4. -/
import Derived.Test.YtlhmbkjdfjoilaaGreatShardPartsG0
import Derived.Test.YtlhmbkjdfjoilaaGreatShardPartsG23
set_option linter.unusedSimpArgs false
set_option linter.unusedVariables false
set_option maxHeartbeats 32000000
set_option maxRecDepth 1000000
namespace Go.Proofs.YtlhmbkjdfjoilaaGreat
open Go.RowKit
theorem qO.fin {w W W3:World} {ev kv:Value} {es:List aF} {lk:List aY} {ks:aH} (h:qO w W ev kv es lk) (hk:lk.map k3=eU ks) (f:aj (fun x=>x=w.heap.size) W W3):bg (fun b=>w.heap.size≤b) W3 ev kv es ks∧aj au w W3:=by
 obtain rfl:mkK lk=ks:=Gv (by rw[zD,←hk];rfl)
 refine⟨⟨⟨Rd.keep (Rd.own h.base.row) f fun k hk=>?_,fun _ k hk=>h.base.new k hk⟩,oP lk,⟨?_,fun _ k hk=>h.knew k hk⟩,wQ fun q hq=>?_⟩,h.base.aI.trans f fun k hk e=>by omega⟩
 ·obtain⟨cur,h2⟩:=iY h.base.row hk
  exact fU h2 h.base.jV (by decide)
 ·rw[uM,oQ]
  refine Rd.keep (Rd.own h.vG) f fun k hk=>?_
  obtain⟨cur,h2⟩:=iY h.vG hk
  exact fU h2 h.base.jV (by decide)
 ·exact(h.each q hq).2.turn fun k hk hQ=>⟨f.block k hk (by have:=hQ.1;omega),by have:=hQ.1;omega⟩
theorem XV (Q:Nat→Prop):∀(N:Nat) (es:List aF) (ks:aH) (d:Nat) (l:List bV) (w:World) (v:Value),cu ks<N→uY Q w v l→(l.map bV.con).Perm (gW es ks)→aX d es ks=true→l.length≤100000→sizeT es ks≤100000→
 Calls Tryz.prog 26 #[v] w fun e w'=>∃ev kv,e= .returned (.agg #[ev,kv])∧bg (fun b=>w.heap.size≤b) w' ev kv es ks∧aj au w w':=by
 intro N
 induction N with
 |zero=>intros;omega
 |succ N fO=>
  intro es ks d l w v hN hlv hpm hr hl hsz
  have IH:=ah fO;clear fO
  obtain⟨i0,hi0,hz0,hz1,hz2⟩:=info_parts XT
  obtain⟨j0,hj0,hy0,hy1,hy2⟩:=info_parts uN
  have HR:=ah (fun W (f:aj au w W)=>hlv.aN f)
  simp only[aX,Bool.and_eq_true,decide_eq_true_eq]at hr
  have oe:=(EN.1 hr.1.2).2
  have ji:=ah (fun j hj=>Uw hpm oe j hj)
  have XW:=ah (fun j hj=>Uy hpm hr.2 j hj)
  have XY:=ah (fun j k hk=>Us (mO es j) (L:=l.map bV.con) (k:=k) hk)
  have oG:=ah (fun j k hk=>Lu (nM ks j) (L:=l.map bV.con) (k:=k) hk)
  have zJ:=ah hpm
  have uD:=ah hr.2
  have kH:=ah hN
  have jy:=ah hsz
  obtain⟨a,cp,rfl⟩:=hlv.rd.sl
  have oN:es.length≤100000:=by unfold sizeT at hsz;omega
  have wF:ks.len≤100000:=by have:=kG ks;unfold sizeT at hsz;omega
  clear hlv hpm hr hN hsz oe
  obtain⟨m,hm⟩:∃m,m=l.length:=⟨_,rfl⟩
  rw[←hm]
  have HM:=ah hm
  rw[←hm]at hl
  clear hm
  obtain⟨n,hn⟩:∃n,n=es.length:=⟨_,rfl⟩
  rw[←hn]at oN
  have HN:=ah hn;clear hn
  have HB3:=ah (mJ w (.cells #[.slice none 0 0, .slice none 0 0] 28) #[.slice none 0 0, .slice none 0 0] 28)
  have HB2:=ah ((aj.alloc au (w.alloc (.cells #[.slice none 0 0, .slice none 0 0] 28)) (.cells #[.slice none 0 0, .slice none 0 0] 28)).blk (heap_alloc_new w (.cells #[.slice none 0 0, .slice none 0 0] 28)) id)
  go_enter Tryz.func26,Tryz.ntmps26
  go_wp2
  go_loopw [5] (fun _ W=>∃(j:Nat) (ev:Value),j≤n∧qm w W ev (.slice none 0 0) (es.take j)) (fun _ W=>n-CP W ⟨w.heap.size+1,0,none⟩)
  case atStart=>exact⟨0, .slice none 0 0,Nat.zero_le _,HB3.out.2.1,HB2.out,HB3.out.1,World.ownsRow_nil _ 0 _ _,fun k hk=>by simp[Value.ownBlock]at hk⟩
  case round=>
   obtain⟨j,ev,hj,hbe⟩:=hrel
   have qP:=ah hbe
   obtain⟨ae,ce,rfl⟩:=(Rd.own hbe.row).sl
   have htl:(es.take j).length=j:=by rw[List.length_take,←HN.out];omega
   rw[htl]at qP
   clear hbe
   have HF:=ah qP.out.aI
   have z0:=aJ qP.out.eG 0 rfl
   have hlz:=lt_of_block qP.out.eG
   obtain⟨W1,hW1⟩:∃W1,W1=wr.alloc (.cells #[.int .i64 0, .int .i64 0, .string ByteArray.empty, .int .i64 0] 100):=⟨_,rfl⟩
   have hf1:aj au wr W1:=by rw[hW1];exact aj.alloc _ _ _
   have hb4:W1.heap[wr.heap.size]?=some (.cells #[.int .i64 0, .int .i64 0, .string ByteArray.empty, .int .i64 0] 100 (0,0)):=by rw[hW1];exact heap_alloc_new _ _
   have dB:=ah hf1
   have HB4:=ah hb4
   have HW1:=ah hW1
   clear hf1 hb4 hW1
   go_upto_region 5 with fail
   have hz0:ByteArray.empty= {data:= #[]}:=rfl
   first
    |rw[←HW1.out]
    |(have hw:=HW1.out;rw[show(ByteArray.empty:ByteArray)= {data:= #[]}from rfl]at hw;rw[←hw];clear hw)
   clear hz0
   have hz1':W1.cell? ⟨w.heap.size+1,0,none⟩=some (.slice ae j ce):=dB.out.cell' z0 id
   have hl1:w.heap.size+1<W1.heap.size:=World.block_lt_of_cell? _ _ hz1'
   clear z0 hlz
   obtain⟨b4,hb4⟩:∃b4,b4=wr.heap.size:=⟨_,rfl⟩
   rw[←hb4]at HB4⊢
   have hbw:w.heap.size+1<b4:=by rw[hb4];exact lt_of_block qP.out.eG
   have Hl:=ah hb4
   clear hb4
   have xQ:=ah (qP.out.aN dB.out)
   have hcx:0≤j:=Nat.zero_le _
   go_loopw [5,13] (fun sv iv W=>∃(k:Nat) (b:Option aF),k≤m∧iv= .int .i64 k∧sv= .bool b.isSome∧aj (fun x=>x=b4) W1 W∧W.heap[b4]?=some (.cells (b.getD aF.zero).cells.toArray 100 (0,0))∧b=lC (mO es j) ((l.map bV.con).take k)) (fun _ iv _=>m-(intOf iv).toNat)
   case atStart=>exact⟨0,none,Nat.zero_le _,rfl,rfl,aj.refl _ _,HB4.out,rfl⟩
   case round=>
    rename_i Zy
    obtain⟨k,b,hk,rfl,rfl,hfb,hbk,hbb⟩:=hrel
    have bf:=ah hfb
    have fF:=ah hbk
    have tq:=ah hbb
    clear hfb hbk hbb
    have hfw:aj au w wr:=xQ.out.aI.trans bf.out fun i hi e=>by omega
    have iH:=ah hfw
    clear hfw
    by_cases hlt:k<m
    ·have hkl:k<l.length:=by rw[←HM.out];exact hlt
     have hlv:=HR.out _ iH.out
     obtain⟨g0,g1,g2,g3,g4⟩:=BP l k hkl
     have hpk:=hlv.each _ (getD_mem default hkl)
     have hrd:=hlv.rd
     rw[←HM.out]at hrd
     rcases Rd.shape hrd with⟨ad,he,h0⟩|⟨p,off,cc,he,hmx⟩
     ·omega
     injection he with e1 e2 e3
     subst e1 e3
     clear e2
     have hst:=XY.out j k (by rw[List.length_map];exact hkl)
     have hcx:(l.map bV.con).getD k default=(l.getD k default).con:=by rw[getD_at _ (by rw[List.length_map];exact hkl),getD_at _ hkl,List.getElem_map]
     rw[hcx,←tq.out,XU]at hst
     generalize rV:l.getD k default=qb at*
     clear rV hcx
     obtain⟨path,pv,ent⟩:=qb
     have hpk:gy Q wr pv path.length (dX path):=hpk
     obtain⟨ap,cpp,rfl⟩:=hpk.rd.sl
     have hst:lC (mO es j) ((l.map bV.con).take (k+1))=if xP es j b (path,ent)=true then some ent else b:=hst
     have HST:=ah hst
     have ug:∀i,(Value.slice ae j ce).ownBlock=some i→i≠b4:=fun i hi=>by
      obtain⟨cur,h4⟩:=iY qP.out.row hi
      have h5:=lt_of_block h4
      have h6:=Hl.out
      omega
     have hrow:Rd wr (.slice ae j ce) j (fJ (es.take j)):=by
      have h3:=Rd.own xQ.out.row
      rw[htl]at h3
      exact h3.keep bf.out ug
     have hbx:=bf.out.blk xQ.out.eG (by omega)
     have zr:=aJ hbx 0 rfl
     obtain⟨α,hne,K,hK1,hK0,hK2⟩:=worlds wr
     have dV:=ah hK1
     have y0:∀t,(K t).cell? ⟨p,off+k*5,none⟩=some (.slice ap path.length cpp):=fun t=>(hK1 t).cell' (hrd.cell _ _ g0) id
     have y1:∀t,(K t).cell? ⟨p,off+k*5+1,none⟩=some (.int .i64 ent.dc):=fun t=>(hK1 t).cell' (hrd.cell (k*5+1) _ g1) id
     have y2:∀t,(K t).cell? ⟨p,off+k*5+2,none⟩=some (.int .i64 ent.n):=fun t=>(hK1 t).cell' (hrd.cell (k*5+2) _ g2) id
     have x0:∀t,(K t).cell? ⟨w.heap.size+1,0,none⟩=some (.slice ae j ce):=fun t=>(hK1 t).cell' zr id
     have b0:∀t,(K t).cell? ⟨b4,0,none⟩=some (.int .i64 (b.getD aF.zero).dc):=fun t=>(hK1 t).cell' (aJ fF.out 0 rfl) id
     have b1:∀t,(K t).cell? ⟨b4,1,none⟩=some (.int .i64 (b.getD aF.zero).n):=fun t=>(hK1 t).cell' (aJ fF.out 1 rfl) id
     have XZ:=ah (⟨hrd.cell (k*5+1) _ g1,hrd.cell (k*5+2) _ g2,hrd.cell (k*5+3) _ g3,hrd.cell (k*5+4) _ g4⟩:wr.cell? ⟨p,off+(k*5+1),none⟩=some (.int .i64 ent.dc)∧wr.cell? ⟨p,off+(k*5+2),none⟩=some (.int .i64 ent.n)∧wr.cell? ⟨p,off+(k*5+3),none⟩=some (.string ent.s)∧wr.cell? ⟨p,off+(k*5+4),none⟩=some (.int .i64 ent.k))
     have Ho:=ah hrow
     have jT:=ah (show xP es j b (path,ent)=((decide (path.length=0)&&(decide (j=0)||ltD (es.getD (j-1) aF.zero) ent))&&oJ ent b)from rfl)
     have hki:(k:Int)<(m:Int):=by omega
     have hlz:=World.block_lt_of_cell? _ _ zr
     clear hrd hlv g0 g1 g2 g3 g4 hpk hrow hbx hst ug
     generalize path.length=pl at*
     go_upto_region 8 with fail
     clear zr hlz
     go_cut [60] (fun v wx=>v= .bool (xP es j b (path,ent))∧aj au wr wx)
     case first=>
      by_cases hp0:pl=0
      ·subst hp0
       rcases Nat.eq_zero_or_pos j with hj0|hj0
       ·subst hj0
        cases b with
        |none=>
         refine dh K (by kernel_rfl) (by kernel_rfl) hK0 ?_
         repeat(go_big_quiet_step (fail))
         refine wpQuiet_nil ?_
         intro w' hw'
         obtain⟨t,rfl⟩:=hw'
         go_wp2
         go_meet
         case rel=>exact⟨by rw[jT.out];simp[oJ],dV.out t⟩
        |some y=>
         have HL2:=ah (fun W=>sH ent.dc ent.n y.dc y.n W)
         cases h2:kX ent.dc ent.n y.dc y.n with
         |true=>
          rw[h2]at HL2
          refine dh K (by kernel_rfl) (by kernel_rfl) hK0 ?_
          repeat(go_big_quiet_step (((go_at_call 51;exact Calls.aZ hK2 (HL2.out _)))))
          refine wpQuiet_nil ?_
          intro w' hw'
          obtain⟨t,rfl⟩:=hw'
          go_wp2
          go_meet
          case rel=>exact⟨by rw[jT.out];simp[oJ,ltD,h2],dV.out t⟩
         |false=>
          rw[h2]at HL2
          refine dh K (by kernel_rfl) (by kernel_rfl) hK0 ?_
          repeat(go_big_quiet_step (((go_at_call 51;exact Calls.aZ hK2 (HL2.out _)))))
          refine wpQuiet_nil ?_
          intro w' hw'
          obtain⟨t,rfl⟩:=hw'
          go_wp2
          go_meet
          case rel=>exact⟨by rw[jT.out];simp[oJ,ltD,h2],dV.out t⟩
       ·obtain⟨j',rfl⟩:∃j',j=j'+1:=⟨j-1,by omega⟩
        have hjl:j'<(es.take (j'+1)).length:=by rw[htl];omega
        obtain⟨e0,e1,-,-⟩:=DW (es.take (j'+1)) j' hjl
        have hge:(es.take (j'+1)).getD j' aF.zero=es.getD j' aF.zero:=by rw[getD_at _ hjl,List.getElem_take,←getD_at aF.zero]
        rw[hge]at e0 e1
        rcases Rd.shape Ho.out with⟨ad,he,h0⟩|⟨q,qo,qc,he,Zz⟩
        ·omega
        injection he with e3 e4 e5
        subst e3 e5
        clear e4
        have q0:∀t,(K t).cell? ⟨q,qo+j'*4,none⟩=some (.int .i64 (es.getD j' aF.zero).dc):=fun t=>(hK1 t).cell' (Ho.out.cell _ _ e0) id
        have q1:∀t,(K t).cell? ⟨q,qo+j'*4+1,none⟩=some (.int .i64 (es.getD j' aF.zero).n):=fun t=>(hK1 t).cell' (Ho.out.cell (j'*4+1) _ e1) id
        have hj1:(((j'+1:Nat):Int)==0)=false:=by simp;omega
        have hj2:(((j':Int)+1)==0)=false:=by simp;omega
        have hj3:(j':Int)+1≤100000:=by omega
        have ZA:IntKind.i64.wrap ((j':Int)+1-1)=(j':Int):=by rw[IntKind.wrap_i64];omega
        clear e0 e1 hjl hge
        have jC:=ah (fun W=>sH (es.getD j' aF.zero).dc (es.getD j' aF.zero).n ent.dc ent.n W)
        have N_:ltD (es.getD j' aF.zero) ent=kX (es.getD j' aF.zero).dc (es.getD j' aF.zero).n ent.dc ent.n:=rfl
        have X_:=ah N_
        clear N_
        have Hq:=jT.out
        rw[show j'+1-1=j' from rfl,X_.out]at Hq
        have jT:=ah Hq
        clear Hq
        generalize (es.getD j' aF.zero).dc=pd at*
        generalize (es.getD j' aF.zero).n=pn at*
        cases h1:kX pd pn ent.dc ent.n with
        |false=>
         rw[h1]at jC
         refine dh K (by kernel_rfl) (by kernel_rfl) hK0 ?_
         repeat(go_big_quiet_step (((go_at_call 51;exact Calls.aZ hK2 (jC.out _)))))
         refine wpQuiet_nil ?_
         intro w' hw'
         obtain⟨t,rfl⟩:=hw'
         go_wp2
         go_meet
         case rel=>exact⟨by rw[jT.out];simp[oJ,h1],dV.out t⟩
        |true=>
         rw[h1]at jC
         cases b with
         |none=>
          refine dh K (by kernel_rfl) (by kernel_rfl) hK0 ?_
          repeat(go_big_quiet_step (((go_at_call 51;exact Calls.aZ hK2 (jC.out _)))))
          refine wpQuiet_nil ?_
          intro w' hw'
          obtain⟨t,rfl⟩:=hw'
          go_wp2
          go_meet
          case rel=>exact⟨by rw[jT.out];simp[oJ,h1],dV.out t⟩
         |some y=>
          have HL2:=ah (fun W=>sH ent.dc ent.n y.dc y.n W)
          cases h2:kX ent.dc ent.n y.dc y.n with
          |true=>
           rw[h2]at HL2
           refine dh K (by kernel_rfl) (by kernel_rfl) hK0 ?_
           repeat(go_big_quiet_step ((first|(go_at_call_of 51 pd;exact Calls.aZ hK2 (jC.out _))|(go_at_call_of 51 y;exact Calls.aZ hK2 (HL2.out _)))))
           refine wpQuiet_nil ?_
           intro w' hw'
           obtain⟨t,rfl⟩:=hw'
           go_wp2
           go_meet
           case rel=>exact⟨by rw[jT.out];simp[oJ,h1,ltD,h2],dV.out t⟩
          |false=>
           rw[h2]at HL2
           refine dh K (by kernel_rfl) (by kernel_rfl) hK0 ?_
           repeat(go_big_quiet_step ((first|(go_at_call_of 51 pd;exact Calls.aZ hK2 (jC.out _))|(go_at_call_of 51 y;exact Calls.aZ hK2 (HL2.out _)))))
           refine wpQuiet_nil ?_
           intro w' hw'
           obtain⟨t,rfl⟩:=hw'
           go_wp2
           go_meet
           case rel=>exact⟨by rw[jT.out];simp[oJ,h1,ltD,h2],dV.out t⟩
      ·have hp1:((pl:Int)==0)=false:=by simpa using hp0
       refine dh K (by kernel_rfl) (by kernel_rfl) hK0 ?_
       repeat(go_big_quiet_step (fail))
       refine wpQuiet_nil ?_
       intro w' hw'
       obtain⟨t,rfl⟩:=hw'
       go_wp2
       go_meet
       case rel=>exact⟨by rw[jT.out];simp[oJ,hp0],dV.out t⟩
     case rest=>
      obtain⟨rfl,hfr⟩:=hcut
      obtain⟨w8,rfl⟩:∃w8,w8=wc:=⟨_,rfl⟩
      have lT:=ah hfr
      clear hfr hK0 hK1 hK2 y0 y1 y2 x0 b0 b1
      generalize xP es j b (path,ent)=NB at*
      cases NB with
      |false=>
       go_wp2
       go_roundw
       case rel=>
        have hst2:=HST.out
        exact⟨k+1,b,by omega,by go_num,rfl,bf.out.trans lT.out fun _ _ h=>h.elim,lT.out.blk fF.out id,by simpa using hst2.symm⟩
       case measure=>simp[intOf];omega
      |true=>
       obtain⟨c1,c2,c3,c4⟩:=XZ.out
       have c1:w8.cell? ⟨p,off+k*5+1,none⟩=some (.int .i64 ent.dc):=lT.out.cell' c1 id
       have c2:w8.cell? ⟨p,off+k*5+2,none⟩=some (.int .i64 ent.n):=lT.out.cell' c2 id
       have c3:w8.cell? ⟨p,off+k*5+3,none⟩=some (.string ent.s):=lT.out.cell' c3 id
       have c4:w8.cell? ⟨p,off+k*5+4,none⟩=some (.int .i64 ent.k):=lT.out.cell' c4 id
       have hb8:w8.heap[b4]?=some (.cells #[.int .i64 (b.getD aF.zero).dc, .int .i64 (b.getD aF.zero).n, .string (b.getD aF.zero).s, .int .i64 (b.getD aF.zero).k] 100 (0,0)):=lT.out.blk fF.out id
       have yK:=ah (XR hb8 (.int .i64 ent.dc) (.int .i64 ent.n) (.string ent.s) (.int .i64 ent.k))
       have uh:=ah (XQ w8 b4 (.int .i64 ent.dc) (.int .i64 ent.n) (.string ent.s) (.int .i64 ent.k))
       have d0:=aJ hb8 0 rfl
       have d1:=aJ hb8 1 rfl
       have d2:=aJ hb8 2 rfl
       have d3:=aJ hb8 3 rfl
       have f0:=bG hb8 0
       have f1:=bG hb8 1
       have f2:=bG hb8 2
       have f3:=bG hb8 3
       have Oa:=lt_of_block hb8
       have hlp:=World.block_lt_of_cell? _ _ c1
       clear hb8
       go_wp2
       go_roundw
       case rel=>
        have hst2:=HST.out
        exact⟨k+1,some ent,by omega,by go_num,rfl,(bf.out.trans lT.out fun _ _ h=>h.elim).trans uh.out fun _ _ h=>h,yK.out,by simpa using hst2.symm⟩
       case measure=>simp[intOf];omega
    ·obtain rfl:m=k:=by omega
     have hall:(l.map bV.con).take m=l.map bV.con:=List.take_of_length_le (by rw[List.length_map,←HM.out];exact Nat.le_refl _)
     have hbn:=tq.out
     rw[hall,ji.out j (by rw[←HN.out];exact hj)]at hbn
     cases b with
     |some e=>
      have hjn:j<n:=by
       rcases Nat.lt_or_ge j n with h|h
       ·exact h
       ·rw[List.getElem?_eq_none (by rw[←HN.out];exact h)]at hbn;cases hbn
      have Ya:=ah (show es.take (j+1)=es.take j++ [e] by
       rw[take_succ aF.zero (by rw[←HN.out];exact hjn),getD_at _ (by rw[←HN.out];exact hjn)]
       rw[List.getElem?_eq_getElem (by rw[←HN.out];exact hjn)]at hbn
       injection hbn with hbn
       rw[hbn])
      clear hbn hall
      have hbx:=bf.out.blk xQ.out.eG (by omega)
      have x0:=aJ hbx 0 rfl
      have d0:=aJ fF.out 0 rfl
      have d1:=aJ fF.out 1 rfl
      have d2:=aJ fF.out 2 rfl
      have d3:=aJ fF.out 3 rfl
      have hlx:=lt_of_block hbx
      have hld:=lt_of_block fF.out
      have ug:∀i,(Value.slice ae j ce).ownBlock=some i→i≠b4:=fun i hi=>by
       obtain⟨cur,h4⟩:=iY qP.out.row hi
       have h5:=lt_of_block h4
       have h6:=Hl.out
       omega
      have hbw2:=xQ.out.NV bf.out hbw ug
      have pW:=ah hbw2
      have hown:=hbw2.row
      rw[htl]at hown
      have HOW:=ah hown
      clear ug hbw2 hown hbx
      go_wp2_with(at_builtin;refine CX _ [.int .i64 e.dc, .int .i64 e.n, .string e.s, .int .i64 e.k] rfl (.tmp 70) (.tmp 72) 25 rfl 100 i0 _ 4 40 Tryz.underlying25 hi0 hz0 hz1 hz2 (by decide) (by decide) _ _ _ HOW.out 1 1 rfl (by simp[Act.eval]) rfl (by simp[Value.oneCell']) (by simp only[maxLen];omega) (by omega) ?_;intro ad cc w5 bU mV mW;clear x0 d0 d1 d2 d3 hlx hld;have HAD:=ah (pW.out.add (e:=e) mV mW (by rw[htl];exact bU));clear bU mV mW;have x0:=aJ HAD.out.1 0 rfl;have xf:=bG HAD.out.1 0;have hlx:=lt_of_block HAD.out.1)
      go_roundw
      case rel=>exact⟨j+1,_,by omega,by rw[Ya.out];exact HAD.out.2⟩
      case measure=>
       rw[CQ (aJ HAD.out.2.eG 0 rfl),CQ (aJ qP.out.eG 0 rfl)]
       omega
     |none=>
      have hjn:n≤j:=by
       rcases Nat.lt_or_ge j n with h|h
       ·rw[List.getElem?_eq_getElem (by rw[←HN.out];exact h)]at hbn;cases hbn
       ·exact h
      obtain rfl:n=j:=by omega
      have hae:es.take n=es:=List.take_of_length_le (by rw[←HN.out];exact Nat.le_refl _)
      have ug:∀i,(Value.slice ae n ce).ownBlock=some i→i≠b4:=fun i hi=>by
       obtain⟨cur,h4⟩:=iY qP.out.row hi
       have h5:=lt_of_block h4
       have h6:=Hl.out
       omega
      have hbw2:=xQ.out.NV bf.out hbw ug
      rw[hae]at hbw2
      have pW:=ah hbw2
      clear ug hbw2 hae hbn hall hjn hj hlt
      obtain⟨kn,hkn⟩:∃kn,kn=ks.len:=⟨_,rfl⟩
      rw[←hkn]at wF
      have pF:=ah hkn;clear hkn
      have fK:=ah (ks.nJ)
      have cZ:=ah (oC _ _ _ uD.out)
      have b5:(none:Option aF).isSome=false:=rfl
      go_upto_region 14 with fail
      go_loopw [8] (fun lv W=>∃(j:Nat) (kv:Value) (lk:List aY),j≤kn∧lv= .string (nM ks j)∧qO w W (.slice ae (es.length) ce) kv es lk∧lk.map k3=(eU ks).take j) (fun _ W=>kn-CP W ⟨w.heap.size+1,1,none⟩)
      case atStart=>exact⟨0, .slice none 0 0,[],Nat.zero_le _,rfl,⟨by rw[←HN.out];exact pW.out,World.ownsRow_nil _ 0 _ _,fun k hk=>by simp[Value.ownBlock]at hk,fun q hq=>(by cases hq)⟩,rfl⟩
      case round=>
       obtain⟨j,kv,lk,hj,rfl,hbk,hlk⟩:=hrel
       obtain⟨wv,hwv⟩:∃wv,wv=wr:=⟨wr,rfl⟩
       have Hr:(eU ks).length=ks.keys.length:=by rw[←Gx,List.length_map]
       have Ht:lk.length=j:=by have:=congrArg List.length hlk;rw[List.length_map,List.length_take,Hr,fK.out,←pF.out]at this;omega
       obtain⟨ak,ck,rfl⟩:=(Rd.own hbk.vG).sl
       rw[Ht]at hbk
       have jo:=ah hbk
       have jI:=ah hlk
       have kE:=ah Ht
       have x1:=aJ hbk.base.eG 1 rfl
       have Ob:=lt_of_block hbk.base.eG
       have Yb:=ah Hr
       clear hbk hlk Ht Hr
       have Yc:=ah (XW.out j (by rw[fK.out,←pF.out];exact hj))
       have Yd:=ah (fun k hk=>oG.out j k hk)
       have Ye:=ah hj
       generalize nM ks j=last at*
       go_upto_region 16 with fail
       go_loopw [9,77] (fun bv iv W=>∃(k:Nat) (b:Option ByteArray),k≤m∧iv= .int .i64 k∧bv= .string (b.getD {data:= #[]})∧W=wv∧b=rX last ((l.map bV.con).take k)∧∀y,b=some y→bQ last y=true) (fun _ iv _=>m-(intOf iv).toNat)
       case atStart=>exact⟨0,none,Nat.zero_le _,rfl,rfl,hwv.symm,rfl,fun y hy=>(by cases hy)⟩
       case round=>
        obtain⟨k,b,hk,rfl,rfl,Yf,hbb,hby⟩:=hrel
        subst Yf
        subst hwv
        have tq:=ah hbb
        have jR:=ah hby
        clear hbb hby
        by_cases hlt:k<m
        ·have hkl:k<l.length:=by rw[←HM.out];exact hlt
         have hlv:=HR.out _ jo.out.base.aI
         obtain⟨g0,-,-,-,-⟩:=BP l k hkl
         have hpk:=hlv.each _ (getD_mem default hkl)
         have hrd:=hlv.rd
         rw[←HM.out]at hrd
         rcases Rd.shape hrd with⟨ad,he,h0⟩|⟨p,off,cc,he,hmx⟩
         ·omega
         injection he with e1 e2 e3
         subst e1 e3
         clear e2
         have hst:=Yd.out k (by rw[List.length_map];exact hkl)
         have hcx:(l.map bV.con).getD k default=(l.getD k default).con:=by rw[getD_at _ (by rw[List.length_map];exact hkl),getD_at _ hkl,List.getElem_map]
         rw[hcx,←tq.out]at hst
         generalize rV:l.getD k default=qb at*
         clear rV hcx
         obtain⟨path,pv,ent⟩:=qb
         have hst2:rX last ((l.map bV.con).take (k+1))=pJ last b (path,ent):=hst
         have HST:=ah hst2
         clear hst hst2
         have hpk:gy Q _ pv path.length (dX path):=hpk
         obtain⟨ap,cpp,rfl⟩:=hpk.rd.sl
         have g0:(iD l)[k*5]?=some (.slice ap path.length cpp):=g0
         have y0:=hrd.cell _ _ g0
         have hlp:=World.block_lt_of_cell? _ _ y0
         have hki:(k:Int)<(m:Int):=by omega
         clear hrd hlv g0 hkl
         cases path with
         |nil=>
          clear hpk
          go_wp2
          go_roundw
          case rel=>exact⟨k+1,b,by omega,by go_num,rfl,by first|rfl|trivial,by rw[HST.out];rfl,jR.out⟩
          case measure=>simp[intOf];omega
         |cons k0 pt=>
          rcases Rd.shape hpk.rd with⟨ad,he,h0⟩|⟨pg,po,pc,he,Uk⟩
          ·simp at h0
          injection he with e1 e2 e3
          subst e1 e3
          clear e2
          have x0:=hpk.rd.cell 0 (.string k0) rfl
          rw[Nat.add_zero]at x0
          have hlx:=World.block_lt_of_cell? _ _ x0
          clear hpk
          have hbk0:pJ last b (k0::pt,ent)=if bQ last k0=true then pJ last b (k0::pt,ent)else b:=by
           by_cases h:bQ last k0=true
           ·rw[if_pos h]
           ·rw[if_neg h];unfold pJ;simp only;rw[if_neg h]
          have HB0:=ah hbk0;clear hbk0
          have y0:wr.cell? ⟨p,off+k*5,none⟩=some (.slice (some ⟨pg,po,none⟩) (pt.length+1) cpp):=y0
          have hps:(pt.length+1:Nat)=pt.length+1:=rfl
          obtain⟨pn,hpn⟩:∃pn,pn=pt.length+1:=⟨_,rfl⟩
          rw[←hpn]at y0
          have hpt:(0:Int)<(pn:Int):=by omega
          clear hps hpn
          cases h1:bQ last k0 with
          |false=>
           have Hu:=ET 9 k0 last
           rw[show Op.bytesLess last.toList k0.toList=false from h1]at Hu
           have HX:=ah h1
           clear h1
           go_wp2
           go_roundw
           case rel=>exact⟨k+1,b,by omega,by go_num,rfl,by trivial,by rw[HST.out,HB0.out,HX.out];rfl,jR.out⟩
           case measure=>simp[intOf];omega
          |true=>
           have Hu:=ET 9 k0 last
           rw[show Op.bytesLess last.toList k0.toList=true from h1]at Hu
           have HX:=ah h1
           clear h1
           cases b with
           |none=>
            go_wp2
            go_roundw
            case rel=>exact⟨k+1,some k0,by omega,by go_num,rfl,by first|rfl|trivial,by rw[HST.out];simp[pJ,HX.out],fun y hy=>by injection hy with hy;rw[←hy];exact HX.out⟩
            case measure=>simp[intOf];omega
           |some y=>
            have hye:=NZ (jR.out y rfl)
            have Yg:(y.toList==({data:= #[]}:ByteArray).toList)=false:=by rw[show({data:= #[]}:ByteArray).toList=[] by rw[ByteArray.toList_eq]];exact hye
            cases h2:bQ k0 y with
            |true=>
             have h2b:Op.bytesLess k0.toList y.toList=true:=h2
             have HY:=ah h2
             clear h2
             go_wp2
             go_roundw
             case rel=>exact⟨k+1,some k0,by omega,by go_num,rfl,by first|rfl|trivial,by rw[HST.out];unfold pJ;simp only;rw[if_pos HX.out,if_pos HY.out],fun y hy=>by injection hy with hy;rw[←hy];exact HX.out⟩
             case measure=>simp[intOf];omega
            |false=>
             have h2b:Op.bytesLess k0.toList y.toList=false:=h2
             have HY:=ah h2
             clear h2
             go_wp2
             go_roundw
             case rel=>exact⟨k+1,some y,by omega,by go_num,rfl,by first|rfl|trivial,by rw[HST.out];unfold pJ;simp only;rw[if_pos HX.out,if_neg (by rw[HY.out];decide)],jR.out⟩
             case measure=>simp[intOf];omega
        ·obtain rfl:m=k:=by omega
         have hall:(l.map bV.con).take m=l.map bV.con:=List.take_of_length_le (by rw[List.length_map,←HM.out];exact Nat.le_refl _)
         have hbn:=tq.out
         rw[hall,Yc.out]at hbn
         cases b with
         |none=>
          have hjn:kn≤j:=by
           rcases Nat.lt_or_ge j kn with h|h
           ·rw[List.getElem?_eq_getElem (by rw[fK.out,←pF.out];exact h)]at hbn;cases hbn
           ·exact h
          have hlk2:lk.map k3=eU ks:=by rw[jI.out,List.take_of_length_le (by rw[Yb.out,fK.out,←pF.out];exact hjn)]
          have HKK:=ah hlk2
          clear hlk2 hjn hbn hall x1 Ob
          have hb3:=jo.out.base.eG
          have hb2:=jo.out.base.jV
          have y0:=aJ hb3 0 rfl
          have y1:=aJ hb3 1 rfl
          have x0:=aJ hb2 0 rfl
          have x1:=aJ hb2 1 rfl
          have g0:=bG hb2 0
          have g1:=bG hb2 1
          have hl3:=lt_of_block hb3
          have hl2:=lt_of_block hb2
          have HR2:=ah (eP (eP hb2 0 (.slice ae es.length ce)) 1 (.slice ak j ck))
          have lG:=ah ((aj.setCell (S:=fun x=>x=w.heap.size) wr (p:=⟨w.heap.size,0,none⟩) (.inl rfl) (.slice ae es.length ce)).trans (aj.setCell (S:=fun x=>x=w.heap.size) _ (p:=⟨w.heap.size,1,none⟩) (.inl rfl) (.slice ak j ck)) fun _ _ h=>h)
          clear hb3 hb2
          go_wp2
          clear y0 y1 x0 x1 g0 g1
          have z0:=aJ HR2.out 0 rfl
          have z1:=aJ HR2.out 1 rfl
          have hfin:=qO.fin jo.out HKK.out lG.out
          refine bodyPost_ret (v:= .agg #[.slice ae es.length ce, .slice ak j ck]) (by simp[results,Tryz.results26,go_sem,z0,z1]) rfl ⟨_,_,rfl,hfin.1,hfin.2⟩
         |some key=>
          have hjn:j<kn:=by
           rcases Nat.lt_or_ge j kn with h|h
           ·exact h
           ·rw[List.getElem?_eq_none (by rw[fK.out,←pF.out];exact h)]at hbn;cases hbn
          have hmem:key∈ks.keys:=List.mem_of_getElem? hbn.symm
          have je:=ah (NY cZ.out.1 hbn.symm)
          have Yh:=ah (show nM ks (j+1)=key by
           unfold nM
           rw[if_neg (by omega),Nat.add_sub_cancel,List.getD_eq_getElem?_getD,←hbn]
           rfl)
          have uh:=ah (NW hmem)
          have jg:=ah (wY (k:=key) uD.out (wZ uD.out hmem))
          have CB:=ah (show(iV key (l.map bV.con)).Perm (gW (ks.find key).1 (ks.find key).2) by
           rw[←Un cZ.out.1 hmem];exact Uo key zJ.out)
          have Yi:=ah (Ur key (l.map bV.con))
          have HU:=ah (fun W (f:aj au w W)=>Uj Q l W (.slice a m cp) key (by have h:=HR.out W f;rw[←HM.out]at h;exact h) (by rw[←HM.out];exact hl))
          have hye:=NZ (jR.out key rfl)
          have Yg:(key.toList==({data:= #[]}:ByteArray).toList)=false:=by rw[show({data:= #[]}:ByteArray).toList=[] by rw[ByteArray.toList_eq]];exact hye
          have pG:=ah hjn
          have jO:=(aj.drew au wr).cell' (aJ jo.out.base.eG 1 rfl) id
          have jU:=ah (aj.drew au wr)
          clear hmem hbn hall hjn x1 Ob
          generalize (ks.find key).1=fe at*
          generalize (ks.find key).2=fk at*
          simp only[Option.getD_some]
          go_upto_region 23 with fail
          refine iZ (S:=fun Y=>Y.cell? ⟨w.heap.size+1,1,none⟩=some (.slice ak j ck)) 11 (by kernel_rfl) jO ?_
          clear jO
          intro hS
          generalize World.drew _=Y0 at*
          refine aT 0 124 rfl rfl (v:=?_) (.inl ⟨by rfl,?_⟩) ?_
          rotate_left 1
          ·(intro w hSw;(try dsimp only at hSw);go_simp;(try with_reducible rfl))
          refine aT 1 125 rfl rfl (v:=?_) (.inl ⟨by rfl,?_⟩) ?_
          rotate_left 1
          ·(intro w hSw;(try dsimp only at hSw);go_simp;(try with_reducible rfl))
          try simp only[Act.put,aP,aQ,aO]
          refine aT 2 126 rfl rfl (v:=?_) (.inl ⟨by rfl,?_⟩) ?_
          rotate_left 1
          ·(intro w hSw;(try dsimp only at hSw);go_simp;(try with_reducible rfl))
          refine aT 3 127 rfl rfl (v:=?_) (.inl ⟨by rfl,?_⟩) ?_
          rotate_left 1
          ·(intro w hSw;(try dsimp only at hSw);go_simp;(try with_reducible rfl))
          try simp only[Act.put,aP,aQ,aO]
          refine aT 4 128 rfl rfl (v:=?_) (.inl ⟨by rfl,?_⟩) ?_
          rotate_left 1
          ·(intro w hSw;(try dsimp only at hSw);go_simp;(try with_reducible rfl))
          try simp only[Act.put,aP,aQ,aO]
          refine bK (i:=5) (by kernel_rfl) rfl (fun K hK=>?_)
          go_simp
          refine(HU.out _ (jo.out.base.aI.aG jU.out)).mono ?_
          rintro e Y1 ⟨uv,l',rfl,ho,Oc,hcl⟩
          obtain⟨a8,c8,rfl⟩:=ho.shape
          have zV:=ah (⟨ho.rd,Oc⟩:uY Q Y1 _ l')
          have qH:=ah hcl
          have dB:=ah (jU.out.aG ho.aI)
          have hS1:=ho.aI.cell' hS id
          refine hK.out _ _ hS1 ?_
          clear hK K hS ho Oc hcl
          have hS:=hS1
          clear hS1
          try simp only[Act.put,aP,aQ,aO]
          refine bK (i:=6) (by kernel_rfl) rfl (fun K hK=>?_)
          go_simp
          refine(IH.out fe fk (d-1) l' Y1 _ (by have h1:=uh.out;have h2:=kH.out;unfold sizeT at h1;omega) zV.out (by rw[qH.out];exact CB.out) jg.out (by have h1:=Yi.out;rw[←qH.out,List.length_map,List.length_map,←HM.out]at h1;omega) (by have h1:=uh.out;have h2:=jy.out;unfold sizeT at h1 h2;unfold sizeT;omega)).mono ?_
          rintro e Y2 ⟨ZB,NP,rfl,hta,hf2⟩
          obtain⟨a9,c9,rfl⟩:=hta.ents.rd.sl
          obtain⟨os2,hkr,-⟩:=hta.kids
          obtain⟨a10,c10,rfl⟩:=hkr.rd.sl
          have Yj:=ah hta
          have HF2:=ah (dB.out.aG hf2)
          have ZC:=ah hf2
          have hS1:=hf2.cell' hS id
          refine hK.out _ _ hS1 ?_
          clear hK K hS hta hkr hf2
          have hS:=hS1
          clear hS1
          try simp only[Act.put,aP,aQ,aO]
          refine aT 7 131 rfl rfl (v:=?_) (.inl ⟨by rfl,?_⟩) ?_
          rotate_left 1
          ·(intro w hSw;(try dsimp only at hSw);go_simp;(try with_reducible rfl))
          try simp only[Act.put,aP,aQ,aO]
          refine bK (i:=8) (by kernel_rfl) rfl (fun K hK=>?_)
          go_simp
          refine vg _ _ _ (fun Y3 hf3 hb3 hs3=>?_)
          have vw:=ah hb3
          have HF3:=ah (HF2.out.aG hf3)
          have Yk:=ah hf3
          have hS1:=hf3.cell' hS id
          refine hK.out _ _ hS1 ?_
          clear hK K hS hf3 hb3 hs3
          have hS:=hS1
          clear hS1
          try simp only[Act.put,aP,aQ,aO]
          refine bK (i:=9) (by kernel_rfl) rfl (fun K hK=>?_)
          have Oe:=ah (jo.out.aN HF3.out)
          have hrow:=Oe.out.vG
          rw[kE.out]at hrow
          have Og:j≤100000:=by have:=Ye.out;omega
          refine GV Y3 _ [.string key, .slice a9 _ c9, .slice a10 _ c10] rfl (.tmp 125) (.tmp 132) 26 rfl 52 j0 _ 3 64 Tryz.underlying26 hj0 hy0 hy1 hy2 (by decide) (by decide) (.slice ak j ck) j _ hrow 1 1 (by simp[Act.eval]) (by simp[Act.eval]) vw.out rfl (by simp[Value.oneCell']) (by simp only[maxLen];omega) (by omega) ?_
          intro ad cc w2 bn jP nS
          have hadd:=Oe.out.add (q:=⟨key,fe,fk, .slice a9 _ c9, .slice a10 _ c10⟩) jP nS (by rw[kE.out];exact bn) ⟨⟨⟨_,_,_,rfl⟩,_,_,_,rfl⟩,(Yj.out.aN Yk.out).turn fun x hx hQ=>⟨rfl,by
           have h1:=dB.out.size
           have h2:=lt_of_block jo.out.base.eG
           refine⟨by omega,fun e=>?_⟩
           obtain⟨cur,h4⟩:=iY jo.out.vG e
           have:=lt_of_block h4
           omega⟩⟩
          have HAD:=ah hadd
          have hS1:=aJ hadd.1 1 rfl
          refine hK.out _ _ hS1 ?_
          clear hK K hS bn jP nS hadd hrow Og
          have hS:=hS1
          clear hS1
          try simp only[Act.put,aP,aQ,aO]
          refine aT 10 134 rfl rfl (v:=?_) (.inl ⟨by rfl,?_⟩) ?_
          rotate_left 1
          ·(intro w hSw;(try dsimp only at hSw);go_simp;(try with_reducible rfl))
          try simp only[Act.put,aP,aQ,aO]
          refine gQ (by kernel_rfl) (by kernel_rfl) rfl (fun K hK=>?_)
          have g1:=bG HAD.out.1 1
          have gl:=lt_of_block HAD.out.1
          have q1:=hS
          go_simp
          refine hK.out _ _ ?_
          clear hK K hS q1 g1 gl
          go_wp2
          go_roundw
          case rel=>
           have had:=HAD.out.2
           have hq3:(lk++ [(⟨key,fe,fk, .slice a9 fe.length c9, .slice a10 fk.len c10⟩:aY)]).map k3=(eU ks).take (j+1):=by
            rw[List.take_add_one,je.out,List.map_append,jI.out]
            simp[k3]
           (repeat apply Exists.intro)
           refine⟨?rel,rfl⟩
           case rel=>exact⟨j+1,_,_,pG.out,by rw[Yh.out],had,hq3⟩
          case measure=>
           have Og:=pG.out
           rw[CQ (aJ HAD.out.2.base.eG 1 rfl),CQ (aJ jo.out.base.eG 1 rfl)]
           omega
end Go.Proofs.YtlhmbkjdfjoilaaGreat
