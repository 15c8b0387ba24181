/- Words for the law ShardPlays: Lv4, Sh22, Sh23, Sh24, Lv7, Ps4. -/
import Derived.Test.YtlhmbkjdfjoilaaGreatShardPlaysG0
import Derived.Test.YtlhmbkjdfjoilaaGreatShardPlaysG20
import Derived.Test.YtlhmbkjdfjoilaaGreatShardPlaysG22
import Derived.Test.YtlhmbkjdfjoilaaGreatShardPlaysG24
set_option linter.unusedSimpArgs false
set_option linter.unusedVariables false
set_option maxHeartbeats 32000000
set_option maxRecDepth 1000000
namespace Go.Proofs.YtlhmbkjdfjoilaaGreat
open Go.RowKit
theorem yu.fin {w W W3:World} {ev kv:Value} {es:List aQ} {lk:List dh} {ks:aT} (h:yu w W ev kv es lk) (hk:lk.map k3=fE ks) (f:aj (fun x=>x=w.heap.size) W W3):bZ (fun b=>w.heap.size≤b) W3 ev kv es ks∧aj aF w W3:=by
 obtain rfl:mkK lk=ks:=Qs (by rw[Hy,←hk];rfl)
 refine⟨⟨⟨Rd.keep (Rd.own h.base.row) f fun k hk=>?_,fun _ k hk=>h.base.new k hk⟩,vX lk,⟨?_,fun _ k hk=>h.knew k hk⟩,Ed fun q hq=>?_⟩,h.base.aI.trans f fun k hk e=>by omega⟩
 ·obtain⟨cur,h2⟩:=jB h.base.row hk
  exact iO h2 h.base.oz (by decide)
 ·rw[BN,vY]
  refine Rd.keep (Rd.own h.CU) f fun k hk=>?_
  obtain⟨cur,h2⟩:=jB h.CU hk
  exact iO h2 h.base.oz (by decide)
 ·exact(h.each q hq).2.turn fun k hk hQ=>⟨f.block k hk (by have:=hQ.1;omega),by have:=hQ.1;omega⟩
theorem LH (Q:Nat→Prop):∀(N:Nat) (es:List aQ) (ks:aT) (d:Nat) (l:List dB) (w:World) (v:Value),dM ks<N→wE Q w v l→(l.map dB.con).Perm (dI es ks)→bM d es ks=true→l.length≤100000→sizeT es ks≤100000→
 Calls Tryz.prog 26 #[v] w fun e w'=>∃ev kv,e= .returned (.agg #[ev,kv])∧bZ (fun b=>w.heap.size≤b) w' ev kv es ks∧aj aF w w':=by
 intro N
 induction N with
 |zero=>intros;omega
 |succ N jH=>
  intro es ks d l w v hN hlv hpm hr hl hsz
  have IH:=ah jH;clear jH
  obtain⟨i0,hi0,hz0,hz1,hz2⟩:=info_parts af'
  obtain⟨j0,hj0,hy0,hy1,hy2⟩:=info_parts BO
  have HR:=ah (fun W (f:aj aF w W)=>hlv.aS f)
  simp only[bM,Bool.and_eq_true,decide_eq_true_eq]at hr
  have oe:=(GN.1 hr.1.2).2
  have iE:=ah (fun j hj=>adD hpm oe j hj)
  have HNK:=ah (fun j hj=>afF hpm hr.2 j hj)
  have HTE:=ah (fun j k hk=>adA (sN es j) (L:=l.map dB.con) (k:=k) hk)
  have sK:=ah (fun j k hk=>XP (uJ ks j) (L:=l.map dB.con) (k:=k) hk)
  have Ic:=ah hpm
  have BJ:=ah hr.2
  have uh:=ah hN
  have iC:=ah hsz
  obtain⟨a,cp,rfl⟩:=hlv.rd.sl
  have vV:es.length≤100000:=by unfold sizeT at hsz;omega
  have Gl:ks.len≤100000:=by have:=oQ ks;unfold sizeT at hsz;omega
  clear hlv hpm hr hN hsz oe
  obtain⟨m,hm⟩:∃m,m=l.length:=⟨_,rfl⟩
  rw[←hm]
  have HM:=ah hm
  rw[←hm]at hl
  clear hm
  obtain⟨n,hn⟩:∃n,n=es.length:=⟨_,rfl⟩
  rw[←hn]at vV
  have HN:=ah hn;clear hn
  have HB3:=ah (lY w (.cells #[.slice none 0 0, .slice none 0 0] 28) #[.slice none 0 0, .slice none 0 0] 28)
  have HB2:=ah ((aj.alloc aF (w.alloc (.cells #[.slice none 0 0, .slice none 0 0] 28)) (.cells #[.slice none 0 0, .slice none 0 0] 28)).blk (heap_alloc_new w (.cells #[.slice none 0 0, .slice none 0 0] 28)) id)
  go_enter Tryz.func26,Tryz.ntmps26
  go_wp2
  go_loopw [5] (fun _ W=>∃(j:Nat) (ev:Value),j≤n∧wR w W ev (.slice none 0 0) (es.take j)) (fun _ W=>n-LD W ⟨w.heap.size+1,0,none⟩)
  case atStart=>exact⟨0, .slice none 0 0,Nat.zero_le _,HB3.out.2.1,HB2.out,HB3.out.1,World.ownsRow_nil _ 0 _ _,fun k hk=>by simp[Value.ownBlock]at hk⟩
  case round=>
   obtain⟨j,ev,hj,hbe⟩:=hrel
   have yw:=ah hbe
   obtain⟨ae,ce,rfl⟩:=(Rd.own hbe.row).sl
   have htl:(es.take j).length=j:=by rw[List.length_take,←HN.out];omega
   rw[htl]at yw
   clear hbe
   have HF:=ah yw.out.aI
   have z0:=aG yw.out.jc 0 rfl
   have hlz:=lt_of_block yw.out.jc
   obtain⟨W1,hW1⟩:∃W1,W1=wr.alloc (.cells #[.int .i64 0, .int .i64 0, .string ByteArray.empty, .int .i64 0] 100):=⟨_,rfl⟩
   have hf1:aj aF wr W1:=by rw[hW1];exact aj.alloc _ _ _
   have hb4:W1.heap[wr.heap.size]?=some (.cells #[.int .i64 0, .int .i64 0, .string ByteArray.empty, .int .i64 0] 100 (0,0)):=by rw[hW1];exact heap_alloc_new _ _
   have dN:=ah hf1
   have HB4:=ah hb4
   have HW1:=ah hW1
   clear hf1 hb4 hW1
   go_upto_region 5 with fail
   have hz0:ByteArray.empty= {data:= #[]}:=rfl
   first
    |rw[←HW1.out]
    |(have hw:=HW1.out;rw[show(ByteArray.empty:ByteArray)= {data:= #[]}from rfl]at hw;rw[←hw];clear hw)
   clear hz0
   have hz1':W1.cell? ⟨w.heap.size+1,0,none⟩=some (.slice ae j ce):=dN.out.cell' z0 id
   have hl1:w.heap.size+1<W1.heap.size:=World.block_lt_of_cell? _ _ hz1'
   clear z0 hlz
   obtain⟨b4,hb4⟩:∃b4,b4=wr.heap.size:=⟨_,rfl⟩
   rw[←hb4]at HB4⊢
   have hbw:w.heap.size+1<b4:=by rw[hb4];exact lt_of_block yw.out.jc
   have QY:=ah hb4
   clear hb4
   have EY:=ah (yw.out.aS dN.out)
   have hcx:0≤j:=Nat.zero_le _
   go_loopw [5,13] (fun sv iv W=>∃(k:Nat) (b:Option aQ),k≤m∧iv= .int .i64 k∧sv= .bool b.isSome∧aj (fun x=>x=b4) W1 W∧W.heap[b4]?=some (.cells (b.getD aQ.zero).cells.toArray 100 (0,0))∧b=qP (sN es j) ((l.map dB.con).take k)) (fun _ iv _=>m-(intOf iv).toNat)
   case atStart=>exact⟨0,none,Nat.zero_le _,rfl,rfl,aj.refl _ _,HB4.out,rfl⟩
   case round=>
    rename_i wr0
    obtain⟨k,b,hk,rfl,rfl,hfb,hbk,hbb⟩:=hrel
    have b_:=ah hfb
    have jr:=ah hbk
    have xR:=ah hbb
    clear hfb hbk hbb
    have hfw:aj aF w wr:=EY.out.aI.trans b_.out fun i hi e=>by omega
    have eX:=ah hfw
    clear hfw
    by_cases hlt:k<m
    ·have hkl:k<l.length:=by rw[←HM.out];exact hlt
     have hlv:=HR.out _ eX.out
     obtain⟨g0,g1,g2,g3,g4⟩:=Ag l k hkl
     have hpk:=hlv.each _ (getD_mem default hkl)
     have hrd:=hlv.rd
     rw[←HM.out]at hrd
     rcases Rd.shape hrd with⟨ad,he,h0⟩|⟨p,off,cc,he,hmx⟩
     ·omega
     injection he with e1 e2 e3
     subst e1 e3
     clear e2
     have hst:=HTE.out j k (by rw[List.length_map];exact hkl)
     have hcx:(l.map dB.con).getD k default=(l.getD k default).con:=by rw[getD_at _ (by rw[List.length_map];exact hkl),getD_at _ hkl,List.getElem_map]
     rw[hcx,←xR.out,aga]at hst
     generalize zq:l.getD k default=qb at*
     clear zq hcx
     obtain⟨path,pv,ent⟩:=qb
     have hpk:gy Q wr pv path.length (fA path):=hpk
     obtain⟨ap,cpp,rfl⟩:=hpk.rd.sl
     have hst:qP (sN es j) ((l.map dB.con).take (k+1))=if EX es j b (path,ent)=true then some ent else b:=hst
     have HST:=ah hst
     have AU:∀i,(Value.slice ae j ce).ownBlock=some i→i≠b4:=fun i hi=>by
      obtain⟨cur,h4⟩:=jB yw.out.row hi
      have h5:=lt_of_block h4
      have h6:=QY.out
      omega
     have hrow:Rd wr (.slice ae j ce) j (jy (es.take j)):=by
      have h3:=Rd.own EY.out.row
      rw[htl]at h3
      exact h3.keep b_.out AU
     have hbx:=b_.out.blk EY.out.jc (by omega)
     have zr:=aG hbx 0 rfl
     obtain⟨α,hne,K,hK1,hK0,hK2⟩:=worlds wr
     have dS:=ah hK1
     have y0:∀t,(K t).cell? ⟨p,off+k*5,none⟩=some (.slice ap path.length cpp):=fun t=>(hK1 t).cell' (hrd.cell _ _ g0) id
     have y1:∀t,(K t).cell? ⟨p,off+k*5+1,none⟩=some (.int .i64 ent.dc):=fun t=>(hK1 t).cell' (hrd.cell (k*5+1) _ g1) id
     have y2:∀t,(K t).cell? ⟨p,off+k*5+2,none⟩=some (.int .i64 ent.n):=fun t=>(hK1 t).cell' (hrd.cell (k*5+2) _ g2) id
     have x0:∀t,(K t).cell? ⟨w.heap.size+1,0,none⟩=some (.slice ae j ce):=fun t=>(hK1 t).cell' zr id
     have b0:∀t,(K t).cell? ⟨b4,0,none⟩=some (.int .i64 (b.getD aQ.zero).dc):=fun t=>(hK1 t).cell' (aG jr.out 0 rfl) id
     have b1:∀t,(K t).cell? ⟨b4,1,none⟩=some (.int .i64 (b.getD aQ.zero).n):=fun t=>(hK1 t).cell' (aG jr.out 1 rfl) id
     have wS:=ah (⟨hrd.cell (k*5+1) _ g1,hrd.cell (k*5+2) _ g2,hrd.cell (k*5+3) _ g3,hrd.cell (k*5+4) _ g4⟩:wr.cell? ⟨p,off+(k*5+1),none⟩=some (.int .i64 ent.dc)∧wr.cell? ⟨p,off+(k*5+2),none⟩=some (.int .i64 ent.n)∧wr.cell? ⟨p,off+(k*5+3),none⟩=some (.string ent.s)∧wr.cell? ⟨p,off+(k*5+4),none⟩=some (.int .i64 ent.k))
     have QZ:=ah hrow
     have ou:=ah (show EX es j b (path,ent)=((decide (path.length=0)&&(decide (j=0)||ltD (es.getD (j-1) aQ.zero) ent))&&vN ent b)from rfl)
     have hki:(k:Int)<(m:Int):=by omega
     have hlz:=World.block_lt_of_cell? _ _ zr
     clear hrd hlv g0 g1 g2 g3 g4 hpk hrow hbx hst AU
     generalize path.length=pl at*
     go_upto_region 8 with fail
     clear zr hlz
     go_cut [60] (fun v wx=>v= .bool (EX es j b (path,ent))∧aj aF wr wx)
     case first=>
      by_cases hp0:pl=0
      ·subst hp0
       rcases Nat.eq_zero_or_pos j with hj0|hj0
       ·subst hj0
        cases b with
        |none=>
         refine dX K (by kernel_rfl) (by kernel_rfl) hK0 ?_
         repeat(go_big_quiet_step (fail))
         refine wpQuiet_nil ?_
         intro w' hw'
         obtain⟨t,rfl⟩:=hw'
         go_wp2
         go_meet
         case rel=>exact⟨by rw[ou.out];simp[vN],dS.out t⟩
        |some y=>
         have HL2:=ah (fun W=>zQ ent.dc ent.n y.dc y.n W)
         cases h2:qE ent.dc ent.n y.dc y.n with
         |true=>
          rw[h2]at HL2
          refine dX K (by kernel_rfl) (by kernel_rfl) hK0 ?_
          repeat(go_big_quiet_step (((go_at_call 51;exact Calls.bT hK2 (HL2.out _)))))
          refine wpQuiet_nil ?_
          intro w' hw'
          obtain⟨t,rfl⟩:=hw'
          go_wp2
          go_meet
          case rel=>exact⟨by rw[ou.out];simp[vN,ltD,h2],dS.out t⟩
         |false=>
          rw[h2]at HL2
          refine dX K (by kernel_rfl) (by kernel_rfl) hK0 ?_
          repeat(go_big_quiet_step (((go_at_call 51;exact Calls.bT hK2 (HL2.out _)))))
          refine wpQuiet_nil ?_
          intro w' hw'
          obtain⟨t,rfl⟩:=hw'
          go_wp2
          go_meet
          case rel=>exact⟨by rw[ou.out];simp[vN,ltD,h2],dS.out t⟩
       ·obtain⟨j',rfl⟩:∃j',j=j'+1:=⟨j-1,by omega⟩
        have hjl:j'<(es.take (j'+1)).length:=by rw[htl];omega
        obtain⟨e0,e1,-,-⟩:=NY (es.take (j'+1)) j' hjl
        have hge:(es.take (j'+1)).getD j' aQ.zero=es.getD j' aQ.zero:=by rw[getD_at _ hjl,List.getElem_take,←getD_at aQ.zero]
        rw[hge]at e0 e1
        rcases Rd.shape QZ.out with⟨ad,he,h0⟩|⟨q,qo,qc,he,ajx⟩
        ·omega
        injection he with e3 e4 e5
        subst e3 e5
        clear e4
        have q0:∀t,(K t).cell? ⟨q,qo+j'*4,none⟩=some (.int .i64 (es.getD j' aQ.zero).dc):=fun t=>(hK1 t).cell' (QZ.out.cell _ _ e0) id
        have q1:∀t,(K t).cell? ⟨q,qo+j'*4+1,none⟩=some (.int .i64 (es.getD j' aQ.zero).n):=fun t=>(hK1 t).cell' (QZ.out.cell (j'*4+1) _ e1) id
        have hj1:(((j'+1:Nat):Int)==0)=false:=by simp;omega
        have hj2:(((j':Int)+1)==0)=false:=by simp;omega
        have hj3:(j':Int)+1≤100000:=by omega
        have Ym:IntKind.i64.wrap ((j':Int)+1-1)=(j':Int):=by rw[IntKind.wrap_i64];omega
        clear e0 e1 hjl hge
        have nG:=ah (fun W=>zQ (es.getD j' aQ.zero).dc (es.getD j' aQ.zero).n ent.dc ent.n W)
        have Yn:ltD (es.getD j' aQ.zero) ent=qE (es.getD j' aQ.zero).dc (es.getD j' aQ.zero).n ent.dc ent.n:=rfl
        have HLD:=ah Yn
        clear Yn
        have Q_:=ou.out
        rw[show j'+1-1=j' from rfl,HLD.out]at Q_
        have ou:=ah Q_
        clear Q_
        generalize (es.getD j' aQ.zero).dc=pd at*
        generalize (es.getD j' aQ.zero).n=pn at*
        cases h1:qE pd pn ent.dc ent.n with
        |false=>
         rw[h1]at nG
         refine dX K (by kernel_rfl) (by kernel_rfl) hK0 ?_
         repeat(go_big_quiet_step (((go_at_call 51;exact Calls.bT hK2 (nG.out _)))))
         refine wpQuiet_nil ?_
         intro w' hw'
         obtain⟨t,rfl⟩:=hw'
         go_wp2
         go_meet
         case rel=>exact⟨by rw[ou.out];simp[vN,h1],dS.out t⟩
        |true=>
         rw[h1]at nG
         cases b with
         |none=>
          refine dX K (by kernel_rfl) (by kernel_rfl) hK0 ?_
          repeat(go_big_quiet_step (((go_at_call 51;exact Calls.bT hK2 (nG.out _)))))
          refine wpQuiet_nil ?_
          intro w' hw'
          obtain⟨t,rfl⟩:=hw'
          go_wp2
          go_meet
          case rel=>exact⟨by rw[ou.out];simp[vN,h1],dS.out t⟩
         |some y=>
          have HL2:=ah (fun W=>zQ ent.dc ent.n y.dc y.n W)
          cases h2:qE ent.dc ent.n y.dc y.n with
          |true=>
           rw[h2]at HL2
           refine dX K (by kernel_rfl) (by kernel_rfl) hK0 ?_
           repeat(go_big_quiet_step ((first|(go_at_call_of 51 pd;exact Calls.bT hK2 (nG.out _))|(go_at_call_of 51 y;exact Calls.bT hK2 (HL2.out _)))))
           refine wpQuiet_nil ?_
           intro w' hw'
           obtain⟨t,rfl⟩:=hw'
           go_wp2
           go_meet
           case rel=>exact⟨by rw[ou.out];simp[vN,h1,ltD,h2],dS.out t⟩
          |false=>
           rw[h2]at HL2
           refine dX K (by kernel_rfl) (by kernel_rfl) hK0 ?_
           repeat(go_big_quiet_step ((first|(go_at_call_of 51 pd;exact Calls.bT hK2 (nG.out _))|(go_at_call_of 51 y;exact Calls.bT hK2 (HL2.out _)))))
           refine wpQuiet_nil ?_
           intro w' hw'
           obtain⟨t,rfl⟩:=hw'
           go_wp2
           go_meet
           case rel=>exact⟨by rw[ou.out];simp[vN,h1,ltD,h2],dS.out t⟩
      ·have hp1:((pl:Int)==0)=false:=by simpa using hp0
       refine dX K (by kernel_rfl) (by kernel_rfl) hK0 ?_
       repeat(go_big_quiet_step (fail))
       refine wpQuiet_nil ?_
       intro w' hw'
       obtain⟨t,rfl⟩:=hw'
       go_wp2
       go_meet
       case rel=>exact⟨by rw[ou.out];simp[vN,hp0],dS.out t⟩
     case rest=>
      obtain⟨rfl,hfr⟩:=hcut
      obtain⟨w8,rfl⟩:∃w8,w8=wc:=⟨_,rfl⟩
      have iU:=ah hfr
      clear hfr hK0 hK1 hK2 y0 y1 y2 x0 b0 b1
      generalize EX es j b (path,ent)=NB at*
      cases NB with
      |false=>
       go_wp2
       go_roundw
       case rel=>
        have hst2:=HST.out
        exact⟨k+1,b,by omega,by go_num,rfl,b_.out.trans iU.out fun _ _ h=>h.elim,iU.out.blk jr.out id,by simpa using hst2.symm⟩
       case measure=>simp[intOf];omega
      |true=>
       obtain⟨c1,c2,c3,c4⟩:=wS.out
       have c1:w8.cell? ⟨p,off+k*5+1,none⟩=some (.int .i64 ent.dc):=iU.out.cell' c1 id
       have c2:w8.cell? ⟨p,off+k*5+2,none⟩=some (.int .i64 ent.n):=iU.out.cell' c2 id
       have c3:w8.cell? ⟨p,off+k*5+3,none⟩=some (.string ent.s):=iU.out.cell' c3 id
       have c4:w8.cell? ⟨p,off+k*5+4,none⟩=some (.int .i64 ent.k):=iU.out.cell' c4 id
       have hb8:w8.heap[b4]?=some (.cells #[.int .i64 (b.getD aQ.zero).dc, .int .i64 (b.getD aQ.zero).n, .string (b.getD aQ.zero).s, .int .i64 (b.getD aQ.zero).k] 100 (0,0)):=iU.out.blk jr.out id
       have Gx:=ah (af_ hb8 (.int .i64 ent.dc) (.int .i64 ent.n) (.string ent.s) (.int .i64 ent.k))
       have bU:=ah (Yh w8 b4 (.int .i64 ent.dc) (.int .i64 ent.n) (.string ent.s) (.int .i64 ent.k))
       have d0:=aG hb8 0 rfl
       have d1:=aG hb8 1 rfl
       have d2:=aG hb8 2 rfl
       have d3:=aG hb8 3 rfl
       have f0:=aW hb8 0
       have f1:=aW hb8 1
       have f2:=aW hb8 2
       have f3:=aW hb8 3
       have EZ:=lt_of_block hb8
       have hlp:=World.block_lt_of_cell? _ _ c1
       clear hb8
       go_wp2
       go_roundw
       case rel=>
        have hst2:=HST.out
        exact⟨k+1,some ent,by omega,by go_num,rfl,(b_.out.trans iU.out fun _ _ h=>h.elim).trans bU.out fun _ _ h=>h,Gx.out,by simpa using hst2.symm⟩
       case measure=>simp[intOf];omega
    ·obtain rfl:m=k:=by omega
     have hall:(l.map dB.con).take m=l.map dB.con:=List.take_of_length_le (by rw[List.length_map,←HM.out];exact Nat.le_refl _)
     have hbn:=xR.out
     rw[hall,iE.out j (by rw[←HN.out];exact hj)]at hbn
     cases b with
     |some e=>
      have hjn:j<n:=by
       rcases Nat.lt_or_ge j n with h|h
       ·exact h
       ·rw[List.getElem?_eq_none (by rw[←HN.out];exact h)]at hbn;cases hbn
      have HJE:=ah (show es.take (j+1)=es.take j++ [e] by
       rw[take_succ aQ.zero (by rw[←HN.out];exact hjn),getD_at _ (by rw[←HN.out];exact hjn)]
       rw[List.getElem?_eq_getElem (by rw[←HN.out];exact hjn)]at hbn
       injection hbn with hbn
       rw[hbn])
      clear hbn hall
      have hbx:=b_.out.blk EY.out.jc (by omega)
      have x0:=aG hbx 0 rfl
      have d0:=aG jr.out 0 rfl
      have d1:=aG jr.out 1 rfl
      have d2:=aG jr.out 2 rfl
      have d3:=aG jr.out 3 rfl
      have hlx:=lt_of_block hbx
      have hld:=lt_of_block jr.out
      have AU:∀i,(Value.slice ae j ce).ownBlock=some i→i≠b4:=fun i hi=>by
       obtain⟨cur,h4⟩:=jB yw.out.row hi
       have h5:=lt_of_block h4
       have h6:=QY.out
       omega
      have hbw2:=EY.out.Yi b_.out hbw AU
      have nI:=ah hbw2
      have hown:=hbw2.row
      rw[htl]at hown
      have HOW:=ah hown
      clear AU hbw2 hown hbx
      go_wp2_with(at_builtin;refine zM _ [.int .i64 e.dc, .int .i64 e.n, .string e.s, .int .i64 e.k] rfl (.tmp 70) (.tmp 72) 25 rfl 100 i0 _ 4 40 Tryz.underlying25 hi0 hz0 hz1 hz2 (by decide) (by decide) _ _ _ HOW.out 1 1 rfl (by simp[Act.eval]) rfl (by simp[Value.oneCell']) (by simp only[maxLen];omega) (by omega) ?_;intro ad cc w5 dP sV sW;clear x0 d0 d1 d2 d3 hlx hld;have HAD:=ah (nI.out.add (e:=e) sV sW (by rw[htl];exact dP));clear dP sV sW;have x0:=aG HAD.out.1 0 rfl;have xf:=aW HAD.out.1 0;have hlx:=lt_of_block HAD.out.1)
      go_roundw
      case rel=>exact⟨j+1,_,by omega,by rw[HJE.out];exact HAD.out.2⟩
      case measure=>
       rw[LG (aG HAD.out.2.jc 0 rfl),LG (aG yw.out.jc 0 rfl)]
       omega
     |none=>
      have hjn:n≤j:=by
       rcases Nat.lt_or_ge j n with h|h
       ·rw[List.getElem?_eq_getElem (by rw[←HN.out];exact h)]at hbn;cases hbn
       ·exact h
      obtain rfl:n=j:=by omega
      have hae:es.take n=es:=List.take_of_length_le (by rw[←HN.out];exact Nat.le_refl _)
      have AU:∀i,(Value.slice ae n ce).ownBlock=some i→i≠b4:=fun i hi=>by
       obtain⟨cur,h4⟩:=jB yw.out.row hi
       have h5:=lt_of_block h4
       have h6:=QY.out
       omega
      have hbw2:=EY.out.Yi b_.out hbw AU
      rw[hae]at hbw2
      have nI:=ah hbw2
      clear AU hbw2 hae hbn hall hjn hj hlt
      obtain⟨kn,hkn⟩:∃kn,kn=ks.len:=⟨_,rfl⟩
      rw[←hkn]at Gl
      have u_:=ah hkn;clear hkn
      have iZ:=ah (ks.sH)
      have fH:=ah (qO _ _ _ BJ.out)
      have b5:(none:Option aQ).isSome=false:=rfl
      go_upto_region 14 with fail
      go_loopw [8] (fun lv W=>∃(j:Nat) (kv:Value) (lk:List dh),j≤kn∧lv= .string (uJ ks j)∧yu w W (.slice ae (es.length) ce) kv es lk∧lk.map k3=(fE ks).take j) (fun _ W=>kn-LD W ⟨w.heap.size+1,1,none⟩)
      case atStart=>exact⟨0, .slice none 0 0,[],Nat.zero_le _,rfl,⟨by rw[←HN.out];exact nI.out,World.ownsRow_nil _ 0 _ _,fun k hk=>by simp[Value.ownBlock]at hk,fun q hq=>(by cases hq)⟩,rfl⟩
      case round=>
       obtain⟨j,kv,lk,hj,rfl,hbk,hlk⟩:=hrel
       obtain⟨wv,hwv⟩:∃wv,wv=wr:=⟨wr,rfl⟩
       have Rf:(fE ks).length=ks.keys.length:=by rw[←EF,List.length_map]
       have Rh:lk.length=j:=by have:=congrArg List.length hlk;rw[List.length_map,List.length_take,Rf,iZ.out,←u_.out]at this;omega
       obtain⟨ak,ck,rfl⟩:=(Rd.own hbk.CU).sl
       rw[Rh]at hbk
       have kE:=ah hbk
       have nT:=ah hlk
       have nO:=ah Rh
       have x1:=aG hbk.base.jc 1 rfl
       have Yo:=lt_of_block hbk.base.jc
       have HTL:=ah Rf
       clear hbk hlk Rh Rf
       have HNJ:=ah (HNK.out j (by rw[iZ.out,←u_.out];exact hj))
       have HTJ:=ah (fun k hk=>sK.out j k hk)
       have HJL:=ah hj
       generalize uJ ks j=last at*
       go_upto_region 16 with fail
       go_loopw [9,77] (fun bv iv W=>∃(k:Nat) (b:Option ByteArray),k≤m∧iv= .int .i64 k∧bv= .string (b.getD {data:= #[]})∧W=wv∧b=zB last ((l.map dB.con).take k)∧∀y,b=some y→dL last y=true) (fun _ iv _=>m-(intOf iv).toNat)
       case atStart=>exact⟨0,none,Nat.zero_le _,rfl,rfl,hwv.symm,rfl,fun y hy=>(by cases hy)⟩
       case round=>
        obtain⟨k,b,hk,rfl,rfl,hww,hbb,hby⟩:=hrel
        subst hww
        subst hwv
        have xR:=ah hbb
        have gX:=ah hby
        clear hbb hby
        by_cases hlt:k<m
        ·have hkl:k<l.length:=by rw[←HM.out];exact hlt
         have hlv:=HR.out _ kE.out.base.aI
         obtain⟨g0,-,-,-,-⟩:=Ag l k hkl
         have hpk:=hlv.each _ (getD_mem default hkl)
         have hrd:=hlv.rd
         rw[←HM.out]at hrd
         rcases Rd.shape hrd with⟨ad,he,h0⟩|⟨p,off,cc,he,hmx⟩
         ·omega
         injection he with e1 e2 e3
         subst e1 e3
         clear e2
         have hst:=HTJ.out k (by rw[List.length_map];exact hkl)
         have hcx:(l.map dB.con).getD k default=(l.getD k default).con:=by rw[getD_at _ (by rw[List.length_map];exact hkl),getD_at _ hkl,List.getElem_map]
         rw[hcx,←xR.out]at hst
         generalize zq:l.getD k default=qb at*
         clear zq hcx
         obtain⟨path,pv,ent⟩:=qb
         have hst2:zB last ((l.map dB.con).take (k+1))=wO last b (path,ent):=hst
         have HST:=ah hst2
         clear hst hst2
         have hpk:gy Q _ pv path.length (fA path):=hpk
         obtain⟨ap,cpp,rfl⟩:=hpk.rd.sl
         have g0:(jS l)[k*5]?=some (.slice ap path.length cpp):=g0
         have y0:=hrd.cell _ _ g0
         have hlp:=World.block_lt_of_cell? _ _ y0
         have hki:(k:Int)<(m:Int):=by omega
         clear hrd hlv g0 hkl
         cases path with
         |nil=>
          clear hpk
          go_wp2
          go_roundw
          case rel=>exact⟨k+1,b,by omega,by go_num,rfl,by first|rfl|trivial,by rw[HST.out];rfl,gX.out⟩
          case measure=>simp[intOf];omega
         |cons k0 pt=>
          rcases Rd.shape hpk.rd with⟨ad,he,h0⟩|⟨pg,po,pc,he,V_⟩
          ·simp at h0
          injection he with e1 e2 e3
          subst e1 e3
          clear e2
          have x0:=hpk.rd.cell 0 (.string k0) rfl
          rw[Nat.add_zero]at x0
          have hlx:=World.block_lt_of_cell? _ _ x0
          clear hpk
          have hbk0:wO last b (k0::pt,ent)=if dL last k0=true then wO last b (k0::pt,ent)else b:=by
           by_cases h:dL last k0=true
           ·rw[if_pos h]
           ·rw[if_neg h];unfold wO;simp only;rw[if_neg h]
          have HB0:=ah hbk0;clear hbk0
          have y0:wr.cell? ⟨p,off+k*5,none⟩=some (.slice (some ⟨pg,po,none⟩) (pt.length+1) cpp):=y0
          have hps:(pt.length+1:Nat)=pt.length+1:=rfl
          obtain⟨pn,hpn⟩:∃pn,pn=pt.length+1:=⟨_,rfl⟩
          rw[←hpn]at y0
          have hpt:(0:Int)<(pn:Int):=by omega
          clear hps hpn
          cases h1:dL last k0 with
          |false=>
           have E_:=Kw 9 k0 last
           rw[show Op.bytesLess last.toList k0.toList=false from h1]at E_
           have HX:=ah h1
           clear h1
           go_wp2
           go_roundw
           case rel=>exact⟨k+1,b,by omega,by go_num,rfl,by trivial,by rw[HST.out,HB0.out,HX.out];rfl,gX.out⟩
           case measure=>simp[intOf];omega
          |true=>
           have E_:=Kw 9 k0 last
           rw[show Op.bytesLess last.toList k0.toList=true from h1]at E_
           have HX:=ah h1
           clear h1
           cases b with
           |none=>
            go_wp2
            go_roundw
            case rel=>exact⟨k+1,some k0,by omega,by go_num,rfl,by first|rfl|trivial,by rw[HST.out];simp[wO,HX.out],fun y hy=>by injection hy with hy;rw[←hy];exact HX.out⟩
            case measure=>simp[intOf];omega
           |some y=>
            have hye:=Yl (gX.out y rfl)
            have agm:(y.toList==({data:= #[]}:ByteArray).toList)=false:=by rw[show({data:= #[]}:ByteArray).toList=[] by rw[ByteArray.toList_eq]];exact hye
            cases h2:dL k0 y with
            |true=>
             have h2b:Op.bytesLess k0.toList y.toList=true:=h2
             have HY:=ah h2
             clear h2
             go_wp2
             go_roundw
             case rel=>exact⟨k+1,some k0,by omega,by go_num,rfl,by first|rfl|trivial,by rw[HST.out];unfold wO;simp only;rw[if_pos HX.out,if_pos HY.out],fun y hy=>by injection hy with hy;rw[←hy];exact HX.out⟩
             case measure=>simp[intOf];omega
            |false=>
             have h2b:Op.bytesLess k0.toList y.toList=false:=h2
             have HY:=ah h2
             clear h2
             go_wp2
             go_roundw
             case rel=>exact⟨k+1,some y,by omega,by go_num,rfl,by first|rfl|trivial,by rw[HST.out];unfold wO;simp only;rw[if_pos HX.out,if_neg (by rw[HY.out];decide)],gX.out⟩
             case measure=>simp[intOf];omega
        ·obtain rfl:m=k:=by omega
         have hall:(l.map dB.con).take m=l.map dB.con:=List.take_of_length_le (by rw[List.length_map,←HM.out];exact Nat.le_refl _)
         have hbn:=xR.out
         rw[hall,HNJ.out]at hbn
         cases b with
         |none=>
          have hjn:kn≤j:=by
           rcases Nat.lt_or_ge j kn with h|h
           ·rw[List.getElem?_eq_getElem (by rw[iZ.out,←u_.out];exact h)]at hbn;cases hbn
           ·exact h
          have hlk2:lk.map k3=fE ks:=by rw[nT.out,List.take_of_length_le (by rw[HTL.out,iZ.out,←u_.out];exact hjn)]
          have HKK:=ah hlk2
          clear hlk2 hjn hbn hall x1 Yo
          have hb3:=kE.out.base.jc
          have hb2:=kE.out.base.oz
          have y0:=aG hb3 0 rfl
          have y1:=aG hb3 1 rfl
          have x0:=aG hb2 0 rfl
          have x1:=aG hb2 1 rfl
          have g0:=aW hb2 0
          have g1:=aW hb2 1
          have hl3:=lt_of_block hb3
          have hl2:=lt_of_block hb2
          have HR2:=ah (eY (eY hb2 0 (.slice ae es.length ce)) 1 (.slice ak j ck))
          have dR:=ah ((aj.setCell (S:=fun x=>x=w.heap.size) wr (p:=⟨w.heap.size,0,none⟩) (.inl rfl) (.slice ae es.length ce)).trans (aj.setCell (S:=fun x=>x=w.heap.size) _ (p:=⟨w.heap.size,1,none⟩) (.inl rfl) (.slice ak j ck)) fun _ _ h=>h)
          clear hb3 hb2
          go_wp2
          clear y0 y1 x0 x1 g0 g1
          have z0:=aG HR2.out 0 rfl
          have z1:=aG HR2.out 1 rfl
          have hfin:=yu.fin kE.out HKK.out dR.out
          refine bodyPost_ret (v:= .agg #[.slice ae es.length ce, .slice ak j ck]) (by simp[results,Tryz.results26,go_sem,z0,z1]) rfl ⟨_,_,rfl,hfin.1,hfin.2⟩
         |some key=>
          have hjn:j<kn:=by
           rcases Nat.lt_or_ge j kn with h|h
           ·exact h
           ·rw[List.getElem?_eq_none (by rw[iZ.out,←u_.out];exact h)]at hbn;cases hbn
          have hmem:key∈ks.keys:=List.mem_of_getElem? hbn.symm
          have kF:=ah (Yk fH.out.1 hbn.symm)
          have HKJ:=ah (show uJ ks (j+1)=key by
           unfold uJ
           rw[if_neg (by omega),Nat.add_sub_cancel,List.getD_eq_getElem?_getD,←hbn]
           rfl)
          have bU:=ah (Yj hmem)
          have lq:=ah (xW (k:=key) BJ.out (xX BJ.out hmem))
          have Ll:=ah (show(kX key (l.map dB.con)).Perm (dI (ks.find key).1 (ks.find key).2) by
           rw[←adx fH.out.1 hmem];exact ady key Ic.out)
          have HLU:=ah (adz key (l.map dB.con))
          have HU:=ah (fun W (f:aj aF w W)=>adu Q l W (.slice a m cp) key (by have h:=HR.out W f;rw[←HM.out]at h;exact h) (by rw[←HM.out];exact hl))
          have hye:=Yl (gX.out key rfl)
          have agm:(key.toList==({data:= #[]}:ByteArray).toList)=false:=by rw[show({data:= #[]}:ByteArray).toList=[] by rw[ByteArray.toList_eq]];exact hye
          have wB:=ah hjn
          have dH:=(aj.drew aF wr).cell' (aG kE.out.base.jc 1 rfl) id
          have gK:=ah (aj.drew aF wr)
          clear hmem hbn hall hjn x1 Yo
          generalize (ks.find key).1=fe at*
          generalize (ks.find key).2=fk at*
          simp only[Option.getD_some]
          go_upto_region 23 with fail
          refine iq (S:=fun Y=>Y.cell? ⟨w.heap.size+1,1,none⟩=some (.slice ak j ck)) 11 (by kernel_rfl) dH ?_
          clear dH
          intro hS
          generalize World.drew _=Y0 at*
          refine aX 0 124 rfl rfl ?_
          refine aX 1 125 rfl rfl ?_
          try simp only[Act.put,aO,aN,aJ]
          refine aX 2 126 rfl rfl ?_
          refine aX 3 127 rfl rfl ?_
          try simp only[Act.put,aO,aN,aJ]
          refine aX 4 128 rfl rfl ?_
          try simp only[Act.put,aO,aN,aJ]
          refine bg (i:=5) (by kernel_rfl) rfl (fun K hK=>?_)
          go_simp
          refine(HU.out _ (kE.out.base.aI.aH gK.out)).mono ?_
          rintro e Y1 ⟨uv,l',rfl,ho,Yp,hcl⟩
          obtain⟨a8,c8,rfl⟩:=ho.shape
          have Iu:=ah (⟨ho.rd,Yp⟩:wE Q Y1 _ l')
          have rJ:=ah hcl
          have dN:=ah (gK.out.aH ho.aI)
          have hS1:=ho.aI.cell' hS id
          refine hK.out _ _ hS1 ?_
          clear hK K hS ho Yp hcl
          have hS:=hS1
          clear hS1
          try simp only[Act.put,aO,aN,aJ]
          refine bg (i:=6) (by kernel_rfl) rfl (fun K hK=>?_)
          go_simp
          refine(IH.out fe fk (d-1) l' Y1 _ (by have h1:=bU.out;have h2:=uh.out;unfold sizeT at h1;omega) Iu.out (by rw[rJ.out];exact Ll.out) lq.out (by have h1:=HLU.out;rw[←rJ.out,List.length_map,List.length_map,←HM.out]at h1;omega) (by have h1:=bU.out;have h2:=iC.out;unfold sizeT at h1 h2;unfold sizeT;omega)).mono ?_
          rintro e Y2 ⟨Fa,AP,rfl,hta,hf2⟩
          obtain⟨a9,c9,rfl⟩:=hta.ents.rd.sl
          obtain⟨os2,hkr,-⟩:=hta.kids
          obtain⟨a10,c10,rfl⟩:=hkr.rd.sl
          have agq:=ah hta
          have HF2:=ah (dN.out.aH hf2)
          have ajy:=ah hf2
          have hS1:=hf2.cell' hS id
          refine hK.out _ _ hS1 ?_
          clear hK K hS hta hkr hf2
          have hS:=hS1
          clear hS1
          try simp only[Act.put,aO,aN,aJ]
          refine aX 7 131 rfl rfl ?_
          try simp only[Act.put,aO,aN,aJ]
          refine bg (i:=8) (by kernel_rfl) rfl (fun K hK=>?_)
          go_simp
          refine qU _ _ _ (fun Y3 hf3 hb3 hs3=>?_)
          have f_:=ah hb3
          have HF3:=ah (HF2.out.aH hf3)
          have agr:=ah hf3
          have hS1:=hf3.cell' hS id
          refine hK.out _ _ hS1 ?_
          clear hK K hS hf3 hb3 hs3
          have hS:=hS1
          clear hS1
          try simp only[Act.put,aO,aN,aJ]
          refine bg (i:=9) (by kernel_rfl) rfl (fun K hK=>?_)
          have Yq:=ah (kE.out.aS HF3.out)
          have hrow:=Yq.out.CU
          rw[nO.out]at hrow
          have Yr:j≤100000:=by have:=HJL.out;omega
          refine EM Y3 _ [.string key, .slice a9 _ c9, .slice a10 _ c10] rfl (.tmp 125) (.tmp 132) 26 rfl 52 j0 _ 3 64 Tryz.underlying26 hj0 hy0 hy1 hy2 (by decide) (by decide) (.slice ak j ck) j _ hrow 1 1 (by simp[Act.eval]) (by simp[Act.eval]) f_.out rfl (by simp[Value.oneCell']) (by simp only[maxLen];omega) (by omega) ?_
          intro ad cc w2 bP jK mY
          have hadd:=Yq.out.add (q:=⟨key,fe,fk, .slice a9 _ c9, .slice a10 _ c10⟩) jK mY (by rw[nO.out];exact bP) ⟨⟨⟨_,_,_,rfl⟩,_,_,_,rfl⟩,(agq.out.aS agr.out).turn fun x hx hQ=>⟨rfl,by
           have h1:=dN.out.size
           have h2:=lt_of_block kE.out.base.jc
           refine⟨by omega,fun e=>?_⟩
           obtain⟨cur,h4⟩:=jB kE.out.CU e
           have:=lt_of_block h4
           omega⟩⟩
          have HAD:=ah hadd
          have hS1:=aG hadd.1 1 rfl
          refine hK.out _ _ hS1 ?_
          clear hK K hS bP jK mY hadd hrow Yr
          have hS:=hS1
          clear hS1
          try simp only[Act.put,aO,aN,aJ]
          refine aX 10 134 rfl rfl ?_
          try simp only[Act.put,aO,aN,aJ]
          refine gJ (by kernel_rfl) (by kernel_rfl) rfl (fun K hK=>?_)
          have g1:=aW HAD.out.1 1
          have gl:=lt_of_block HAD.out.1
          have q1:=hS
          go_simp
          refine hK.out _ _ ?_
          clear hK K hS q1 g1 gl
          go_wp2
          go_roundw
          case rel=>
           have had:=HAD.out.2
           have hq3:(lk++ [(⟨key,fe,fk, .slice a9 fe.length c9, .slice a10 fk.len c10⟩:dh)]).map k3=(fE ks).take (j+1):=by
            rw[List.take_add_one,kF.out,List.map_append,nT.out]
            simp[k3]
           (repeat apply Exists.intro)
           refine⟨?rel,rfl⟩
           case rel=>exact⟨j+1,_,_,wB.out,by rw[HKJ.out],had,hq3⟩
          case measure=>
           have Yr:=wB.out
           rw[LG (aG HAD.out.2.base.jc 1 rfl),LG (aG kE.out.base.jc 1 rfl)]
           omega
open Go.RowKit
theorem ags {w W:World} {q:aU} {L:Nat→Prop} (h:dU (fun _=>True) w q.ev q.kv q.cv q.es q.ks q.c) (f:aj aF w W) (hL:∀k,L k→w.heap.size≤k):eF (fun k=>¬L k) W q:=by
 refine⟨h.tree.turn fun k hk _=>⟨f.block k hk id,fun hl=>by have:=hL k hl;omega⟩,Rd.aS h.ctx f,fun hx k hk hl=>?_⟩
 rcases h.ctx with⟨ad,h1,h2,h3⟩|⟨b,o,c',h1,h2,h3,h4⟩
 ·exact hx h3
 ·rw[h1]at hk
  have:b=k:=by simpa[Value.ownBlock]using hk
  subst this
  have hne:0<(dY q.c).length:=by
   rcases Nat.eq_zero_or_pos (dY q.c).length with h0|h0
   ·exact absurd (List.eq_nil_of_length_eq_zero h0) hx
   ·exact h0
  have:=World.block_lt_of_cell? _ _ (h4 0 _ (List.getElem?_eq_getElem hne))
  have h5:=hL _ hl
  have:b<w.heap.size:=this
  omega
open Go.RowKit
open Go.RowKit
open Go.RowKit
open Go.RowKit
theorem agt (l:List bY) (k:Nat):(pz (l.take k)).length≤(pz l).length:=by
 conv=>rhs;rw[←List.take_append_drop k l,Xy,List.length_append]
 omega
theorem agu {w:World} {v:Value} {n:Nat} {xs:List Value} (h:Rd w v n xs):gy (fun b=>b<w.heap.size) w v n xs:=⟨h,fun hx k hk=>by
 rcases h with⟨ad,h1,h2,h3⟩|⟨b,off,c,rfl,h2,h3,h4⟩
 ·exact absurd h3 hx
 ·have hb:b=k:=by simpa[Value.ownBlock]using hk
  subst hb
  cases xs with
  |nil=>exact absurd rfl hx
  |cons u xs=>exact World.block_lt_of_cell? _ _ (h4 0 u rfl)⟩
section
variable {Q:Nat→Prop} {w:World} {n:Nat} {vv sv:Value} {vs:List aU} {rs:List bn}
def Ri (w:World) (ks:aT) (c:bD) (e:Ending) (w':World):Prop:=
 ∃ev kv cv,e= .returned (.agg #[ev,kv,cv])∧dU (fun _=>True) w' ev kv cv [] ks c∧aj aF w w'
theorem agv (h:jf Q w n vv sv vs rs) (ks:aT) (hp:(pz (vs.map aU.g)).Perm (dI [] ks)) (hr:bM 5 [] ks=true) (hs:dM ks≤2000):
 Calls Tryz.prog 54 #[.agg #[vv,sv]] w (Ri w ks (vs.getD 0 default).c):=by
 obtain⟨i0,hi,hz0,hz1,hz2⟩:=info_parts DW
 obtain⟨a0,c0,a1,c1,rfl,rfl⟩:=h.shape
 have HR:=ah (fun W (f:aj aF w W)=>h.aS f)
 have hn1:=h.n1
 have hn4:=h.n4
 have hn0:(0:Int)<(n:Int):=by omega
 have hnn:0<n:=by omega
 have wU:=ah h.vis.len
 have hpl:(pz (vs.map aU.g)).length≤2000:=by
  rw[hp.length_eq]
  have:=Ie [] ks
  unfold sizeT at this
  simp only[List.length_nil]at this
  omega
 have jZ:=ah (fun k=>Nat.le_trans (agt (vs.map aU.g) k) hpl)
 have dV:=ah hpl
 have HP:=ah hp
 have pX:=ah hr
 have HS:=ah hs
 clear h hpl hp hr hs
 unfold Ri
 generalize rs.length=m1 at*
 obtain⟨g1,g2,g3⟩:=lY w (.cells #[.slice a0 n c0, .slice a1 m1 c1] 62) #[.slice none 0 0, .slice none 0 0, .slice none 0 0] 32
 have g0:=(aj.alloc aF (w.alloc (.cells #[.slice a0 n c0, .slice a1 m1 c1] 62)) (.cells #[.slice none 0 0, .slice none 0 0, .slice none 0 0] 32)).blk (heap_alloc_new w _) id
 obtain⟨W2,hW2⟩:∃W2,W2=(w.alloc (.cells #[.slice a0 n c0, .slice a1 m1 c1] 62)).alloc (.cells #[.slice none 0 0, .slice none 0 0, .slice none 0 0] 32):=⟨_,rfl⟩
 rw[←hW2]at g0 g1 g2 g3
 have HF2:=ah g2
 have HB0:=ah g0
 have HB1:=ah g1
 have HZ2:=ah g3
 have HW2:=ah hW2
 have s0:=aG g0 0 rfl
 have hl0:=lt_of_block g0
 clear g0 g1 g2 g3 hW2
 go_enter Tryz.func54,Tryz.ntmps54
 go_upto_region 1 with fail
 rw[←HW2.out]
 go_wp2
 clear s0 hl0
 go_loopw [3,8] (fun v i W=>∃(k:Nat) (l:List dB),k≤n∧i= .int .i64 k∧kJ aF W2 W v l∧l.map dB.con=pz ((vs.map aU.g).take k)) (fun _ i _=>n-(intOf i).toNat)
 case atStart=>exact⟨0,[],Nat.zero_le _,rfl,kJ.nil (aj.refl _ _),rfl⟩
 case round=>
  obtain⟨k,l,hk,rfl,ho,hc⟩:=hrel
  obtain⟨av,cv9,rfl⟩:=ho.own.shape
  have zy:=ah ho
  have HC:=ah hc
  have nO:=ah (show l.length≤2000 by have h1:=congrArg List.length hc;rw[List.length_map]at h1;have h2:=jZ.out k;omega)
  have tq:=ah ho.own.aI
  have HF:=ah (HF2.out.aH ho.own.aI)
  have hbs:=ho.own.aI.blk HB0.out id
  have uV:=ah hbs
  have s0:=aG hbs 0 rfl
  have hls:=lt_of_block hbs
  have hll:=nO.out
  clear ho hc hbs
  by_cases hlt:k<n
  ·have hkl:k<vs.length:=by rw[wU.out];exact hlt
   obtain⟨g0,g1,g2⟩:=wG vs k hkl
   have iF:=HR.out _ HF.out
   have hrd:=iF.vis.rd.rd
   have hq:=iF.vis.each _ (getD_mem default hkl)
   have hpt:pz ((vs.map aU.g).take (k+1))=pz ((vs.map aU.g).take k)++dI [] (vs.getD k default).ks:=by
    rw[take_succ dD (by rw[List.length_map];exact hkl),Xy,vI hkl]
    simp[pz,aU.g]
   have Yt:=ah hpt
   have hsz:(dI [] (vs.getD k default).ks).length≤2000:=by
    have h1:=jZ.out (k+1)
    rw[hpt,List.length_append]at h1
    omega
   have iC:=ah hsz
   rcases Rd.shape hrd with⟨ad,he,h0⟩|⟨g,off,cc,he,hmx⟩
   ·omega
   injection he with e1 e2 e3
   subst e1 e3
   clear e2 hpt
   generalize vs.getD k default=q at*
   obtain⟨qe,qk,qc,Fb,Fe,Fg⟩:=q
   obtain⟨hqe,sU,hqg⟩:=hq
   have hqe:qe=[]:=hqe
   subst hqe
   have LJ:bZ Q wr Fb Fe [] qk:=sU.tree
   obtain⟨b0,d0,rfl⟩:=LJ.ents.rd.sl
   obtain⟨os,hkr,-⟩:=LJ.kids
   obtain⟨b1,d1,rfl⟩:=hkr.rd.sl
   have hqs:sizeT [] qk≤2000:=hqg.ok.small
   have y0:wr.cell? ⟨g,off+k*3,none⟩=some (.slice b0 0 d0):=hrd.cell _ _ g0
   have y1:wr.cell? ⟨g,off+k*3+1,none⟩=some (.slice b1 qk.len d1):=hrd.cell (k*3+1) _ g1
   have lD:=World.block_lt_of_cell? _ _ y0
   have Iu:=ah (fun W (f:aj aF wr W)=>Lh Q [] qk W _ _ (LJ.aS f) (by omega))
   have hki:(k:Int)<(n:Int):=by omega
   have Yu:=ah (show(dI [] qk).length≤2000 from iC.out)
   have agy:=ah (show pz ((vs.map aU.g).take (k+1))=pz ((vs.map aU.g).take k)++dI [] qk from Yt.out)
   clear hrd g0 g1 g2 hkl iF sU hqg LJ hkr hqs hsz Yt iC
   go_wp2_with(first
    |(go_at_call 24;refine(Iu.out _ (aj.refl _ _)).mono ?_;rintro e w3 ⟨v3,l3,rfl,ho3,hd3⟩;obtain⟨a3,c3,rfl⟩:=ho3.own.shape;have ku:=ah ho3;have dw:=ah ho3.own;clear ho3;have hd4:=congrArg List.length hd3;rw[List.length_map]at hd4;have HD4:=ah hd4;have HD3:=ah hd3;clear hd3 hd4 y0 y1 lD s0 hls;have HKK:=ah (zy.out.aS dw.out.aI))
    |(at_builtin;refine Dq _ rfl (.tmp 11) (.tmp 18) 50 50 rfl 103 i0 _ 5 64 Tryz.underlying50 hi hz0 hz1 hz2 (by decide) (by decide) _ _ _ rfl HKK.out.own.own _ l3.length _ rfl (dw.out.rd.src Tryz.underlying50 (by rw[KO]) (Le ku.out.one)) (by have:=HD4.out;have:=Yu.out;simp only[maxLen];omega) (by have:=HD4.out;have:=Yu.out;omega) ?_;intro EL CP w5b dP sV sW _;have OW:=ah (HKK.out.add sV sW dP (fun x hx=>(ku.out.each x hx).turn fun k _ hQ=>⟨rfl, .inr (by have h1:=zy.out.own.aI.size;have h3:=hQ.1.resolve_left id;omega),fun e=>by have h3:=hQ.1.resolve_left id;obtain⟨cur,h4⟩:=jB zy.out.own.own e;have h5:=lt_of_block h4;omega⟩) ku.out.one);clear dP sV sW))
   go_roundw
   case rel=>exact⟨k+1,l++l3,by omega,by go_num,OW.out,by rw[List.map_append,HC.out,HD3.out,agy.out]⟩
   case measure=>simp[intOf];omega
  ·obtain rfl:n=k:=by omega
   have hta:(vs.map aU.g).take n=vs.map aU.g:=List.take_of_length_le (by rw[List.length_map,wU.out];exact Nat.le_refl _)
   have hcp:=HC.out
   rw[hta]at hcp
   have h0l:0<vs.length:=by rw[wU.out];omega
   obtain⟨-,-,g2⟩:=wG vs 0 h0l
   have iF:=HR.out _ HF.out
   have hrd:=iF.vis.rd.rd
   obtain⟨hqe,sU,hqg⟩:=iF.vis.each _ (getD_mem default h0l)
   have f_:=ah (fun W (f:aj aF wr W)=>LH _ _ [] ks 5 l W (.slice av l.length cv9) (Nat.lt_succ_self _) ((zy.out.aS f).Ig) (by rw[hcp];exact HP.out) pX.out (by omega) (by have:=HS.out;unfold sizeT;simp only[List.length_nil];omega))
   rcases Rd.shape hrd with⟨ad,he,h0⟩|⟨g,off,cc,he,hmx⟩
   ·omega
   injection he with e1 e2 e3
   subst e1 e3
   clear e2 hta hcp
   have HCX:=ah (agu ((HR.out w (aj.refl _ _)).vis.each _ (getD_mem default h0l)).2.1.ctx.rd)
   generalize Yv:vs.getD 0 default=q at*
   have HQE:=ah (congrArg aU.c Yv)
   clear Yv
   obtain⟨qe,qk,qc,Fb,Fe,Fg⟩:=q
   have Yw:Rd wr Fg qc.length (dY qc):=sU.ctx.rd
   obtain⟨b2,d2,rfl⟩:=Yw.sl
   have y2:wr.cell? ⟨g,off+2,none⟩=some (.slice b2 qc.length d2):=by
    have:=hrd.cell (0*3+2) _ g2
    simpa using this
   have HX:=ah (tq.out.blk HB1.out id)
   have dH:=(⟨(aj.drew aF _).cell' s0 id,(aj.drew aF _).cell' y2 id⟩:wr.drew.cell? ⟨w.heap.size,0,none⟩=some (.slice (some ⟨g,off,none⟩) n c0)∧wr.drew.cell? ⟨g,off+2,none⟩=some (.slice b2 qc.length d2))
   have Rj:=ah (show w.heap.size+1<wr.heap.size by have:=tq.out.size;have:=HZ2.out;omega)
   have dJ:=ah (fun Y Y' (f:aj aF Y Y') (hS:Y.cell? ⟨w.heap.size,0,none⟩=some (.slice (some ⟨g,off,none⟩) n c0)∧Y.cell? ⟨g,off+2,none⟩=some (.slice b2 qc.length d2))=>(⟨f.cell' hS.1 id,f.cell' hS.2 id⟩:Y'.cell? ⟨w.heap.size,0,none⟩=some (.slice (some ⟨g,off,none⟩) n c0)∧Y'.cell? ⟨g,off+2,none⟩=some (.slice b2 qc.length d2)))
   clear iF hrd sU hqg hqe g2 h0l s0 hls y2 Yw
   go_upto_region 7 with fail
   refine iq (S:=fun Y=>Y.cell? ⟨w.heap.size,0,none⟩=some (.slice (some ⟨g,off,none⟩) n c0)∧Y.cell? ⟨g,off+2,none⟩=some (.slice b2 qc.length d2)) 8 (by kernel_rfl) dH ?_
   clear dH
   intro hS
   have ng:=ah (aj.drew aF wr)
   generalize World.drew _=Y0 at*
   refine aX 0 21 rfl rfl ?_
   refine aX 2 23 rfl rfl ?_
   try simp only[Act.put,aO,aN,aJ]
   refine aX 3 24 rfl rfl ?_
   refine aX 4 25 rfl rfl ?_
   try simp only[Act.put,aO,aN,aJ]
   refine aX 5 26 rfl rfl ?_
   refine aX 6 27 rfl rfl ?_
   try simp only[Act.put,aO,aN,aJ]
   refine bg (i:=1) (by kernel_rfl) rfl (fun K hK=>?_)
   go_simp
   refine(f_.out _ ng.out).mono ?_
   rintro e Y1 ⟨ev1,wP,rfl,ht1,hf1⟩
   obtain⟨b0,d0,rfl⟩:=ht1.ents.rd.sl
   obtain⟨os1,uK,-⟩:=ht1.kids
   obtain⟨b1,d1,rfl⟩:=uK.rd.sl
   have HT1:=ah ht1
   have dN:=ah (ng.out.aH hf1)
   have HD0:=ah ng.out.size
   have hS1:=dJ.out _ _ hf1 hS
   refine hK.out _ _ hS1 ?_
   clear hK K hS hf1 ht1 uK
   have hS:=hS1
   clear hS1
   try simp only[Act.put,aO,aN,aJ]
   refine aX 7 28 rfl rfl ?_
   try simp only[Act.put,aO,aN,aJ]
   refine gJ (by kernel_rfl) (by kernel_rfl) rfl (fun K hK=>?_)
   have hx:=dN.out.blk HX.out id
   have x0:=aG hx 0 rfl
   have x1:=aG hx 1 rfl
   have x2:=aG hx 2 rfl
   have f0:=aW hx 0
   have f1:=aW hx 1
   have f2:=aW hx 2
   have hlx:=lt_of_block hx
   have bH:=ah (m_ hx (.slice b0 0 d0) (.slice b1 ks.len d1) (.slice b2 qc.length d2))
   have bU:=ah (fun w0=>mJ w0 (w.heap.size+1) (.slice b0 0 d0) (.slice b1 ks.len d1) (.slice b2 qc.length d2))
   clear hS
   go_simp
   refine hK.out _ _ ?_
   clear hK K x0 x1 x2 f0 f1 f2 hlx hx
   go_wp2
   have z0:=aG bH.out 0 rfl
   have z1:=aG bH.out 1 rfl
   have z2:=aG bH.out 2 rfl
   have kM:=Rj.out
   have hd0:=HD0.out
   refine bodyPost_ret (v:= .agg #[.slice b0 0 d0, .slice b1 ks.len d1, .slice b2 qc.length d2]) (by simp[results,Tryz.results54,go_sem,z0,z1,z2]) rfl ⟨_,_,_,rfl,⟨HT1.out.turn fun y hy hq=>⟨(bU.out _).block y hy (by omega),trivial⟩,(show je _ _ (vs.getD 0 default).c by rw[HQE.out];exact(HCX.out.turn (Q':=fun _=>True) fun y hy hq=>⟨((HF.out.aH dN.out).trans (bU.out _) fun _ hy e=>by omega).block y hy id,trivial⟩).rd)⟩,(HF.out.aH dN.out).trans (bU.out _) fun y hy e=>by omega⟩
end
end Go.Proofs.YtlhmbkjdfjoilaaGreat
