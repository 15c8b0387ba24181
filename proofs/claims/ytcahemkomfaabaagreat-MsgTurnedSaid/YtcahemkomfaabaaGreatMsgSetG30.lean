/- Words for the law MsgSet: R8Same, R9Same, Awake16, PackBytes, Put16, BunPut, Crc, Frame1. -/
import Derived.Test.YtcahemkomfaabaaGreatMsgSetG7
import Derived.Test.YtcahemkomfaabaaGreatMsgSetG9
import Derived.Test.YtcahemkomfaabaaGreatMsgSetG12
import Derived.Test.YtcahemkomfaabaaGreatMsgSetG14
import Derived.Test.YtcahemkomfaabaaGreatMsgSetG16
import Derived.Test.YtcahemkomfaabaaGreatMsgSetG17
import Derived.Test.YtcahemkomfaabaaGreatMsgSetG18
import Derived.Test.YtcahemkomfaabaaGreatMsgSetG24
import Derived.Test.YtcahemkomfaabaaGreatMsgSetG27
import Derived.Test.YtcahemkomfaabaaGreatMsgSetG28
import Derived.Test.YtcahemkomfaabaaGreatMsgSetG29
set_option linter.unusedSimpArgs false
set_option linter.unusedVariables false
set_option maxHeartbeats 32000000
set_option maxRecDepth 1000000
namespace Go.Proofs.YtcahemkomfaabaaGreat
open Go.RowKit
theorem r8Same_any (Q Q' : Nat → Prop) : ∀ (N : Nat) (es : List Ent) (ks : KidsL) (es' : List Ent) (ks' : KidsL) (w : World) (ev kv ev' kv' : Value), sizeK ks < N → TreeAt Q w ev kv es ks → TreeAt Q' w ev' kv' es' ks' → sizeT es ks ≤ 100000 → sizeT es' ks' ≤ 100000 →
 Calls Tryz.prog 94 #[.agg #[ev, kv], .agg #[ev', kv']] w fun e w' => e = .returned (.bool (tf (es = es' ∧ ks = ks'))) ∧ Frm NoS w w' := by
 intro N
 induction N with
 | zero => intros; exfalso; omega
 | succ N IHN =>
  intro es ks es' ks' w ev kv ev' kv' hN ht ht' hsz hsz'
  obtain ⟨ae, ce, rfl⟩ := ht.ents.rd.sl
  obtain ⟨os, hkr, hfor⟩ := ht.kids
  obtain ⟨ak, ck, rfl⟩ := hkr.rd.sl
  obtain ⟨ae', ce', rfl⟩ := ht'.ents.rd.sl
  obtain ⟨os', hkr', hfor'⟩ := ht'.kids
  obtain ⟨ak', ck', rfl⟩ := hkr'.rd.sl
  have h1 : es.length ≤ 100000 := by unfold sizeT at hsz; omega
  have h2 : es'.length ≤ 100000 := by unfold sizeT at hsz'; omega
  have h3 : ks.len ≤ 100000 := by have := len_le_sizeK ks; unfold sizeT at hsz; omega
  have h4 : ks'.len ≤ 100000 := by have := len_le_sizeK ks'; unfold sizeT at hsz'; omega
  by_cases hle : es.length = es'.length
  rotate_left 1
  · rw [tf_false fun h => hle (by rw [h.1])]
    clear ht ht' hkr hkr' hfor hfor' IHN hN hsz hsz'
    generalize es.length = n at *
    generalize ks.len = m at *
    generalize es'.length = n' at *
    generalize ks'.len = m' at *
    have hz : ((n : Int) == (n' : Int)) = false := by simp; omega
    have HFB := Lib.hid ((Frm.alloc NoS w (.cells #[.slice ae n ce, .slice ak m ck] 28)).alloc1 (o := .cells #[.slice ae' n' ce', .slice ak' m' ck'] 28))
    go_enter Tryz.func94, Tryz.ntmps94
    go_wp2
    go_ret
    exact ⟨rfl, HFB.out⟩
  by_cases hlk : ks.len = ks'.len
  rotate_left 1
  · rw [tf_false fun h => hlk (by rw [h.2])]
    rw [← hle]
    clear ht ht' hkr hkr' hfor hfor' IHN hN hsz hsz' h2 hle
    generalize es.length = n at *
    generalize ks.len = m at *
    generalize ks'.len = m' at *
    have hz : ((m : Int) == (m' : Int)) = false := by simp; omega
    have HFB := Lib.hid ((Frm.alloc NoS w (.cells #[.slice ae n ce, .slice ak m ck] 28)).alloc1 (o := .cells #[.slice ae' n ce', .slice ak' m' ck'] 28))
    go_enter Tryz.func94, Tryz.ntmps94
    go_wp2
    go_ret
    exact ⟨rfl, HFB.out⟩
  have HE := Lib.hid ht.ents.rd
  have hE' := ht'.ents.rd
  have hK' := hkr'.rd
  rw [← hle] at hE' ⊢
  rw [← hlk] at hK' ⊢
  have HE' := Lib.hid hE'; clear hE'
  have HKR := Lib.hid hkr.rd
  have HKR' := Lib.hid hK'; clear hK'
  have HFOR := Lib.hid hfor; clear hfor
  have HFOR' := Lib.hid hfor'; clear hfor'
  have HLE := Lib.hid hle.symm; clear hle
  have HLK := Lib.hid hlk.symm; clear hlk
  have IH := Lib.hid IHN; clear IHN
  have HSZ := Lib.hid hsz; clear hsz
  have HSZ' := Lib.hid hsz'; clear hsz'
  have HNN := Lib.hid hN; clear hN
  clear ht ht' hkr hkr' h2 h4
  generalize hes : es.length = n at *
  have HN := Lib.hid hes; clear hes
  generalize hkl : ks.len = m at *
  have HM := Lib.hid hkl; clear hkl
  have HFB := Lib.hid ((Frm.alloc NoS w (.cells #[.slice ae n ce, .slice ak m ck] 28)).alloc1 (o := .cells #[.slice ae' n ce', .slice ak' m ck'] 28))
  have HBX := Lib.hid (pair2 w (.slice ae n ce) (.slice ak m ck) (.slice ae' n ce') (.slice ak' m ck') 28)
  go_enter Tryz.func94, Tryz.ntmps94
  go_wp2
  go_loopw [26] (fun i ww => ∃ k : Nat, k ≤ n ∧ i = .int .i64 k ∧ LikeE es es' k ∧ Frm NoS ((w.alloc (.cells #[.slice ae n ce, .slice ak m ck] 28)).alloc (.cells #[.slice ae' n ce', .slice ak' m ck'] 28)) ww) (fun i _ => n - (intOf i).toNat)
  case atStart => exact ⟨0, Nat.zero_le _, rfl, (fun j hj => absurd hj (Nat.not_lt_zero _)), Frm.refl _ _⟩
  case round =>
   obtain ⟨k, hk, rfl, hlk, hw⟩ := hrel
   have HLI := Lib.hid hlk; clear hlk
   have HW := Lib.hid hw; clear hw
   obtain ⟨b0, b1, b2, b3⟩ := HBX.out wr HW.out
   by_cases hlt : k < n
   · rcases Rd.shape HE.out with ⟨ad, he, h0⟩ | ⟨e1, off1, cc1, he, hmax⟩
     · exfalso; omega
     rcases Rd.shape HE'.out with ⟨ad, he2, h0⟩ | ⟨e2, off2, cc2, he2, hmax2⟩
     · exfalso; omega
     injection he with g1 g2 g3
     injection he2 with g4 g5 g6
     subst g1 g3 g4 g6
     clear g2 g5
     obtain ⟨p0, p1, p2, p3⟩ := ent_at HE.out k (by rw [HN.out]; exact hlt)
     obtain ⟨q0, q1, q2, q3⟩ := ent_at HE'.out k (by rw [HLE.out]; exact hlt)
     have hfw := HFB.out.then1 HW.out
     have p0 := hfw.cell' p0 id
     have p1 := hfw.cell' p1 id
     have p2 := hfw.cell' p2 id
     have p3 := hfw.cell' p3 id
     have q0 := hfw.cell' q0 id
     have q1 := hfw.cell' q1 id
     have q2 := hfw.cell' q2 id
     have q3 := hfw.cell' q3 id
     clear hfw
     have HST := Lib.hid (show es.getD k Ent.zero = es'.getD k Ent.zero → LikeE es es' (k + 1) from HLI.out.step)
     have HNO := Lib.hid (show es.getD k Ent.zero ≠ es'.getD k Ent.zero → ¬ (es = es' ∧ ks = ks') from fun h e => h (by rw [e.1]))
     generalize es.getD k Ent.zero = s at *
     generalize es'.getD k Ent.zero = t at *
     by_cases hst : s = t
     · subst hst
       go_wp2_with fail
       go_quiet (fail)
       go_wp2
       go_roundw
       case rel => exact ⟨k + 1, by omega, by go_num, HST.out (by trivial), HW.out.drewN1⟩
       case measure => simp [intOf]; omega
     · have HNE := Lib.hid (show false = tf (es = es' ∧ ks = ks') from (tf_false (HNO.out hst)).symm)
       obtain ⟨s0, s1, s2, s3⟩ := s
       obtain ⟨t0, t1, t2, t3⟩ := t
       clear HST HNO
       dsimp only at p0 p1 p2 p3 q0 q1 q2 q3
       by_cases g0 : s0 = t0
       · subst g0
         by_cases g1 : s1 = t1
         · subst g1
           by_cases g2 : s2 = t2
           · subst g2
             have g3 : s3 ≠ t3 := fun h => hst (by rw [h])
             clear hst
             have gb : ((s3 : Int) == t3) = false := by simpa using g3
             go_wp2_with fail
             go_quiet (fail)
             go_wp2
             go_ret
             exact ⟨ret_bool HNE.out, HFB.out.then1 HW.out.drewN1⟩
           · clear hst
             have gb := ne_text g2
             go_wp2_with fail
             go_quiet (fail)
             go_wp2
             go_ret
             exact ⟨ret_bool HNE.out, HFB.out.then1 HW.out.drewN1⟩
         · clear hst
           have gb : ((s1 : Int) == t1) = false := by simpa using g1
           go_wp2_with fail
           go_quiet (fail)
           go_wp2
           go_ret
           exact ⟨ret_bool HNE.out, HFB.out.then1 HW.out.drewN1⟩
       · clear hst
         have gb : ((s0 : Int) == t0) = false := by simpa using g0
         go_wp2_with fail
         go_quiet (fail)
         go_wp2
         go_ret
         exact ⟨ret_bool HNE.out, HFB.out.then1 HW.out.drewN1⟩
   · obtain rfl : n = k := by omega
     have hee : es = es' := LikeE.all (HN.out.trans HLE.out.symm) (by rw [HN.out]; exact HLI.out)
     have HEE := Lib.hid hee; clear hee
     go_wp2
     clear b0 b1 b2 b3
     go_loopw [44] (fun i ww => ∃ k : Nat, k ≤ m ∧ i = .int .i64 k ∧ (ks = ks' ↔ ks.drop k = ks'.drop k) ∧ Frm NoS ((w.alloc (.cells #[.slice ae n ce, .slice ak m ck] 28)).alloc (.cells #[.slice ae' n ce', .slice ak' m ck'] 28)) ww) (fun i _ => m - (intOf i).toNat)
     case atStart => exact ⟨0, Nat.zero_le _, rfl, Iff.rfl, HW.out⟩
     case round =>
      obtain ⟨k, hk, rfl, hiff, hwk⟩ := hrel
      have HIF := Lib.hid hiff; clear hiff
      have HWK := Lib.hid hwk; clear hwk
      by_cases hlt : k < m
      · obtain ⟨key, es0, sub, rest, hdr⟩ := KidsL.drop_some (n := k) (ks := ks) (by rw [HM.out]; exact hlt)
        obtain ⟨key', es0', sub', rest', hdr'⟩ := KidsL.drop_some (n := k) (ks := ks') (by rw [HLK.out]; exact hlt)
        rcases Rd.shape HKR.out with ⟨ad, he, h0⟩ | ⟨e1, off1, cc1, he, hmax⟩
        · exfalso; omega
        rcases Rd.shape HKR'.out with ⟨ad, he2, h0⟩ | ⟨e2, off2, cc2, he2, hmax2⟩
        · exfalso; omega
        injection he with g1 g2 g3
        injection he2 with g4 g5 g6
        subst g1 g3 g4 g6
        clear g2 g5
        have hfw := HFB.out.then1 HWK.out
        obtain ⟨ev0, kv0, p0, p1, p2, hta⟩ := kid_at (HKR.out.keep0 hfw) (HFOR.out.keep0 hfw) hdr
        obtain ⟨ev1, kv1, q0, q1, q2, htb⟩ := kid_at (HKR'.out.keep0 hfw) (HFOR'.out.keep0 hfw) hdr'
        clear hfw
        have hss := size_sub k hdr
        have hst1 := sizeT_sub k hdr
        have hst2 := sizeT_sub k hdr'
        have HC := Lib.hid (fun W (f : Frm NoS wr W) => IH.out es0 sub es0' sub' W ev0 kv0 ev1 kv1 (by have := HNN.out; omega) (hta.keep0 f) (htb.keep0 f) (by have := HSZ.out; unfold sizeT at *; omega) (by have := HSZ'.out; unfold sizeT at *; omega))
        have HST := Lib.hid (kids_step hdr hdr')
        obtain ⟨a0, c0, rfl⟩ := hta.ents.rd.sl
        obtain ⟨o3, hk3, -⟩ := hta.kids
        obtain ⟨a1, c1, rfl⟩ := hk3.rd.sl
        obtain ⟨a0', c0', rfl⟩ := htb.ents.rd.sl
        obtain ⟨o4, hk4, -⟩ := htb.kids
        obtain ⟨a1', c1', rfl⟩ := hk4.rd.sl
        clear hk3 hk4 hta htb hdr hdr' hss hst1 hst2
        generalize es0.length = n0 at *
        generalize sub.len = m0 at *
        generalize es0'.length = n1 at *
        generalize sub'.len = m1 at *
        obtain ⟨α, hne, K, hK1, hK0, hK2⟩ := worlds wr
        have kb := fun s => HBX.out (K s) (HWK.out.then1 (hK1 s))
        have k0 := fun s => (kb s).1
        have k1 := fun s => (kb s).2.1
        have k2 := fun s => (kb s).2.2.1
        have k3 := fun s => (kb s).2.2.2
        have r0 := fun s => (hK1 s).cell' p0 id
        have r1 := fun s => (hK1 s).cell' p1 id
        have r2 := fun s => (hK1 s).cell' p2 id
        have t0 := fun s => (hK1 s).cell' q0 id
        have t1 := fun s => (hK1 s).cell' q1 id
        have t2 := fun s => (hK1 s).cell' q2 id
        clear kb p0 p1 p2 q0 q1 q2
        have HFK := Lib.hid (fun s => HWK.out.then1 (hK1 s))
        have HK1 := Lib.hid hK1
        by_cases hkey : key = key'
        · by_cases hsub : es0 = es0' ∧ sub = sub'
          · rw [tf_true hsub] at HC
            have HY := Lib.hid (show key = key' ∧ es0 = es0' ∧ sub = sub' from ⟨hkey, hsub⟩)
            subst hkey
            clear hsub
            go_wp2_with fail
            refine wp_region_new K (by kernel_rfl) (by kernel_rfl) hK0 ?_
            repeat (go_big_quiet_step ((go_at_call 94; exact Calls.in_class hK2 (HC.out _ (HK1.out _)))))
            refine wpQuiet_nil ?_
            intro w' hw'
            obtain ⟨s, rfl⟩ := hw'
            go_wp2
            go_roundw
            case rel => exact ⟨k + 1, by omega, by go_num, HIF.out.trans (HST.out.trans ⟨fun h => h.2, fun h => ⟨⟨by trivial, HY.out.2⟩, h⟩⟩), HFK.out s⟩
            case measure => simp [intOf]; omega
          · rw [tf_false hsub] at HC
            have HY := Lib.hid (show ¬ (es = es' ∧ ks = ks') from fun h => hsub (HST.out.1 (HIF.out.1 h.2)).1.2)
            subst hkey
            clear hsub
            go_wp2_with fail
            refine wp_region_new K (by kernel_rfl) (by kernel_rfl) hK0 ?_
            repeat (go_big_quiet_step ((go_at_call 94; exact Calls.in_class hK2 (HC.out _ (HK1.out _)))))
            refine wpQuiet_nil ?_
            intro w' hw'
            obtain ⟨s, rfl⟩ := hw'
            go_wp2
            go_ret
            exact ⟨ret_bool (tf_false HY.out).symm, HFB.out.then1 (HFK.out s)⟩
        · have HY := Lib.hid (show ¬ (es = es' ∧ ks = ks') from fun h => hkey (HST.out.1 (HIF.out.1 h.2)).1.1)
          have gb := ne_text hkey
          have gc : (key.toList == key'.toList) = false := by simpa using gb
          go_wp2_with fail
          refine wp_region_new K (by kernel_rfl) (by kernel_rfl) hK0 ?_
          repeat (go_big_quiet_step ((go_at_call 94; exact Calls.in_class hK2 (HC.out _ (HK1.out _)))))
          refine wpQuiet_nil ?_
          intro w' hw'
          obtain ⟨s, rfl⟩ := hw'
          go_wp2
          go_ret
          exact ⟨ret_bool (tf_false HY.out).symm, HFB.out.then1 (HFK.out s)⟩
      · obtain rfl : m = k := by omega
        have hkk : ks = ks' := HIF.out.2 (by rw [KidsL.drop_none (by rw [HM.out]; exact Nat.le_refl _), KidsL.drop_none (by rw [HLK.out]; exact Nat.le_refl _)])
        have HKK := Lib.hid hkk; clear hkk
        go_wp2
        go_ret
        exact ⟨ret_bool (tf_true ⟨HEE.out, HKK.out⟩).symm, HFB.out.then1 HWK.out⟩
theorem r9Same_any (Q Q' : Nat → Prop) (es : List Ent) (ks : KidsL) (c : CtxL) (es' : List Ent) (ks' : KidsL) (c' : CtxL) (w : World) (ev kv cv ev' kv' cv' : Value) (h : CauAt Q w ev kv cv es ks c) (hok : CauOk es ks c) (h' : CauAt Q' w ev' kv' cv' es' ks' c') (hok' : CauOk es' ks' c') :
 Calls Tryz.prog 39 #[.agg #[ev, kv, cv], .agg #[ev', kv', cv']] w fun e w' => e = .returned (.bool (tf ((es = es' ∧ ks = ks') ∧ c = c'))) ∧ Frm NoS w w' := by
 obtain ⟨a0, c0, a1, c1, a2, c2, rfl, rfl, rfl⟩ := h.shape
 obtain ⟨b0, d0, b1, d1, b2, d2, rfl, rfl, rfl⟩ := h'.shape
 have HT := Lib.hid (fun W (f : Frm NoS w W) => r8Same_any Q Q' _ es ks es' ks' W _ _ _ _ (Nat.lt_succ_self _) (h.tree.keep0 f) (h'.tree.keep0 f) (Nat.le_trans hok.small (by decide)) (Nat.le_trans hok'.small (by decide)))
 have hde : decide (c = c') = tf (c = c') := tf_bool (by rw [decide_eq_true_iff])
 have HC := Lib.hid (fun W (f : Frm NoS w W) => hde ▸ r7Same_any W _ _ c c' (Rd.keep0 h.ctx f) (Rd.keep0 h'.ctx f) (Nat.le_trans hok.len (by decide)) (Nat.le_trans hok'.len (by decide)))
 clear h hok h' hok' hde
 by_cases r3 : es = es' ∧ ks = ks'
 rotate_left 1
 · rw [tf_false r3] at HT
   rw [tf_false fun h => r3 h.1]
   clear r3 HC
   generalize es.length = n at *
   generalize ks.len = m at *
   generalize c.length = k at *
   generalize es'.length = n' at *
   generalize ks'.len = m' at *
   generalize c'.length = k' at *
   have HFB := Lib.hid ((Frm.alloc NoS w (.cells #[.slice a0 n c0, .slice a1 m c1, .slice a2 k c2] 32)).alloc1 (o := .cells #[.slice b0 n' d0, .slice b1 m' d1, .slice b2 k' d2] 32))
   have HBX := Lib.hid (pair3 w (.slice a0 n c0) (.slice a1 m c1) (.slice a2 k c2) (.slice b0 n' d0) (.slice b1 m' d1) (.slice b2 k' d2) 32)
   go_enter Tryz.func39, Tryz.ntmps39
   go_wp2_with (first
    | (go_at_call 94; refine (HT.out _ HFB.out).mono ?_; rintro e w1 ⟨rfl, hw1⟩; obtain ⟨y0, y1, y2, y3, y4, y5⟩ := HBX.out w1 hw1; have HW1 := Lib.hid hw1; clear hw1))
   go_ret
   exact ⟨rfl, HFB.out.then1 HW1.out⟩
 rw [tf_true r3] at HT
 have hall : tf ((es = es' ∧ ks = ks') ∧ c = c') = tf (c = c') := tf_congr ⟨fun h => h.2, fun h => ⟨r3, h⟩⟩
 rw [hall]
 clear hall r3
 generalize tf (c = c') = y at *
 generalize es.length = n at *
 generalize ks.len = m at *
 generalize c.length = k at *
 generalize es'.length = n' at *
 generalize ks'.len = m' at *
 generalize c'.length = k' at *
 have HFB := Lib.hid ((Frm.alloc NoS w (.cells #[.slice a0 n c0, .slice a1 m c1, .slice a2 k c2] 32)).alloc1 (o := .cells #[.slice b0 n' d0, .slice b1 m' d1, .slice b2 k' d2] 32))
 have HBX := Lib.hid (pair3 w (.slice a0 n c0) (.slice a1 m c1) (.slice a2 k c2) (.slice b0 n' d0) (.slice b1 m' d1) (.slice b2 k' d2) 32)
 go_enter Tryz.func39, Tryz.ntmps39
 go_wp2_with (first
  | (go_at_call 94; refine (HT.out _ HFB.out).mono ?_; rintro e w1 ⟨rfl, hw1⟩; obtain ⟨y0, y1, y2, y3, y4, y5⟩ := HBX.out w1 hw1; have HW1 := Lib.hid hw1; clear hw1)
  | (go_at_call 70; refine (HC.out _ (HFB.out.then1 HW1.out)).mono ?_; rintro e w2 ⟨rfl, hw2⟩; have HW2 := Lib.hid (HW1.out.then1 hw2); clear hw2))
 go_ret
 exact ⟨rfl, HFB.out.then1 HW2.out⟩
theorem cauB_right {es : List Ent} {ks : KidsL} {c : CtxL} (hr : CauRight es ks c) : cauB es ks c = encX es ks c := by unfold cauB; rw [tf_true hr, if_pos rfl]
theorem RdQ.old {w : World} {v : Value} {n : Nat} {xs : List Value} (h : Rd w v n xs) : RdQ (fun b => b < w.heap.size) w v n xs := ⟨h, fun hx k hk => by
 rcases h with ⟨ad, h1, h2, h3⟩ | ⟨b, off, c, rfl, h2, h3, h4⟩
 · exact absurd h3 hx
 · simp [Value.ownBlock] at hk
   subst hk
   cases xs with
   | nil => exact absurd rfl hx
   | cons x xs => exact World.block_lt_of_cell? _ _ (h4 0 x rfl)⟩
theorem pPutVec_all (ob : Nat) (w : World) (v : Value) (bs : List UInt8) (v0 v1 v2 v3 : Int) (ho : OutAt w ob v bs) (hb : bs.length ≤ 80000000) :
 Calls Tryz.prog 41 #[.pointer (some ⟨ob, 0, none⟩), .agg #[.int .i64 v0, .int .i64 v1, .int .i64 v2, .int .i64 v3]] w fun e w' => e = .returned (.tuple #[]) ∧ Put1 w ob v bs (vecB v0 v1 v2 v3) w' :=
 (pPutVector_any ob w v bs v0 v1 v2 v3 ho hb).mono fun e w' ⟨he, h1, h2⟩ => ⟨he, by
  unfold vecB
  by_cases hm : MayV (vecF v0 v1 v2 v3)
  · rw [if_pos (tf_true hm)]; exact h1 hm
  · rw [if_neg (by rw [tf_false hm]; decide)]; exact h2 hm⟩
theorem vecB_le {v0 v1 v2 v3 : Int} : (vecB v0 v1 v2 v3).length ≤ 40 := by
 unfold vecB
 have z := numB_le10 (v := 0) (by decide) (by decide)
 by_cases hm : MayV (vecF v0 v1 v2 v3)
 · rw [if_pos (tf_true hm)]
   have g0 : 0 ≤ v0 ∧ v0 ≤ 1099511627776 := hm 0 (by decide) (by decide)
   have g1 : 0 ≤ v1 ∧ v1 ≤ 1099511627776 := hm 1 (by decide) (by decide)
   have g2 : 0 ≤ v2 ∧ v2 ≤ 1099511627776 := hm 2 (by decide) (by decide)
   have g3 : 0 ≤ v3 ∧ v3 ≤ 1099511627776 := hm 3 (by decide) (by decide)
   have h0 := numB_le10 (v := v0) (by omega) (by omega)
   have h1 := numB_le10 (v := v1) (by omega) (by omega)
   have h2 := numB_le10 (v := v2) (by omega) (by omega)
   have h3 := numB_le10 (v := v3) (by omega) (by omega)
   unfold encV
   simp only [List.length_append]
   omega
 · rw [if_neg (by rw [tf_false hm]; decide)]
   unfold encV
   simp only [List.length_append]
   omega
theorem RdQ.keepP {Q : Nat → Prop} {w ww : World} {ob : Nat} {v u : Value} {bs cs : List UInt8} {n : Nat} {xs : List Value} (h : RdQ Q w u n xs) (hq : ∀ b, OutS ob v b → ¬ Q b) (hp : Put1 w ob v bs cs ww) : RdQ Q ww u n xs := by
 obtain ⟨_, _, _, f⟩ := hp
 exact h.keep f fun b _ hs => hq b hs
theorem TreeAt.keepP {Q : Nat → Prop} {w ww : World} {ob : Nat} {v ev kv : Value} {bs cs : List UInt8} {es : List Ent} {ks : KidsL} (h : TreeAt Q w ev kv es ks) (hq : ∀ b, OutS ob v b → ¬ Q b) (hp : Put1 w ob v bs cs ww) : TreeAt Q ww ev kv es ks := by
 obtain ⟨_, _, _, f⟩ := hp
 exact h.keep f fun b _ hs => hq b hs
theorem bPut_yes (Q : Nat → Prop) (d : BunD) (hr : d.right) (hok : CauOk d.es d.ks d.c) (w : World) (ev kv cv : Value) (ht : TreeAt Q w ev kv d.es d.ks) (hc : CtxQ Q w cv d.c) (ob : Nat) (v : Value) (bs : List UInt8) (ho : OutAt w ob v bs) (hq : ∀ b, OutS ob v b → ¬ Q b) (hl : bs.length ≤ 70000000) :
 Calls Tryz.prog 42 #[.pointer (some ⟨ob, 0, none⟩), .agg #[.int .i64 d.dc, .int .i64 d.af, .int .i64 d.la, .int .i64 d.v0, .int .i64 d.v1, .int .i64 d.v2, .int .i64 d.v3, ev, kv, cv]] w fun e w' => e = .returned (.tuple #[]) ∧ Put1 w ob v bs d.enc w' := by
 obtain ⟨dc, af, la, v0, v1, v2, v3, es, ks, c⟩ := d
 dsimp only at hok ht hc
 have hr : BunRight dc af la (vecF v0 v1 v2 v3) es ks c := hr
 obtain ⟨n1, n2, n3, n4, n5, n6, n7⟩ := BunRight.nums hr
 have HENC := Lib.hid (show BunD.enc ⟨dc, af, la, v0, v1, v2, v3, es, ks, c⟩ = numB dc ++ numB af ++ numB la ++ encV v0 v1 v2 v3 ++ encX es ks c by unfold BunD.enc encB; simp only [List.append_assoc])
 have HV := Lib.hid (show vecB v0 v1 v2 v3 = encV v0 v1 v2 v3 from if_pos (tf_true n7))
 have HX := Lib.hid (cauB_right hr.cau)
 have l1 := numB_le10 (v := dc) (by omega) (by omega)
 have l2 := numB_le10 (v := af) (by omega) (by omega)
 have l3 := numB_le10 (v := la) (by omega) (by omega)
 have l4 := vecB_le (v0 := v0) (v1 := v1) (v2 := v2) (v3 := v3)
 rw [HV.out] at l4
 have hi1 : inR dc := ⟨by omega, by omega⟩
 have hi2 : inR af := ⟨by omega, by omega⟩
 have hi3 : inR la := ⟨by omega, by omega⟩
 have HBR := Lib.hid (fun W ev kv cv (h : CauAt Q W ev kv cv es ks c) => bRight_any Q es ks c W dc af la v0 v1 v2 v3 ev kv cv h hok)
 rw [tf_true hr] at HBR
 clear hr n1 n2 n3 n4 n5 n6 n7
 have hbx := heap_alloc_new w (.cells #[.int .i64 dc, .int .i64 af, .int .i64 la, .int .i64 v0, .int .i64 v1, .int .i64 v2, .int .i64 v3, ev, kv, cv] 64)
 have hnb : ¬ OutS ob v w.heap.size := fun hs => Nat.lt_irrefl _ (outS_lt ho _ hs)
 have fB := Frm.alloc NoS w (.cells #[.int .i64 dc, .int .i64 af, .int .i64 la, .int .i64 v0, .int .i64 v1, .int .i64 v2, .int .i64 v3, ev, kv, cv] 64)
 have HT := Lib.hid (fun W (f : Frm NoS w W) => ht.keep0 f)
 have HC := Lib.hid (fun W (f : Frm NoS w W) => hc.keep0 f)
 have HO := Lib.hid (fun W (f : Frm NoS w W) => ho.keep0 f)
 have HB := Lib.hid (fun W cs (hp : Put1 w ob v bs cs W) (h0 : ∃ W0, Frm NoS (w.alloc (.cells #[.int .i64 dc, .int .i64 af, .int .i64 la, .int .i64 v0, .int .i64 v1, .int .i64 v2, .int .i64 v3, ev, kv, cv] 64)) W0 ∧ Put1 W0 ob v bs cs W) => (show W.heap[w.heap.size]? = some (.cells #[.int .i64 dc, .int .i64 af, .int .i64 la, .int .i64 v0, .int .i64 v1, .int .i64 v2, .int .i64 v3, ev, kv, cv] 64 (0, 0)) by
  obtain ⟨W0, f0, hp0⟩ := h0
  obtain ⟨_, _, _, f3⟩ := hp0
  exact f3.blk (f0.blk hbx id) hnb))
 have HB0 := Lib.hid (fun W (f : Frm NoS (w.alloc (.cells #[.int .i64 dc, .int .i64 af, .int .i64 la, .int .i64 v0, .int .i64 v1, .int .i64 v2, .int .i64 v3, ev, kv, cv] 64)) W) => f.blk hbx id)
 obtain ⟨a1, c1, rfl⟩ := ht.ents.rd.sl
 obtain ⟨os, hkr, -⟩ := ht.kids
 obtain ⟨a2, c2, rfl⟩ := hkr.rd.sl
 obtain ⟨a3, c3, rfl⟩ := Rd.sl hc.at_
 have HFB := Lib.hid fB
 have HQ := Lib.hid hq
 have HOKC := Lib.hid hok
 clear ht hc ho hbx hnb fB hkr hq hok
 rw [HENC.out]
 generalize hgv : encV v0 v1 v2 v3 = bv at *
 have HGV := Lib.hid hgv; clear hgv
 generalize hgx : encX es ks c = bx at *
 have HGX := Lib.hid hgx; clear hgx
 go_enter Tryz.func42, Tryz.ntmps42
 go_wp2_with (first
  | (go_at_call 34; refine (HBR.out _ _ _ _ ⟨HT.out _ HFB.out, (HC.out _ HFB.out).at_⟩).mono ?_; rintro e w1 ⟨rfl, hf1⟩
     have hbk := HB0.out w1 hf1
     have x0 := cell_at' hbk 0 rfl
     have HF1 := Lib.hid hf1
     have HPS := Lib.hid (Put1.start (HO.out w1 (HFB.out.then1 hf1)))
     have HTW := Lib.hid (HT.out w1 (HFB.out.then1 hf1))
     have HCW := Lib.hid (HC.out w1 (HFB.out.then1 hf1))
     have HBK := Lib.hid (fun W cs (hp : Put1 w1 ob v bs cs W) => HB.out W cs (hp.base (HFB.out.then1 hf1)) ⟨w1, hf1, hp⟩)
     clear hf1 hbk)
  | (go_at_call 40; first
    | (have q9 := HP2; clear q9 x0; refine (putNum HP2.out la hi3 (by first | omega | (simp only [List.length_append]; omega))).mono ?_; rintro e w4 ⟨rfl, hp4⟩
       have hbk := HBK.out _ _ hp4
       have x0 := cell_at' hbk 3 rfl
       have x1 := cell_at' hbk 4 rfl
       have x2 := cell_at' hbk 5 rfl
       have x3 := cell_at' hbk 6 rfl
       have HP3 := Lib.hid hp4
       clear hp4 hbk)
    | (have q9 := HP1; clear q9 x0; refine (putNum HP1.out af hi2 (by first | omega | (simp only [List.length_append]; omega))).mono ?_; rintro e w3 ⟨rfl, hp3⟩
       have hbk := HBK.out _ _ hp3
       have x0 := cell_at' hbk 2 rfl
       have HP2 := Lib.hid hp3
       clear hp3 hbk)
    | (clear x0; refine (putNum HPS.out dc hi1 (by first | omega | (simp only [List.length_nil]; omega))).mono ?_; rintro e w2 ⟨rfl, hp2⟩
       rw [List.nil_append] at hp2
       have hbk := HBK.out _ _ hp2
       have x0 := cell_at' hbk 1 rfl
       have HP1 := Lib.hid hp2
       clear hp2 hbk))
  | (go_at_call 41; clear x0 x1 x2 x3; refine (HP3.out.call (ds := bv) fun v' ho' _ _ => (pPutVec_all ob w4 v' _ v0 v1 v2 v3 ho' (by first | omega | (simp only [List.length_append]; omega))).mono fun e w' h => ⟨h.1, by rw [HV.out] at h; exact h.2⟩).mono ?_; rintro e w5 ⟨rfl, hp5⟩
     have hbk := HBK.out _ _ hp5
     have x0 := cell_at' hbk 7 rfl
     have x1 := cell_at' hbk 8 rfl
     have x2 := cell_at' hbk 9 rfl
     have HP4 := Lib.hid hp5
     have HT5 := Lib.hid (HTW.out.keepP HQ.out hp5)
     have HC5 := Lib.hid (show CtxQ Q w5 (.slice a3 c.length c3) c from RdQ.keepP HCW.out HQ.out hp5)
     clear hp5 hbk)
  | (go_at_call 43; refine (HP4.out.call (ds := bx) fun v' ho' _ _ => (pPutCausal_any Q ob w5 v' _ es ks c _ _ _ ho' ⟨HT5.out, HC5.out.at_⟩ HOKC.out (by first | omega | (simp only [List.length_append]; omega))).mono fun e w' h => ⟨h.1, by rw [HX.out] at h; exact h.2⟩).mono ?_; rintro e w6 ⟨rfl, hp6⟩; have HP5 := Lib.hid hp6; clear hp6))
 go_end0
 exact ⟨rfl, HP5.out.base (HFB.out.then1 HF1.out)⟩
theorem r22Bytes_yes (d : BunD) (hr : d.right) (hok : CauOk d.es d.ks d.c) (w : World) (ev kv cv : Value) (hx : CauAt (fun _ => True) w ev kv cv d.es d.ks d.c) :
 Calls Tryz.prog 48 #[.agg #[.int .i64 d.dc, .int .i64 d.af, .int .i64 d.la, .int .i64 d.v0, .int .i64 d.v1, .int .i64 d.v2, .int .i64 d.v3, ev, kv, cv]] w (Ret w d.enc) := by
 obtain ⟨dc, af, la, v0, v1, v2, v3, es, ks, c⟩ := d
 dsimp only at hok hx
 have hr : BunRight dc af la (vecF v0 v1 v2 v3) es ks c := hr
 obtain ⟨n1, n2, n3, n4, n5, n6, n7⟩ := BunRight.nums hr
 have HENC := Lib.hid (show BunD.enc ⟨dc, af, la, v0, v1, v2, v3, es, ks, c⟩ = numB dc ++ numB af ++ numB la ++ encV v0 v1 v2 v3 ++ encX es ks c by unfold BunD.enc encB; simp only [List.append_assoc])
 have HV := Lib.hid (show vecB v0 v1 v2 v3 = encV v0 v1 v2 v3 from if_pos (tf_true n7))
 have HX := Lib.hid (cauB_right hr.cau)
 have l1 := numB_le10 (v := dc) (by omega) (by omega)
 have l2 := numB_le10 (v := af) (by omega) (by omega)
 have l3 := numB_le10 (v := la) (by omega) (by omega)
 have l4 := vecB_le (v0 := v0) (v1 := v1) (v2 := v2) (v3 := v3)
 have l5 := cauB_le hok
 have b1 : -9223372036854775808 ≤ dc ∧ dc ≤ 9223372036854775807 := ⟨by omega, by omega⟩
 have b2 : -9223372036854775808 ≤ af ∧ af ≤ 9223372036854775807 := ⟨by omega, by omega⟩
 have b3 : -9223372036854775808 ≤ la ∧ la ≤ 9223372036854775807 := ⟨by omega, by omega⟩
 have HN1 := Lib.hid (fun W => Calls.mono (rnum dc W b1.1 b1.2) fun _ _ h => Ret.of h)
 have HN2 := Lib.hid (fun W => Calls.mono (rnum af W b2.1 b2.2) fun _ _ h => Ret.of h)
 have HN3 := Lib.hid (fun W => Calls.mono (rnum la W b3.1 b3.2) fun _ _ h => Ret.of h)
 have HRV := Lib.hid (fun W => r16Vec_any W v0 v1 v2 v3)
 have HRX := Lib.hid (fun W ev kv cv (h : CauAt (fun _ => True) W ev kv cv es ks c) => r16Causal_any (fun _ => True) es ks c W ev kv cv h hok)
 have HBR := Lib.hid (fun W ev kv cv (h : CauAt (fun _ => True) W ev kv cv es ks c) => r22Right_any (fun _ => True) es ks c W dc af la v0 v1 v2 v3 ev kv cv h hok)
 rw [tf_true hr] at HBR
 rw [HV.out] at HRV l4
 rw [HX.out] at HRX l5
 have HXA := Lib.hid (fun W (f : Frm NoS w W) => hx.keep0 f)
 clear hr n1 n2 n3 n4 n5 n6 n7 b1 b2 b3 hok
 obtain ⟨a1, c1, a2, c2, a3, c3, rfl, rfl, rfl⟩ := hx.shape
 clear hx
 have HFB := Lib.hid (Frm.alloc NoS w (.cells #[.int .i64 dc, .int .i64 af, .int .i64 la, .int .i64 v0, .int .i64 v1, .int .i64 v2, .int .i64 v3, .slice a1 es.length c1, .slice a2 ks.len c2, .slice a3 c.length c3] 60))
 have HBK := Lib.hid (fun W (f : Frm NoS (w.alloc (.cells #[.int .i64 dc, .int .i64 af, .int .i64 la, .int .i64 v0, .int .i64 v1, .int .i64 v2, .int .i64 v3, .slice a1 es.length c1, .slice a2 ks.len c2, .slice a3 c.length c3] 60)) W) => f.blk (heap_alloc_new w _) id)
 rw [HENC.out]
 generalize hgv : encV v0 v1 v2 v3 = bv at *
 clear hgv HV
 generalize hgx : encX es ks c = bx at *
 clear hgx HX
 have L1 := Lib.hid l1; have L2 := Lib.hid l2; have L3 := Lib.hid l3; have L4 := Lib.hid l4; have L5 := Lib.hid l5
 clear l1 l2 l3 l4 l5
 go_enter Tryz.func48, Tryz.ntmps48
 go_wp2_with (first
  | (go_at_call 23; refine (HBR.out _ _ _ _ (HXA.out _ HFB.out)).mono ?_; rintro e w1 ⟨rfl, hf1⟩; have x0 := cell_at' (HBK.out _ hf1) 0 rfl; have HF1 := Lib.hid hf1; clear hf1)
  | (go_at_call 46; first
    | (have q9 := HC1; refine (HN2.out _).mono ?_; rintro e w3 ⟨s1, s2, t3, ht3, rfl, cp3⟩; have HT3 := Lib.hid ht3; clear ht3 q9; have HP3 := Lib.hid (HC1.out.step cp3.frm); have HC3 := Lib.hid cp3; clear cp3)
    | (refine (HN1.out _).mono ?_; rintro e w2 ⟨s3, s4, t2, ht2, rfl, cp2⟩; clear x0; have x0 := cell_at' (HBK.out _ (HF1.out.then1 cp2.frm)) 1 rfl; have HT2 := Lib.hid ht2; clear ht2; have HC1 := Lib.hid cp2; clear cp2))
  | (at_builtin; refine app_cp w1 w3 rfl (.tmp 11) (.tmp 14) rfl _ t2 HP3.out _ t3 rfl rfl HC3.out.rd ?c1 ?_))
 case c1 => have := L1.out; have := L2.out; rw [HT2.out, HT3.out]; omega
 intro ad4 c4 w4 t4 HT4 e4 _ _
 have E4 := Lib.hid e4; clear e4 x0
 have HL4 := Lib.hid (show t4.length ≤ 20 by have := L1.out; have := L2.out; rw [HT4.out, List.length_append, HT2.out, HT3.out]; omega)
 have x0 := cell_at' (HBK.out _ (HF1.out.then1 E4.out.frm)) 2 rfl
 go_wp2_with (first
  | (go_at_call 46; refine (HN3.out _).mono ?_; rintro e w5 ⟨s5, s6, t5, ht5, rfl, cp5⟩; have HT5 := Lib.hid ht5; clear ht5; have HP5 := Lib.hid (E4.out.step cp5.frm); have HC5 := Lib.hid cp5; clear cp5)
  | (at_builtin; refine app_cp w1 w5 rfl (.tmp 16) (.tmp 19) rfl _ t4 HP5.out _ t5 rfl rfl HC5.out.rd ?c2 ?_))
 case c2 => have := HL4.out; have := L3.out; rw [HT5.out]; omega
 intro ad6 c6 w6 t6 HT6 e6 _ _
 have E6 := Lib.hid e6; clear e6 x0
 have HL6 := Lib.hid (show t6.length ≤ 30 by have := HL4.out; have := L3.out; rw [HT6.out, List.length_append, HT5.out]; omega)
 have hbk := HBK.out _ (HF1.out.then1 E6.out.frm)
 have x0 := cell_at' hbk 3 rfl
 have x1 := cell_at' hbk 4 rfl
 have x2 := cell_at' hbk 5 rfl
 have x3 := cell_at' hbk 6 rfl
 clear hbk
 go_wp2_with (first
  | (go_at_call 47; refine (HRV.out _).mono ?_; rintro e w7 ⟨s7, s8, t7, ht7, rfl, cp7⟩; have HT7 := Lib.hid ht7; clear ht7; have HP7 := Lib.hid (E6.out.step cp7.frm); have HC7 := Lib.hid cp7; clear cp7)
  | (at_builtin; refine app_cp w1 w7 rfl (.tmp 21) (.tmp 24) rfl _ t6 HP7.out _ t7 rfl rfl HC7.out.rd ?c3 ?_))
 case c3 => have := HL6.out; have := L4.out; rw [HT7.out]; omega
 intro ad8 c8 w8 t8 HT8 e8 _ _
 have E8 := Lib.hid e8; clear e8 x0 x1 x2 x3
 have HL8 := Lib.hid (show t8.length ≤ 70 by have := HL6.out; have := L4.out; rw [HT8.out, List.length_append, HT7.out]; omega)
 have hbk := HBK.out _ (HF1.out.then1 E8.out.frm)
 have x0 := cell_at' hbk 7 rfl
 have x1 := cell_at' hbk 8 rfl
 have x2 := cell_at' hbk 9 rfl
 clear hbk
 go_wp2_with (first
  | (go_at_call 49; refine (HRX.out _ _ _ _ (HXA.out _ ((HFB.out.then1 HF1.out).then1 E8.out.frm))).mono ?_; rintro e w9 ⟨s9, s10, t9, ht9, rfl, cp9⟩; have HT9 := Lib.hid ht9; clear ht9; have HP9 := Lib.hid (E8.out.step cp9.frm); have HC9 := Lib.hid cp9; clear cp9)
  | (at_builtin; refine app_cp w1 w9 rfl (.tmp 26) (.tmp 29) rfl _ t8 HP9.out _ t9 rfl rfl HC9.out.rd ?c4 ?_))
 case c4 => have := HL8.out; have := L5.out; rw [HT9.out]; omega
 intro ad10 c10 w10 t10 HT10 e10 _ _
 have E10 := Lib.hid e10; clear e10
 go_wp2
 go_ret
 exact ⟨ad10, c10, t10, by rw [HT10.out, HT9.out, HT8.out, HT7.out, HT6.out, HT5.out, HT4.out, HT3.out, HT2.out], rfl, E10.out.weaken (HFB.out.then1 HF1.out)⟩
theorem ofInt_nat32 (a : BitVec 32) : BitVec.ofInt 32 (a.toNat : Int) = a := by
 rw [BitVec.ofInt_natCast, BitVec.ofNat_toNat]
 rfl
theorem wrap_nat32 (a : BitVec 32) : IntKind.u32.wrap (a.toNat : Int) = (a.toNat : Int) := by
 have := a.isLt
 rw [IntKind.wrap_u32]
 omega
theorem bits_xor_u32 (a b : BitVec 32) : bits BinOp.xor IntKind.u32 (a.toNat : Int) (b.toNat : Int) = ((a ^^^ b).toNat : Int) := by
 show IntKind.u32.wrap ((BitVec.ofInt 32 (a.toNat : Int) ^^^ BitVec.ofInt 32 (b.toNat : Int)).toNat : Int) = _
 rw [ofInt_nat32, ofInt_nat32, wrap_nat32]
theorem bits_and_u32 (a b : BitVec 32) : bits BinOp.and IntKind.u32 (a.toNat : Int) (b.toNat : Int) = ((a &&& b).toNat : Int) := by
 show IntKind.u32.wrap ((BitVec.ofInt 32 (a.toNat : Int) &&& BitVec.ofInt 32 (b.toNat : Int)).toNat : Int) = _
 rw [ofInt_nat32, ofInt_nat32, wrap_nat32]
theorem and_one (c : BitVec 32) : bits BinOp.and IntKind.u32 (c.toNat : Int) 1 = if c.getLsbD 0 = true then 1 else 0 := by
 have h := bits_and_u32 c 1#32
 rw [show ((1#32).toNat : Int) = 1 from rfl] at h
 rw [h, BitVec.toNat_and]
 have e : c.toNat &&& (1#32).toNat = c.toNat % 2 := Nat.and_one_is_mod _
 have g : c.getLsbD 0 = decide (c.toNat % 2 = 1) := by
  rw [BitVec.getLsbD, Nat.testBit_zero]
 rw [e, g]
 have := Nat.mod_two_eq_zero_or_one c.toNat
 rcases this with h | h <;> rw [h] <;> simp
theorem xor_P (c : BitVec 32) : bits BinOp.xor IntKind.u32 (c.toNat : Int) 2197175160 = ((c ^^^ Crc.P).toNat : Int) := bits_xor_u32 c Crc.P
theorem xor_Q (c : BitVec 32) : bits BinOp.xor IntKind.u32 (c.toNat : Int) 517762881 = ((c ^^^ Crc.Q).toNat : Int) := bits_xor_u32 c Crc.Q
theorem xor_ones32 (c : BitVec 32) : bits BinOp.xor IntKind.u32 (c.toNat : Int) 4294967295 = ((c ^^^ BitVec.allOnes 32).toNat : Int) := bits_xor_u32 c (BitVec.allOnes 32)
theorem xor_byte (c : BitVec 32) (b : UInt8) : bits BinOp.xor IntKind.u32 (c.toNat : Int) (b.toNat : Int) = ((c ^^^ BitVec.ofNat 32 b.toNat).toNat : Int) := by
 have h := bits_xor_u32 c (BitVec.ofNat 32 b.toNat)
 have e : (BitVec.ofNat 32 b.toNat).toNat = b.toNat := by
  rw [BitVec.toNat_ofNat]
  have := b.toNat_lt
  omega
 rw [e] at h
 exact h
theorem shr_one (c : BitVec 32) : ((c >>> 1).toNat : Int) = (c.toNat : Int) / 2 := by
 rw [BitVec.toNat_ushiftRight, Nat.shiftRight_eq_div_pow]
 omega
theorem crcAdd_any (c0 : BitVec 32) (b : UInt8) (w : World) : Calls Tryz.prog 140 #[.int .u32 c0.toNat, .int .u8 b.toNat] w fun e w' => e = .returned (.int .u32 (Crc.add c0 b).toNat) ∧ w = w' := by
 have hb := b.toNat_lt
 have hw : IntKind.u32.wrap (b.toNat : Int) = (b.toNat : Int) := by rw [IntKind.wrap_u32]; omega
 go_enter Tryz.func140, Tryz.ntmps140
 go_wp2
 clear hw
 go_loopw [0, 10] (fun c i W => ∃ k : Nat, k ≤ 8 ∧ i = .int .i64 k ∧ c = .int .u32 (Crc.stN k (c0 ^^^ BitVec.ofNat 32 b.toNat)).toNat ∧ W = w) (fun _ i _ => 8 - (intOf i).toNat)
 case atStart => exact ⟨0, by omega, rfl, by rw [xor_byte]; rfl, rfl⟩
 case round =>
  obtain ⟨k, hk, rfl, rfl, rfl⟩ := hrel
  by_cases hlt : k < 8
  · have hst : Crc.stN (k + 1) (c0 ^^^ BitVec.ofNat 32 b.toNat) = Crc.st (Crc.stN k (c0 ^^^ BitVec.ofNat 32 b.toNat)) := rfl
    have HST := Lib.hid hst; clear hst
    generalize hc : Crc.stN k (c0 ^^^ BitVec.ofNat 32 b.toNat) = c at *
    have HC := Lib.hid hc; clear hc
    have h1 := and_one c
    have h2 := shr_one c
    have h3 := xor_P (c >>> 1)
    have hcl := c.isLt
    cases hbit : c.getLsbD 0 with
    | true =>
     rw [hbit, if_pos rfl] at h1
     have HE := Lib.hid (show Crc.st c = (c >>> 1) ^^^ Crc.P from if_pos hbit)
     go_wp2
     go_roundw
     case rel => exact ⟨k + 1, by omega, by go_num, by rw [HST.out, HE.out, ← h3, h2], trivial⟩
     case measure => simp [intOf]; omega
    | false =>
     rw [hbit, if_neg (by decide)] at h1
     have HE := Lib.hid (show Crc.st c = c >>> 1 from if_neg (by rw [hbit]; decide))
     go_wp2
     go_roundw
     case rel => exact ⟨k + 1, by omega, by go_num, by rw [HST.out, HE.out, h2], trivial⟩
     case measure => simp [intOf]; omega
  · obtain rfl : k = 8 := by omega
    go_wp2
    go_ret
    exact ⟨rfl, rfl⟩
theorem u8_get {w : World} {b off c n : Nat} {l : List UInt8} (h : Rd w (.slice (some ⟨b, off, none⟩) n c) n (bV l)) (k : Nat) (hk : k < l.length) : w.cell? ⟨b, off + k, none⟩ = some (.int .u8 (l.getD k 0).toNat) := by
 rcases h with ⟨ad, h1, h2, h3⟩ | ⟨b', off', c', h1, h2, h3, h4⟩
 · have h0 : l = [] := by simpa [bV] using h3
   subst h0
   cases hk
 · injection h1 with e1 e2 e3
   injection e1 with e1
   injection e1 with e1 e4
   subst e1 e4
   refine h4 k _ ?_
   unfold bV
   rw [List.getElem?_map, List.getElem?_eq_getElem hk, List.getD_eq_getElem?_getD, List.getElem?_eq_getElem hk]
   rfl
theorem foldl_take {α : Type} (f : α → UInt8 → α) (c : α) {l : List UInt8} {k : Nat} (h : k < l.length) : (l.take (k + 1)).foldl f c = f ((l.take k).foldl f c) (l.getD k 0) := by
 rw [List.take_add_one, List.getElem?_eq_getElem h, List.foldl_append, List.getD_eq_getElem?_getD, List.getElem?_eq_getElem h]
 rfl
theorem crcCRC_any (bs : List UInt8) (v : Value) (w : World) (h : Rd w v bs.length (bV bs)) : Calls Tryz.prog 100 #[v] w fun e w' => e = .returned (.int .u32 (Crc.sum bs)) ∧ w = w' := by
 obtain ⟨a0, c0, rfl⟩ : ∃ a c, v = .slice a bs.length c := by
  rcases h with ⟨ad, rfl, h2, h3⟩ | ⟨b, off, c, rfl, _⟩
  · exact ⟨ad, 0, by rw [h2]⟩
  · exact ⟨_, _, rfl⟩
 have HH := Lib.hid h; clear h
 generalize hn : bs.length = n at *
 have HN := Lib.hid hn; clear hn
 have H0 := Lib.hid (show (4294967295 : Int) = ((Crc.all (BitVec.allOnes 32) (bs.take 0)).toNat : Int) from rfl)
 go_enter Tryz.func100, Tryz.ntmps100
 go_wp2
 go_loopw [3, 8] (fun c i W => ∃ k : Nat, k ≤ n ∧ i = .int .i64 k ∧ c = .int .u32 (Crc.all (BitVec.allOnes 32) (bs.take k)).toNat ∧ W = w) (fun _ i _ => n - (intOf i).toNat)
 case atStart => exact ⟨0, Nat.zero_le _, rfl, by rw [← H0.out], rfl⟩
 case round =>
  obtain ⟨k, hk, rfl, rfl, rfl⟩ := hrel
  by_cases hlt : k < n
  · have hkl : k < bs.length := by rw [HN.out]; exact hlt
    have hrd := HH.out
    rcases hrd with ⟨ad, he, hz, -⟩ | ⟨b, off, cc, he, hm1, hm2, -⟩
    · exfalso; omega
    injection he with e1 e2 e3
    subst e1 e3
    clear e2
    have hmx : (n : Int) ≤ 9223372036854775807 := by simp only [maxLen] at hm2; omega
    clear hm1 hm2
    have q0 := u8_get HH.out k hkl
    have HST := Lib.hid (show Crc.all (BitVec.allOnes 32) (bs.take (k + 1)) = Crc.add (Crc.all (BitVec.allOnes 32) (bs.take k)) (bs.getD k 0) from foldl_take Crc.add _ hkl)
    generalize bs.getD k 0 = x at *
    generalize Crc.all (BitVec.allOnes 32) (bs.take k) = c at *
    have HA := Lib.hid (crcAdd_any c x wr)
    go_wp2_with (go_at_call 140; refine HA.out.mono ?_; rintro e w1 ⟨rfl, rfl⟩)
    go_roundw
    case rel => exact ⟨k + 1, by omega, by go_num, by rw [HST.out], trivial⟩
    case measure => simp [intOf]; omega
  · obtain rfl : n = k := by omega
    have HT := Lib.hid (show Crc.sum bs = (Crc.all (BitVec.allOnes 32) (bs.take bs.length) ^^^ BitVec.allOnes 32).toNat by rw [List.take_length]; rfl)
    rw [HN.out] at HT
    generalize Crc.all (BitVec.allOnes 32) (bs.take n) = c at *
    have hx := xor_ones32 c
    go_wp2
    go_ret
    exact ⟨by rw [HT.out, BitVec.toNat_xor]; rfl, rfl⟩
theorem msb_quo (r : BitVec 32) : (r.toNat : Int) / 2147483648 = if r.msb = true then 1 else 0 := by
 have hl := r.isLt
 have h := BitVec.msb_eq_decide r
 rw [h]
 by_cases hb : 2147483648 ≤ r.toNat
 · rw [if_pos (decide_eq_true hb)]; omega
 · rw [if_neg (by simpa using hb)]; omega
theorem shl_one (r : BitVec 32) : IntKind.u32.wrap (2 * (r.toNat : Int)) = ((r <<< 1).toNat : Int) := by
 rw [IntKind.wrap_u32, BitVec.toNat_shiftLeft, Nat.shiftLeft_eq]
 omega
theorem bit_rem (x j : Nat) : ((x / 2 ^ j : Nat) : Int) % 2 = if x.testBit j = true then 1 else 0 := by
 have h : x.testBit j = decide (x / 2 ^ j % 2 = 1) := by rw [Nat.testBit_eq_decide_div_mod_eq]
 rw [h]
 rcases Nat.mod_two_eq_zero_or_one (x / 2 ^ j) with e | e
 · rw [if_neg (by rw [e]; decide)]; omega
 · rw [if_pos (by rw [e]; rfl)]; omega
theorem rev_bit (r : BitVec 32) (k : Nat) (hk : k < 32) : r.reverse.toNat / 2 ^ (31 - k) = 2 * (r.reverse.toNat / 2 ^ (32 - k)) + r.toNat / 2 ^ k % 2 := by
 have e1 : r.reverse.toNat / 2 ^ (32 - k) = r.reverse.toNat / 2 ^ (31 - k) / 2 := by
  rw [Nat.div_div_eq_div_mul, show 32 - k = 31 - k + 1 by omega, Nat.pow_succ]
 have e2 : r.reverse.toNat / 2 ^ (31 - k) % 2 = r.toNat / 2 ^ k % 2 := by
  have h1 : r.reverse.getLsbD (31 - k) = r.getLsbD k := by
   rw [BitVec.getLsbD_reverse, BitVec.getMsbD_eq_getLsbD, show 32 - 1 - (31 - k) = k by omega]
   simp; omega
  rw [BitVec.getLsbD, BitVec.getLsbD, Nat.testBit_eq_decide_div_mod_eq, Nat.testBit_eq_decide_div_mod_eq] at h1
  have h2 := decide_eq_decide.1 h1
  have := Nat.mod_two_eq_zero_or_one (r.reverse.toNat / 2 ^ (31 - k))
  have := Nat.mod_two_eq_zero_or_one (r.toNat / 2 ^ k)
  omega
 rw [e1, ← e2]
 omega
theorem r3mirror_any (r : BitVec 32) (w : World) : Calls Tryz.prog 142 #[.int .u32 r.toNat] w fun e w' => e = .returned (.int .u32 r.reverse.toNat) ∧ w = w' := by
 have hrl := r.isLt
 have hR := r.reverse.isLt
 have H0 := Lib.hid (show r.reverse.toNat / 2 ^ 32 = 0 from Nat.div_eq_of_lt hR)
 have HB := Lib.hid (fun k hk => rev_bit r k hk)
 have HS := Lib.hid (fun k => (show r.toNat / 2 ^ k / 2 = r.toNat / 2 ^ (k + 1) by rw [Nat.div_div_eq_div_mul, Nat.pow_succ]))
 have HQ := Lib.hid (fun k => Nat.div_le_self r.reverse.toNat (2 ^ k))
 have HP := Lib.hid (fun k => Nat.div_le_self r.toNat (2 ^ k))
 generalize r.reverse.toNat = R at *
 generalize r.toNat = n at *
 go_enter Tryz.func142, Tryz.ntmps142
 go_wp2
 go_loopw [0, 3, 4] (fun c o i W => ∃ k : Nat, k ≤ 32 ∧ i = .int .i64 k ∧ c = .int .u32 (n / 2 ^ k : Nat) ∧ o = .int .u32 (R / 2 ^ (32 - k) : Nat) ∧ W = w) (fun _ _ i _ => 32 - (intOf i).toNat)
 case atStart => exact ⟨0, by omega, rfl, by simp, by rw [Nat.sub_zero, H0.out]; rfl, rfl⟩
 case round =>
  obtain ⟨k, hk, rfl, rfl, rfl, rfl⟩ := hrel
  by_cases hlt : k < 32
  · have h1 := HB.out k hlt
    have h2 := HS.out k
    have h3 := HQ.out (31 - k)
    have h4 := HP.out k
    rw [show 31 - k = 32 - (k + 1) by omega] at h1 h3
    generalize hc2 : n / 2 ^ (k + 1) = c2 at *
    have HC2 := Lib.hid hc2; clear hc2
    generalize n / 2 ^ k = c at *
    generalize ho2 : R / 2 ^ (32 - (k + 1)) = o2 at *
    have HO2 := Lib.hid ho2; clear ho2
    generalize R / 2 ^ (32 - k) = o at *
    have hw1 : IntKind.u32.wrap (2 * (o : Int)) = 2 * (o : Int) := by rw [IntKind.wrap_u32]; omega
    have hw2 : IntKind.u32.wrap (2 * (o : Int) + (c : Int) % 2) = (o2 : Int) := by rw [IntKind.wrap_u32]; omega
    go_wp2
    go_roundw
    case rel =>
     refine ⟨k + 1, by omega, by go_num, ?g1, ?g2, trivial⟩
     · rw [HC2.out, ← h2]; rfl
     · rw [HO2.out, h1]; rfl
    case measure => simp [intOf]; omega
  · obtain rfl : k = 32 := by omega
    go_wp2
    go_ret
    exact ⟨by simp, rfl⟩
theorem r3CRC_any (bs : List UInt8) (v : Value) (w : World) (h : Rd w v bs.length (bV bs)) : Calls Tryz.prog 105 #[v] w fun e w' => e = .returned (.int .u32 (Crc.sum bs)) ∧ w = w' := by
 obtain ⟨a0, c0, rfl⟩ : ∃ a c, v = .slice a bs.length c := by
  rcases h with ⟨ad, rfl, h2, h3⟩ | ⟨b, off, c, rfl, _⟩
  · exact ⟨ad, 0, by rw [h2]⟩
  · exact ⟨_, _, rfl⟩
 have HH := Lib.hid h; clear h
 generalize hn : bs.length = n at *
 have HN := Lib.hid hn; clear hn
 have H0 := Lib.hid (show (4294967295 : Int) = ((Crc.rall (BitVec.allOnes 32) (bs.take 0)).toNat : Int) from rfl)
 go_enter Tryz.func105, Tryz.ntmps105
 go_wp2
 go_loopw [3, 9] (fun c i W => ∃ k : Nat, k ≤ n ∧ i = .int .i64 k ∧ c = .int .u32 (Crc.rall (BitVec.allOnes 32) (bs.take k)).toNat ∧ W = w) (fun _ i _ => n - (intOf i).toNat)
 case atStart => exact ⟨0, Nat.zero_le _, rfl, by rw [← H0.out], rfl⟩
 case round =>
  obtain ⟨k, hk, rfl, rfl, rfl⟩ := hrel
  by_cases hlt : k < n
  · have hkl : k < bs.length := by rw [HN.out]; exact hlt
    have hrd := HH.out
    rcases hrd with ⟨ad, he, hz, -⟩ | ⟨b, off, cc, he, hm1, hm2, -⟩
    · exfalso; omega
    injection he with e1 e2 e3
    subst e1 e3
    clear e2
    have hmx : (n : Int) ≤ 9223372036854775807 := by simp only [maxLen] at hm2; omega
    clear hm1 hm2
    have q0 := u8_get HH.out k hkl
    have HST := Lib.hid (show Crc.rall (BitVec.allOnes 32) (bs.take (k + 1)) = Crc.radd (Crc.rall (BitVec.allOnes 32) (bs.take k)) (bs.getD k 0) from foldl_take Crc.radd _ hkl)
    generalize bs.getD k 0 = x at *
    generalize Crc.rall (BitVec.allOnes 32) (bs.take k) = c at *
    have hxl := x.toNat_lt
    have hcv : IntKind.u32.wrap (x.toNat : Int) = (x.toNat : Int) := by rw [IntKind.wrap_u32]; omega
    have HRA := Lib.hid (show Crc.radd c x = Crc.rstN 8 c x.toNat from rfl)
    generalize x.toNat = y at *
    have HY0 := Lib.hid (show (y : Int) = ((y / 2 ^ 0 : Nat) : Int) by simp)
    obtain ⟨WO, hWO⟩ : ∃ W, W = wr := ⟨wr, rfl⟩
    subst hWO
    go_wp2
    go_loopw [3, 5, 17] (fun r z i W => ∃ j : Nat, j ≤ 8 ∧ i = .int .i64 j ∧ r = .int .u32 (Crc.rstN j c y).toNat ∧ z = .int .u32 (y / 2 ^ j : Nat) ∧ W = WO) (fun _ _ i _ => 8 - (intOf i).toNat)
    case atStart => exact ⟨0, by omega, rfl, rfl, by rw [← HY0.out], rfl⟩
    case round =>
     obtain ⟨j, hj, rfl, rfl, rfl, rfl⟩ := hrel
     by_cases hlj : j < 8
     · have HR := Lib.hid (show Crc.rstN (j + 1) c y = Crc.rst (Crc.rstN j c y) (y.testBit j) from rfl)
       generalize Crc.rstN j c y = r at *
       have h1 := msb_quo r
       have h2 := shl_one r
       have h3 := bit_rem y j
       have h4 := xor_Q (r <<< 1)
       have h5 : y / 2 ^ j / 2 = y / 2 ^ (j + 1) := by rw [Nat.div_div_eq_div_mul, Nat.pow_succ]
       generalize hz2 : y / 2 ^ (j + 1) = z2 at *
       have HZ2 := Lib.hid hz2; clear hz2
       have hzl := Nat.div_le_self y (2 ^ j)
       generalize y / 2 ^ j = z at *
       generalize hr2 : r <<< 1 = r2 at *
       have HR2 := Lib.hid hr2; clear hr2
       have hrl := r.isLt
       have hwz : IntKind.u32.wrap ((z : Int) / 2) = (z2 : Int) := by rw [IntKind.wrap_u32]; omega
       cases hm : r.msb <;> cases ht : y.testBit j
       · rw [hm, if_neg (by decide)] at h1
         rw [ht, if_neg (by decide)] at h3
         have HE := Lib.hid (show Crc.rst r false = r2 by rw [← HR2.out]; exact if_pos hm)
         rw [ht] at HR
         go_wp2
         go_roundw
         case rel => exact ⟨j + 1, by omega, by go_num, by rw [HR.out, HE.out], by rw [HZ2.out], trivial⟩
         case measure => simp [intOf]; omega
       · rw [hm, if_neg (by decide)] at h1
         rw [ht, if_pos rfl] at h3
         have HE := Lib.hid (show Crc.rst r true = r2 ^^^ Crc.Q by rw [← HR2.out]; exact if_neg (by rw [hm]; decide))
         rw [ht] at HR
         go_wp2
         go_roundw
         case rel => exact ⟨j + 1, by omega, by go_num, by rw [HR.out, HE.out, BitVec.toNat_xor], by rw [HZ2.out], trivial⟩
         case measure => simp [intOf]; omega
       · rw [hm, if_pos rfl] at h1
         rw [ht, if_neg (by decide)] at h3
         have HE := Lib.hid (show Crc.rst r false = r2 ^^^ Crc.Q by rw [← HR2.out]; exact if_neg (by rw [hm]; decide))
         rw [ht] at HR
         go_wp2
         go_roundw
         case rel => exact ⟨j + 1, by omega, by go_num, by rw [HR.out, HE.out, BitVec.toNat_xor], by rw [HZ2.out], trivial⟩
         case measure => simp [intOf]; omega
       · rw [hm, if_pos rfl] at h1
         rw [ht, if_pos rfl] at h3
         have HE := Lib.hid (show Crc.rst r true = r2 by rw [← HR2.out]; exact if_pos hm)
         rw [ht] at HR
         go_wp2
         go_roundw
         case rel => exact ⟨j + 1, by omega, by go_num, by rw [HR.out, HE.out], by rw [HZ2.out], trivial⟩
         case measure => simp [intOf]; omega
     · obtain rfl : j = 8 := by omega
       go_wp2
       go_roundw
       case rel => exact ⟨k + 1, by omega, by go_num, by rw [HST.out, HRA.out], trivial⟩
       case measure => simp [intOf]; omega
  · obtain rfl : n = k := by omega
    have HT := Lib.hid (show Crc.sum bs = (Crc.rall (BitVec.allOnes 32) (bs.take bs.length) ^^^ BitVec.allOnes 32).reverse.toNat by rw [List.take_length]; unfold Crc.sum; rw [Crc.crc_rcrc]; rfl)
    rw [HN.out] at HT
    generalize Crc.rall (BitVec.allOnes 32) (bs.take n) = c at *
    have hx := xor_ones32 c
    have HM := Lib.hid (r3mirror_any (c ^^^ BitVec.allOnes 32) wr)
    go_wp2_with (go_at_call 142; refine HM.out.mono ?_; rintro e w1 ⟨rfl, rfl⟩)
    go_ret
    exact ⟨by rw [HT.out]; rfl, rfl⟩
theorem copy_alloc (w : World) (bs : List UInt8) (hl : bs.length ≤ 1000) : Copy w (.slice (some ⟨w.heap.size, 0, none⟩) bs.length bs.length) bs (w.alloc (.cells (bV bs).toArray 5)) := by
 have hn : (bV bs).length = bs.length := by simp [bV]
 refine ⟨⟨by simp [hn], .inr ⟨w.heap.size, bs.length, _, rfl, Nat.zero_le _, heap_alloc_new w _, Nat.le_refl _, by simp only [maxLen]; omega, by simp [hn], ?_⟩⟩, fun k hk => ?_, Frm.alloc _ _ _, _, _, rfl⟩
 · rw [List.toList_toArray, Nat.mul_one]
   exact List.take_of_length_le (by rw [hn]; exact Nat.le_refl _)
 · simp [Value.ownBlock] at hk
   omega
theorem four_cells' (n : Nat) : (bV (Crc.four n)).toArray = #[.int .u8 ((n : Int) % 256), .int .u8 ((n : Int) / 256 % 256), .int .u8 ((n : Int) / 65536 % 256), .int .u8 ((n : Int) / 16777216 % 256)] := by
 unfold bV Crc.four
 simp only [List.map_cons, List.map_nil, UInt8.toNat_ofNat']
 rfl
theorem frFour_any (n : Nat) (hn : n < 4294967296) (w : World) : Calls Tryz.prog 99 #[.int .u32 n] w (Ret w (Crc.four n)) := by
 have h := copy_alloc w (Crc.four n) (by rw [Crc.four_len]; decide)
 go_enter Tryz.func99, Tryz.ntmps99
 go_wp2
 go_ret
 rw [four_cells', show (n : Int) / 16777216 % 256 = n / 16777216 by omega] at h
 exact ⟨_, _, Crc.four n, rfl, rfl, h⟩
theorem r4four_any (n : Nat) (hn : n < 4294967296) (w : World) : Calls Tryz.prog 104 #[.int .i64 n] w (Ret w (Crc.four n)) := by
 have h := copy_alloc w (Crc.four n) (by rw [Crc.four_len]; decide)
 go_enter Tryz.func104, Tryz.ntmps104
 go_wp2
 go_ret
 rw [four_cells'] at h
 exact ⟨_, _, Crc.four n, rfl, rfl, h⟩
theorem or_shift (x y i m : Nat) (hm : 2 ^ i = m) (hx : x < m) (hl : y * m + x < 4294967296) : bits BinOp.or IntKind.u32 (x : Int) ((y : Int) * (m : Int)) = ((y * m + x : Nat) : Int) := by
 subst hm
 have h := Nat.shiftLeft_add_eq_or_of_lt hx y
 rw [Nat.shiftLeft_eq] at h
 have e : (y : Int) * ((2 ^ i : Nat) : Int) = ((y * 2 ^ i : Nat) : Int) := by rw [Int.natCast_mul]
 rw [e]
 generalize y * 2 ^ i = z at *
 show IntKind.u32.wrap ((BitVec.ofInt 32 (x : Int) ||| BitVec.ofInt 32 (z : Int)).toNat : Int) = _
 rw [BitVec.ofInt_natCast, BitVec.ofInt_natCast, BitVec.toNat_or, BitVec.toNat_ofNat, BitVec.toNat_ofNat, Nat.mod_eq_of_lt (by show x < 4294967296; omega), Nat.mod_eq_of_lt (by show z < 4294967296; omega), Nat.or_comm, ← h, IntKind.wrap_u32]
 omega
theorem frNumber_any (l : List UInt8) (hl : 4 ≤ l.length) (b off c n : Nat) (w : World) (h : Rd w (.slice (some ⟨b, off, none⟩) n c) n (bV l)) (hnl : l.length = n) : Calls Tryz.prog 143 #[.slice (some ⟨b, off, none⟩) n c] w fun e w' => e = .returned (.int .u32 (Crc.numb l)) ∧ Frm NoS w w' := by
 have q0 := u8_get h 0 (by omega)
 have q1 := u8_get h 1 (by omega)
 have q2 := u8_get h 2 (by omega)
 have q3 := u8_get h 3 (by omega)
 rw [Nat.add_zero] at q0
 have h4 : (4 : Int) ≤ n := by omega
 have HNB := Lib.hid (show Crc.numb l = (l.getD 0 0).toNat + 256 * (l.getD 1 0).toNat + 65536 * (l.getD 2 0).toNat + 16777216 * (l.getD 3 0).toNat from rfl)
 have b0 := (l.getD 0 0).toNat_lt
 have b1 := (l.getD 1 0).toNat_lt
 have b2 := (l.getD 2 0).toNat_lt
 have b3 := (l.getD 3 0).toNat_lt
 generalize (l.getD 0 0).toNat = x0 at *
 generalize (l.getD 1 0).toNat = x1 at *
 generalize (l.getD 2 0).toNat = x2 at *
 generalize (l.getD 3 0).toNat = x3 at *
 have w0 : IntKind.u32.wrap (x0 : Int) = x0 := by rw [IntKind.wrap_u32]; omega
 have w1 : IntKind.u32.wrap (x1 : Int) = x1 := by rw [IntKind.wrap_u32]; omega
 have w2 : IntKind.u32.wrap (x2 : Int) = x2 := by rw [IntKind.wrap_u32]; omega
 have w3 : IntKind.u32.wrap (x3 : Int) = x3 := by rw [IntKind.wrap_u32]; omega
 clear h hnl hl
 go_enter Tryz.func143, Tryz.ntmps143
 go_wp2_with (fail)
 go_big_quiet (fail)
 go_wp2
 go_ret
 refine ⟨?_, Frm.drewN NoS w _⟩
 have e1 := or_shift x0 x1 8 256 (by decide) (by omega) (by omega)
 have e2 := or_shift (x1 * 256 + x0) x2 16 65536 (by decide) (by omega) (by omega)
 have e3 := or_shift (x2 * 65536 + (x1 * 256 + x0)) x3 24 16777216 (by decide) (by omega) (by omega)
 rw [HNB.out]
 have e4 : bits BinOp.or IntKind.u32 (bits BinOp.or IntKind.u32 (bits BinOp.or IntKind.u32 (x0 : Int) ((x1 : Int) * 256)) ((x2 : Int) * 65536)) ((x3 : Int) * 16777216) = ((x0 + 256 * x1 + 65536 * x2 + 16777216 * x3 : Nat) : Int) := by
  refine ((congrArg (fun z => bits BinOp.or IntKind.u32 (bits BinOp.or IntKind.u32 z ((x2 : Int) * 65536)) ((x3 : Int) * 16777216)) e1).trans ((congrArg (fun z => bits BinOp.or IntKind.u32 z ((x3 : Int) * 16777216)) e2).trans (e3.trans ?_)))
  omega
 rw [← e4]
 rfl
end Go.Proofs.YtcahemkomfaabaaGreat
