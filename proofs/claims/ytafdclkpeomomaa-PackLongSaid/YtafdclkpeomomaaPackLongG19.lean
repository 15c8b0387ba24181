/- Words for the law PackLong: Eq, TSame, R8Same, R9Same, Awake16, PackLong. -/
import Derived.Test.YtafdclkpeomomaaPackLongG8
import Derived.Test.YtafdclkpeomomaaPackLongG9
import Derived.Test.YtafdclkpeomomaaPackLongG13
import Derived.Test.YtafdclkpeomomaaPackLongG14
import Derived.Test.YtafdclkpeomomaaPackLongG16
import Derived.Test.YtafdclkpeomomaaPackLongG18
set_option linter.unusedSimpArgs false
set_option linter.unusedVariables false
/- slices.Equal of spans and of entries: the walks. -/
namespace Go.Proofs.Ytafdclkpeomomaa
open Go.RowKit

/-- The first k entries are alike. -/
def LikeE (a b : List Ent) (k : Nat) : Prop := ∀ j, j < k → a.getD j Ent.zero = b.getD j Ent.zero
theorem LikeE.all {a b : List Ent} (hl : a.length = b.length) (h : LikeE a b a.length) : a = b := by
  refine List.ext_getElem hl fun j h1 h2 => ?_
  have := h j h1
  rwa [getD_at _ h1, getD_at _ h2] at this
theorem LikeE.step {a b : List Ent} {k : Nat} (h : LikeE a b k) (he : a.getD k Ent.zero = b.getD k Ent.zero) : LikeE a b (k + 1) := fun j hj => by
  rcases Nat.lt_succ_iff_lt_or_eq.1 hj with hj | rfl
  · exact h j hj
  · exact he
end Go.Proofs.Ytafdclkpeomomaa

/- tree: same: the walk, with slices.EqualFunc and the function that it is handed. -/
namespace Go.Proofs.Ytafdclkpeomomaa
open Go.RowKit

theorem ne_text {s t : ByteArray} (h : ¬ s = t) : ¬ s.toList = t.toList := fun e => h (by rw [ByteArray.toList_eq, ByteArray.toList_eq] at e; exact ByteArray.ext (Array.toList_inj.1 e))
/-- Two blocks of two cells, of three. -/
theorem pair2 (w : World) (a0 a1 b0 b1 : Value) (T : TypeId) (W : World) (f : Frm NoS ((w.alloc (.cells #[a0, a1] T)).alloc (.cells #[b0, b1] T)) W) :
    W.cell? ⟨w.heap.size, 0, none⟩ = some a0 ∧ W.cell? ⟨w.heap.size, 1, none⟩ = some a1 ∧ W.cell? ⟨w.heap.size + 1, 0, none⟩ = some b0 ∧ W.cell? ⟨w.heap.size + 1, 1, none⟩ = some b1 := by
  obtain ⟨h1, _, _⟩ := two_blocks w (.cells #[a0, a1] T) #[b0, b1] T
  have h0 : ((w.alloc (.cells #[a0, a1] T)).alloc (.cells #[b0, b1] T)).heap[w.heap.size]? = some (.cells #[a0, a1] T (0, 0)) := (Frm.alloc NoS _ _).blk (heap_alloc_new w _) id
  exact ⟨f.cell' (cell_at' h0 0 rfl) id, f.cell' (cell_at' h0 1 rfl) id, f.cell' (cell_at' h1 0 rfl) id, f.cell' (cell_at' h1 1 rfl) id⟩
theorem pair3 (w : World) (a0 a1 a2 b0 b1 b2 : Value) (T : TypeId) (W : World) (f : Frm NoS ((w.alloc (.cells #[a0, a1, a2] T)).alloc (.cells #[b0, b1, b2] T)) W) :
    W.cell? ⟨w.heap.size, 0, none⟩ = some a0 ∧ W.cell? ⟨w.heap.size, 1, none⟩ = some a1 ∧ W.cell? ⟨w.heap.size, 2, none⟩ = some a2 ∧ W.cell? ⟨w.heap.size + 1, 0, none⟩ = some b0 ∧ W.cell? ⟨w.heap.size + 1, 1, none⟩ = some b1 ∧ W.cell? ⟨w.heap.size + 1, 2, none⟩ = some b2 := by
  obtain ⟨h1, _, _⟩ := two_blocks w (.cells #[a0, a1, a2] T) #[b0, b1, b2] T
  have h0 : ((w.alloc (.cells #[a0, a1, a2] T)).alloc (.cells #[b0, b1, b2] T)).heap[w.heap.size]? = some (.cells #[a0, a1, a2] T (0, 0)) := (Frm.alloc NoS _ _).blk (heap_alloc_new w _) id
  exact ⟨f.cell' (cell_at' h0 0 rfl) id, f.cell' (cell_at' h0 1 rfl) id, f.cell' (cell_at' h0 2 rfl) id, f.cell' (cell_at' h1 0 rfl) id, f.cell' (cell_at' h1 1 rfl) id, f.cell' (cell_at' h1 2 rfl) id⟩
theorem kids_step {ks ks' : KidsL} {k : Nat} {key key' : ByteArray} {es es' : List Ent} {sub sub' rest rest' : KidsL} (h : ks.drop k = .cons key es sub rest) (h' : ks'.drop k = .cons key' es' sub' rest') :
    (ks.drop k = ks'.drop k) ↔ ((key = key' ∧ es = es' ∧ sub = sub') ∧ ks.drop (k + 1) = ks'.drop (k + 1)) := by
  rw [KidsL.drop_succ k ks h, KidsL.drop_succ k ks' h', h, h']
  constructor
  · intro e
    injection e with e1 e2 e3 e4
    exact ⟨⟨e1, e2, e3⟩, e4⟩
  · rintro ⟨⟨rfl, rfl, rfl⟩, rfl⟩
    rfl
end Go.Proofs.Ytafdclkpeomomaa

/- tributaryref08: Same: the walk. Printed by wip/r8samegen.py. -/
namespace Go.Proofs.Ytafdclkpeomomaa
open Go.RowKit

set_option maxHeartbeats 8000000 in
set_option maxRecDepth 1000000 in
theorem r8Same_any (Q Q' : Nat → Prop) : ∀ (N : Nat) (es : List Ent) (ks : KidsL) (es' : List Ent) (ks' : KidsL) (w : World) (ev kv ev' kv' : Value), sizeK ks < N → TreeAt Q w ev kv es ks → TreeAt Q' w ev' kv' es' ks' → sizeT es ks ≤ 100000 → sizeT es' ks' ≤ 100000 →
    Calls Try.prog 17 #[.agg #[ev, kv], .agg #[ev', kv']] w fun e w' => e = .returned (.bool (tf (es = es' ∧ ks = ks'))) ∧ Frm NoS w w' := by
  intro N
  induction N with
  | zero => intros; exfalso; omega
  | succ N IHN =>
    intro es ks es' ks' w ev kv ev' kv' hN ht ht' hsz hsz'
    obtain ⟨ae, ce, rfl⟩ := ht.ents.rd.sl
    obtain ⟨os, hkr, hfor⟩ := ht.kids
    obtain ⟨ak, ck, rfl⟩ := hkr.rd.sl
    obtain ⟨ae', ce', rfl⟩ := ht'.ents.rd.sl
    obtain ⟨os', hkr', hfor'⟩ := ht'.kids
    obtain ⟨ak', ck', rfl⟩ := hkr'.rd.sl
    have h1 : es.length ≤ 100000 := by unfold sizeT at hsz; omega
    have h2 : es'.length ≤ 100000 := by unfold sizeT at hsz'; omega
    have h3 : ks.len ≤ 100000 := by have := len_le_sizeK ks; unfold sizeT at hsz; omega
    have h4 : ks'.len ≤ 100000 := by have := len_le_sizeK ks'; unfold sizeT at hsz'; omega
    by_cases hle : es.length = es'.length
    rotate_left 1
    · rw [tf_false fun h => hle (by rw [h.1])]
      clear ht ht' hkr hkr' hfor hfor' IHN hN hsz hsz'
      generalize es.length = n at *
      generalize ks.len = m at *
      generalize es'.length = n' at *
      generalize ks'.len = m' at *
      have hz : ((n : Int) == (n' : Int)) = false := by simp; omega
      have HFB := Lib.hid ((Frm.alloc NoS w (.cells #[.slice ae n ce, .slice ak m ck] 27)).alloc1 (o := .cells #[.slice ae' n' ce', .slice ak' m' ck'] 27))
      go_enter Try.func17, Try.ntmps17
      go_wp2
      go_ret
      exact ⟨rfl, HFB.out⟩
    by_cases hlk : ks.len = ks'.len
    rotate_left 1
    · rw [tf_false fun h => hlk (by rw [h.2])]
      rw [← hle]
      clear ht ht' hkr hkr' hfor hfor' IHN hN hsz hsz' h2 hle
      generalize es.length = n at *
      generalize ks.len = m at *
      generalize ks'.len = m' at *
      have hz : ((m : Int) == (m' : Int)) = false := by simp; omega
      have HFB := Lib.hid ((Frm.alloc NoS w (.cells #[.slice ae n ce, .slice ak m ck] 27)).alloc1 (o := .cells #[.slice ae' n ce', .slice ak' m' ck'] 27))
      go_enter Try.func17, Try.ntmps17
      go_wp2
      go_ret
      exact ⟨rfl, HFB.out⟩
    have HE := Lib.hid ht.ents.rd
    have hE' := ht'.ents.rd
    have hK' := hkr'.rd
    rw [← hle] at hE' ⊢
    rw [← hlk] at hK' ⊢
    have HE' := Lib.hid hE'; clear hE'
    have HKR := Lib.hid hkr.rd
    have HKR' := Lib.hid hK'; clear hK'
    have HFOR := Lib.hid hfor; clear hfor
    have HFOR' := Lib.hid hfor'; clear hfor'
    have HLE := Lib.hid hle.symm; clear hle
    have HLK := Lib.hid hlk.symm; clear hlk
    have IH := Lib.hid IHN; clear IHN
    have HSZ := Lib.hid hsz; clear hsz
    have HSZ' := Lib.hid hsz'; clear hsz'
    have HNN := Lib.hid hN; clear hN
    clear ht ht' hkr hkr' h2 h4
    generalize hes : es.length = n at *
    have HN := Lib.hid hes; clear hes
    generalize hkl : ks.len = m at *
    have HM := Lib.hid hkl; clear hkl
    have HFB := Lib.hid ((Frm.alloc NoS w (.cells #[.slice ae n ce, .slice ak m ck] 27)).alloc1 (o := .cells #[.slice ae' n ce', .slice ak' m ck'] 27))
    have HBX := Lib.hid (pair2 w (.slice ae n ce) (.slice ak m ck) (.slice ae' n ce') (.slice ak' m ck') 27)
    go_enter Try.func17, Try.ntmps17
    go_wp2
    go_loopw [26] (fun i ww => ∃ k : Nat, k ≤ n ∧ i = .int .i64 k ∧ LikeE es es' k ∧ Frm NoS ((w.alloc (.cells #[.slice ae n ce, .slice ak m ck] 27)).alloc (.cells #[.slice ae' n ce', .slice ak' m ck'] 27)) ww) (fun i _ => n - (intOf i).toNat)
    case atStart => exact ⟨0, Nat.zero_le _, rfl, (fun j hj => absurd hj (Nat.not_lt_zero _)), Frm.refl _ _⟩
    case round =>
      obtain ⟨k, hk, rfl, hlk, hw⟩ := hrel
      have HLI := Lib.hid hlk; clear hlk
      have HW := Lib.hid hw; clear hw
      obtain ⟨b0, b1, b2, b3⟩ := HBX.out wr HW.out
      by_cases hlt : k < n
      · rcases Rd.shape HE.out with ⟨ad, he, h0⟩ | ⟨e1, off1, cc1, he, hmax⟩
        · exfalso; omega
        rcases Rd.shape HE'.out with ⟨ad, he2, h0⟩ | ⟨e2, off2, cc2, he2, hmax2⟩
        · exfalso; omega
        injection he with g1 g2 g3
        injection he2 with g4 g5 g6
        subst g1 g3 g4 g6
        clear g2 g5
        obtain ⟨p0, p1, p2, p3⟩ := ent_at HE.out k (by rw [HN.out]; exact hlt)
        obtain ⟨q0, q1, q2, q3⟩ := ent_at HE'.out k (by rw [HLE.out]; exact hlt)
        have hfw := HFB.out.then1 HW.out
        have p0 := hfw.cell' p0 id
        have p1 := hfw.cell' p1 id
        have p2 := hfw.cell' p2 id
        have p3 := hfw.cell' p3 id
        have q0 := hfw.cell' q0 id
        have q1 := hfw.cell' q1 id
        have q2 := hfw.cell' q2 id
        have q3 := hfw.cell' q3 id
        clear hfw
        have HST := Lib.hid (show es.getD k Ent.zero = es'.getD k Ent.zero → LikeE es es' (k + 1) from HLI.out.step)
        have HNO := Lib.hid (show es.getD k Ent.zero ≠ es'.getD k Ent.zero → ¬ (es = es' ∧ ks = ks') from fun h e => h (by rw [e.1]))
        generalize es.getD k Ent.zero = s at *
        generalize es'.getD k Ent.zero = t at *
        by_cases hst : s = t
        · subst hst
          go_wp2_with fail
          go_quiet (fail)
          go_wp2
          go_roundw
          case rel => exact ⟨k + 1, by omega, by go_num, HST.out (by trivial), HW.out.drewN1⟩
          case measure => simp [intOf]; omega
        · have HNE := Lib.hid (show false = tf (es = es' ∧ ks = ks') from (tf_false (HNO.out hst)).symm)
          obtain ⟨s0, s1, s2, s3⟩ := s
          obtain ⟨t0, t1, t2, t3⟩ := t
          clear HST HNO
          dsimp only at p0 p1 p2 p3 q0 q1 q2 q3
          by_cases g0 : s0 = t0
          · subst g0
            by_cases g1 : s1 = t1
            · subst g1
              by_cases g2 : s2 = t2
              · subst g2
                have g3 : s3 ≠ t3 := fun h => hst (by rw [h])
                clear hst
                have gb : ((s3 : Int) == t3) = false := by simpa using g3
                go_wp2_with fail
                go_quiet (fail)
                go_wp2
                go_ret
                exact ⟨ret_bool HNE.out, HFB.out.then1 HW.out.drewN1⟩
              · clear hst
                have gb := ne_text g2
                go_wp2_with fail
                go_quiet (fail)
                go_wp2
                go_ret
                exact ⟨ret_bool HNE.out, HFB.out.then1 HW.out.drewN1⟩
            · clear hst
              have gb : ((s1 : Int) == t1) = false := by simpa using g1
              go_wp2_with fail
              go_quiet (fail)
              go_wp2
              go_ret
              exact ⟨ret_bool HNE.out, HFB.out.then1 HW.out.drewN1⟩
          · clear hst
            have gb : ((s0 : Int) == t0) = false := by simpa using g0
            go_wp2_with fail
            go_quiet (fail)
            go_wp2
            go_ret
            exact ⟨ret_bool HNE.out, HFB.out.then1 HW.out.drewN1⟩
      · obtain rfl : n = k := by omega
        have hee : es = es' := LikeE.all (HN.out.trans HLE.out.symm) (by rw [HN.out]; exact HLI.out)
        have HEE := Lib.hid hee; clear hee
        go_wp2
        clear b0 b1 b2 b3
        go_loopw [44] (fun i ww => ∃ k : Nat, k ≤ m ∧ i = .int .i64 k ∧ (ks = ks' ↔ ks.drop k = ks'.drop k) ∧ Frm NoS ((w.alloc (.cells #[.slice ae n ce, .slice ak m ck] 27)).alloc (.cells #[.slice ae' n ce', .slice ak' m ck'] 27)) ww) (fun i _ => m - (intOf i).toNat)
        case atStart => exact ⟨0, Nat.zero_le _, rfl, Iff.rfl, HW.out⟩
        case round =>
          obtain ⟨k, hk, rfl, hiff, hwk⟩ := hrel
          have HIF := Lib.hid hiff; clear hiff
          have HWK := Lib.hid hwk; clear hwk
          by_cases hlt : k < m
          · obtain ⟨key, es0, sub, rest, hdr⟩ := KidsL.drop_some (n := k) (ks := ks) (by rw [HM.out]; exact hlt)
            obtain ⟨key', es0', sub', rest', hdr'⟩ := KidsL.drop_some (n := k) (ks := ks') (by rw [HLK.out]; exact hlt)
            rcases Rd.shape HKR.out with ⟨ad, he, h0⟩ | ⟨e1, off1, cc1, he, hmax⟩
            · exfalso; omega
            rcases Rd.shape HKR'.out with ⟨ad, he2, h0⟩ | ⟨e2, off2, cc2, he2, hmax2⟩
            · exfalso; omega
            injection he with g1 g2 g3
            injection he2 with g4 g5 g6
            subst g1 g3 g4 g6
            clear g2 g5
            have hfw := HFB.out.then1 HWK.out
            obtain ⟨ev0, kv0, p0, p1, p2, hta⟩ := kid_at (HKR.out.keep0 hfw) (HFOR.out.keep0 hfw) hdr
            obtain ⟨ev1, kv1, q0, q1, q2, htb⟩ := kid_at (HKR'.out.keep0 hfw) (HFOR'.out.keep0 hfw) hdr'
            clear hfw
            have hss := size_sub k hdr
            have hst1 := sizeT_sub k hdr
            have hst2 := sizeT_sub k hdr'
            have HC := Lib.hid (fun W (f : Frm NoS wr W) => IH.out es0 sub es0' sub' W ev0 kv0 ev1 kv1 (by have := HNN.out; omega) (hta.keep0 f) (htb.keep0 f) (by have := HSZ.out; unfold sizeT at *; omega) (by have := HSZ'.out; unfold sizeT at *; omega))
            have HST := Lib.hid (kids_step hdr hdr')
            obtain ⟨a0, c0, rfl⟩ := hta.ents.rd.sl
            obtain ⟨o3, hk3, -⟩ := hta.kids
            obtain ⟨a1, c1, rfl⟩ := hk3.rd.sl
            obtain ⟨a0', c0', rfl⟩ := htb.ents.rd.sl
            obtain ⟨o4, hk4, -⟩ := htb.kids
            obtain ⟨a1', c1', rfl⟩ := hk4.rd.sl
            clear hk3 hk4 hta htb hdr hdr' hss hst1 hst2
            generalize es0.length = n0 at *
            generalize sub.len = m0 at *
            generalize es0'.length = n1 at *
            generalize sub'.len = m1 at *
            obtain ⟨α, hne, K, hK1, hK0, hK2⟩ := worlds wr
            have kb := fun s => HBX.out (K s) (HWK.out.then1 (hK1 s))
            have k0 := fun s => (kb s).1
            have k1 := fun s => (kb s).2.1
            have k2 := fun s => (kb s).2.2.1
            have k3 := fun s => (kb s).2.2.2
            have r0 := fun s => (hK1 s).cell' p0 id
            have r1 := fun s => (hK1 s).cell' p1 id
            have r2 := fun s => (hK1 s).cell' p2 id
            have t0 := fun s => (hK1 s).cell' q0 id
            have t1 := fun s => (hK1 s).cell' q1 id
            have t2 := fun s => (hK1 s).cell' q2 id
            clear kb p0 p1 p2 q0 q1 q2
            have HFK := Lib.hid (fun s => HWK.out.then1 (hK1 s))
            have HK1 := Lib.hid hK1
            by_cases hkey : key = key'
            · by_cases hsub : es0 = es0' ∧ sub = sub'
              · rw [tf_true hsub] at HC
                have HY := Lib.hid (show key = key' ∧ es0 = es0' ∧ sub = sub' from ⟨hkey, hsub⟩)
                subst hkey
                clear hsub
                go_wp2_with fail
                refine wp_region_new K (by kernel_rfl) (by kernel_rfl) hK0 ?_
                repeat (go_big_quiet_step ((go_at_call 17; exact Calls.in_class hK2 (HC.out _ (HK1.out _)))))
                refine wpQuiet_nil ?_
                intro w' hw'
                obtain ⟨s, rfl⟩ := hw'
                go_wp2
                go_roundw
                case rel => exact ⟨k + 1, by omega, by go_num, HIF.out.trans (HST.out.trans ⟨fun h => h.2, fun h => ⟨⟨by trivial, HY.out.2⟩, h⟩⟩), HFK.out s⟩
                case measure => simp [intOf]; omega
              · rw [tf_false hsub] at HC
                have HY := Lib.hid (show ¬ (es = es' ∧ ks = ks') from fun h => hsub (HST.out.1 (HIF.out.1 h.2)).1.2)
                subst hkey
                clear hsub
                go_wp2_with fail
                refine wp_region_new K (by kernel_rfl) (by kernel_rfl) hK0 ?_
                repeat (go_big_quiet_step ((go_at_call 17; exact Calls.in_class hK2 (HC.out _ (HK1.out _)))))
                refine wpQuiet_nil ?_
                intro w' hw'
                obtain ⟨s, rfl⟩ := hw'
                go_wp2
                go_ret
                exact ⟨ret_bool (tf_false HY.out).symm, HFB.out.then1 (HFK.out s)⟩
            · have HY := Lib.hid (show ¬ (es = es' ∧ ks = ks') from fun h => hkey (HST.out.1 (HIF.out.1 h.2)).1.1)
              have gb := ne_text hkey
              have gc : (key.toList == key'.toList) = false := by simpa using gb
              go_wp2_with fail
              refine wp_region_new K (by kernel_rfl) (by kernel_rfl) hK0 ?_
              repeat (go_big_quiet_step ((go_at_call 17; exact Calls.in_class hK2 (HC.out _ (HK1.out _)))))
              refine wpQuiet_nil ?_
              intro w' hw'
              obtain ⟨s, rfl⟩ := hw'
              go_wp2
              go_ret
              exact ⟨ret_bool (tf_false HY.out).symm, HFB.out.then1 (HFK.out s)⟩
          · obtain rfl : m = k := by omega
            have hkk : ks = ks' := HIF.out.2 (by rw [KidsL.drop_none (by rw [HM.out]; exact Nat.le_refl _), KidsL.drop_none (by rw [HLK.out]; exact Nat.le_refl _)])
            have HKK := Lib.hid hkk; clear hkk
            go_wp2
            go_ret
            exact ⟨ret_bool (tf_true ⟨HEE.out, HKK.out⟩).symm, HFB.out.then1 HWK.out⟩
end Go.Proofs.Ytafdclkpeomomaa

/- tributaryref09: Same: the walk. -/
namespace Go.Proofs.Ytafdclkpeomomaa
open Go.RowKit

set_option maxHeartbeats 4000000 in
set_option maxRecDepth 1000000 in
theorem r9Same_any (Q Q' : Nat → Prop) (es : List Ent) (ks : KidsL) (c : CtxL) (es' : List Ent) (ks' : KidsL) (c' : CtxL) (w : World) (ev kv cv ev' kv' cv' : Value) (h : CauAt Q w ev kv cv es ks c) (hok : CauOk es ks c) (h' : CauAt Q' w ev' kv' cv' es' ks' c') (hok' : CauOk es' ks' c') :
    Calls Try.prog 10 #[.agg #[ev, kv, cv], .agg #[ev', kv', cv']] w fun e w' => e = .returned (.bool (tf ((es = es' ∧ ks = ks') ∧ c = c'))) ∧ Frm NoS w w' := by
  obtain ⟨a0, c0, a1, c1, a2, c2, rfl, rfl, rfl⟩ := h.shape
  obtain ⟨b0, d0, b1, d1, b2, d2, rfl, rfl, rfl⟩ := h'.shape
  have HT := Lib.hid (fun W (f : Frm NoS w W) => r8Same_any Q Q' _ es ks es' ks' W _ _ _ _ (Nat.lt_succ_self _) (h.tree.keep0 f) (h'.tree.keep0 f) (Nat.le_trans hok.small (by decide)) (Nat.le_trans hok'.small (by decide)))
  have hde : decide (c = c') = tf (c = c') := tf_bool (by rw [decide_eq_true_iff])
  have HC := Lib.hid (fun W (f : Frm NoS w W) => hde ▸ r7Same_any W _ _ c c' (Rd.keep0 h.ctx f) (Rd.keep0 h'.ctx f) (Nat.le_trans hok.len (by decide)) (Nat.le_trans hok'.len (by decide)))
  clear h hok h' hok' hde
  by_cases r3 : es = es' ∧ ks = ks'
  rotate_left 1
  · rw [tf_false r3] at HT
    rw [tf_false fun h => r3 h.1]
    clear r3 HC
    generalize es.length = n at *
    generalize ks.len = m at *
    generalize c.length = k at *
    generalize es'.length = n' at *
    generalize ks'.len = m' at *
    generalize c'.length = k' at *
    have HFB := Lib.hid ((Frm.alloc NoS w (.cells #[.slice a0 n c0, .slice a1 m c1, .slice a2 k c2] 31)).alloc1 (o := .cells #[.slice b0 n' d0, .slice b1 m' d1, .slice b2 k' d2] 31))
    have HBX := Lib.hid (pair3 w (.slice a0 n c0) (.slice a1 m c1) (.slice a2 k c2) (.slice b0 n' d0) (.slice b1 m' d1) (.slice b2 k' d2) 31)
    go_enter Try.func10, Try.ntmps10
    go_wp2_with (first
      | (go_at_call 17; go_loud (refine (HT.out _ HFB.out).mono ?_; rintro e w1 ⟨rfl, hw1⟩; obtain ⟨y0, y1, y2, y3, y4, y5⟩ := HBX.out w1 hw1; have HW1 := Lib.hid hw1; clear hw1)))
    go_ret
    exact ⟨rfl, HFB.out.then1 HW1.out⟩
  rw [tf_true r3] at HT
  have hall : tf ((es = es' ∧ ks = ks') ∧ c = c') = tf (c = c') := tf_congr ⟨fun h => h.2, fun h => ⟨r3, h⟩⟩
  rw [hall]
  clear hall r3
  generalize tf (c = c') = y at *
  generalize es.length = n at *
  generalize ks.len = m at *
  generalize c.length = k at *
  generalize es'.length = n' at *
  generalize ks'.len = m' at *
  generalize c'.length = k' at *
  have HFB := Lib.hid ((Frm.alloc NoS w (.cells #[.slice a0 n c0, .slice a1 m c1, .slice a2 k c2] 31)).alloc1 (o := .cells #[.slice b0 n' d0, .slice b1 m' d1, .slice b2 k' d2] 31))
  have HBX := Lib.hid (pair3 w (.slice a0 n c0) (.slice a1 m c1) (.slice a2 k c2) (.slice b0 n' d0) (.slice b1 m' d1) (.slice b2 k' d2) 31)
  go_enter Try.func10, Try.ntmps10
  go_wp2_with (first
    | (go_at_call 17; go_loud (refine (HT.out _ HFB.out).mono ?_; rintro e w1 ⟨rfl, hw1⟩; obtain ⟨y0, y1, y2, y3, y4, y5⟩ := HBX.out w1 hw1; have HW1 := Lib.hid hw1; clear hw1))
    | (go_at_call 18; go_loud (refine (HC.out _ (HFB.out.then1 HW1.out)).mono ?_; rintro e w2 ⟨rfl, hw2⟩; have HW2 := Lib.hid (HW1.out.then1 hw2); clear hw2)))
  go_ret
  exact ⟨rfl, HFB.out.then1 HW2.out⟩
end Go.Proofs.Ytafdclkpeomomaa

/- tributarylaw16: awake: the walk. -/
namespace Go.Proofs.Ytafdclkpeomomaa
open Go.RowKit

theorem kbytes_any (w : World) (ev kv cv : Value) (h : CauAt (fun _ => True) w ev kv cv kEs kKs kC) :
    Calls Try.prog 7 #[.agg #[ev, kv, cv]] w fun e w' => ∃ a c, e = .returned (.tuple #[.slice a kB.length c, .int .i64 0]) ∧ Copy w (.slice a kB.length c) kB w' :=
  (pBytes_any (fun _ => True) kEs kKs kC w ev kv cv h kOk).mono fun e w' ⟨h1, _, _⟩ => by
    obtain ⟨v, k, he, hend⟩ := h1 kRight
    rw [kBytes] at hend
    unfold EndIs at hend
    rw [if_pos (by decide)] at hend
    obtain ⟨rfl, hcp⟩ := hend
    obtain ⟨a, c, rfl⟩ := hcp.shape
    exact ⟨a, c, he, hcp⟩
theorem kread_any (w : World) (v : Value) (h : Rd w v kB.length (bV kB)) :
    Calls Try.prog 9 #[v] w fun e w' => ∃ ev kv cv, e = .returned (.tuple #[.agg #[ev, kv, cv], .int .i64 0]) ∧ CauAt (fun _ => True) w' ev kv cv kEs kKs kC ∧ Frm NoS w w' :=
  (pRead_any v kB kEs kKs kC (some []) w h (by have h0 := CauRes.make [] kRight; rw [List.append_nil, kBytes] at h0; exact h0) (by decide)).mono fun e w' hp => by
    obtain ⟨ev, kv, cv, he, ht, hc⟩ := hp.yes rfl
    exact ⟨ev, kv, cv, he, ⟨ht.turn fun b _ _ => ⟨rfl, trivial⟩, hc.at_⟩, hp.frm⟩
set_option maxHeartbeats 4000000 in
set_option maxRecDepth 1000000 in
theorem awake16_any (w : World) : Calls Try.prog 4 #[] w fun e w' => e = .returned (.bool true) ∧ Frm NoS w w' := by
  have HSM := Lib.hid (fun W ev kv cv ev' kv' cv' (h : CauAt (fun _ => True) W ev kv cv kEs kKs kC) (h' : CauAt (fun _ => True) W ev' kv' cv' kEs kKs kC) => tf_true (⟨⟨rfl, rfl⟩, rfl⟩ : (kEs = kEs ∧ kKs = kKs) ∧ kC = kC) ▸ r9Same_any (fun _ => True) (fun _ => True) kEs kKs kC kEs kKs kC W ev kv cv ev' kv' cv' h kOk h' kOk)
  go_enter Try.func4, Try.ntmps4
  go_wp2_with (first
    | (go_at_call 8; go_loud (refine (known16_any _).mono ?_); rintro e w1 ⟨ev1, kv1, cv1, rfl, hc1, hf1⟩; obtain ⟨a0, c0, a1, c1, a2, c2, rfl, rfl, rfl⟩ := hc1.shape; have HC1 := Lib.hid hc1; clear hc1; have HF1 := Lib.hid hf1; clear hf1)
    | (go_at_call 7; go_loud (refine (kbytes_any _ _ _ _ HC1.out).mono ?_); rintro e w2 ⟨a3, c3, rfl, cp2⟩; have HF2 := Lib.hid (HF1.out.then1 cp2.frm); have HP2 := Lib.hid cp2; clear cp2)
    | (go_at_call 9; go_loud (refine (kread_any _ _ HP2.out.rd).mono ?_); rintro e w3 ⟨ev3, kv3, cv3, rfl, hc3, hf3⟩; obtain ⟨b0, d0, b1, d1, b2, d2, rfl, rfl, rfl⟩ := hc3.shape; have HC3 := Lib.hid hc3; clear hc3; have HF3 := Lib.hid (HF2.out.then1 hf3); have HP3 := Lib.hid (HP2.out.step hf3); clear hf3))
  have hx := heap_alloc_new w3 (.cells #[.slice b0 kEs.length d0, .slice b1 kKs.len d1, .slice b2 kC.length d2] 31)
  have hwa : Frm NoS w3 (w3.alloc (.cells #[.slice b0 kEs.length d0, .slice b1 kKs.len d1, .slice b2 kC.length d2] 31)) := Frm.alloc _ _ _
  generalize w3.alloc (.cells #[.slice b0 kEs.length d0, .slice b1 kKs.len d1, .slice b2 kC.length d2] 31) = WA at *
  have hlb := lt_of_block hx
  refine wp_region_G (S := fun w' => Frm NoS WA w' ∧ w'.cell? ⟨w3.heap.size, 0, none⟩ = some (.slice b0 kEs.length d0) ∧ w'.cell? ⟨w3.heap.size, 1, none⟩ = some (.slice b1 kKs.len d1) ∧ w'.cell? ⟨w3.heap.size, 2, none⟩ = some (.slice b2 kC.length d2)) 16 (by kernel_rfl) ⟨Frm.drew NoS WA, cell_at' hx 0 rfl, cell_at' hx 1 rfl, cell_at' hx 2 rfl⟩ ?_
  intro hS
  have HWA := Lib.hid hwa; clear hwa hx
  generalize WA.drew = Y0 at *
  have hcv : (convert 32 9 (.slice a3 kB.length c3)).run Try.prog Y0 = .ok (.string ⟨#[2, 2, 2, 2, 97, 6, 0, 2, 2, 2, 2]⟩) Y0 := conv_str ((HP3.out.step HWA.out).step hS.1).rd
  refine take_opG 0 15 (v := ?_) rfl rfl (by kernel_rfl) (by kernel_rfl) (by decide) (by kernel_rfl) (by kernel_rfl) (fun _ _ _ h => h) (Or.inl ⟨by rfl, ?_⟩) (by assumption) ?_
  rotate_left 1
  · (intro w hSw; (try dsimp only at hSw); go_simp; (try with_reducible rfl))
  try simp only [Act.put, List.setIfInBounds_toArray, List.set_cons_zero, List.set_cons_succ]
  refine take_opG 1 16 (v := ?_) rfl rfl (by kernel_rfl) (by kernel_rfl) (by decide) (by kernel_rfl) (by kernel_rfl) (fun _ _ _ h => h) (Or.inl ⟨by rfl, ?_⟩) (by assumption) ?_
  rotate_left 1
  · (intro w hSw; (try dsimp only at hSw); go_simp; (try with_reducible rfl))
  try simp only [Act.put, List.setIfInBounds_toArray, List.set_cons_zero, List.set_cons_succ]
  refine take_opG 2 17 (v := ?_) rfl rfl (by kernel_rfl) (by kernel_rfl) (by decide) (by kernel_rfl) (by kernel_rfl) (fun _ _ _ h => h) (Or.inl ⟨by rfl, ?_⟩) (by assumption) ?_
  rotate_left 1
  · (intro w hSw; (try dsimp only at hSw); go_simp; (try with_reducible rfl))
  try simp only [Act.put, List.setIfInBounds_toArray, List.set_cons_zero, List.set_cons_succ]
  refine take_opG 3 18 (v := ?_) rfl rfl (by kernel_rfl) (by kernel_rfl) (by decide) (by kernel_rfl) (by kernel_rfl) (fun _ _ _ h => h) (Or.inl ⟨by rfl, ?_⟩) (by assumption) ?_
  rotate_left 1
  · (intro w hSw; (try dsimp only at hSw); go_simp; (try with_reducible rfl))
  try simp only [Act.put, List.setIfInBounds_toArray, List.set_cons_zero, List.set_cons_succ]
  refine take_opG 4 19 (v := ?_) rfl rfl (by kernel_rfl) (by kernel_rfl) (by decide) (by kernel_rfl) (by kernel_rfl) (fun _ _ _ h => h) (Or.inl ⟨by rfl, ?_⟩) (by assumption) ?_
  rotate_left 1
  · (intro w hSw; (try dsimp only at hSw); go_simp; (try with_reducible rfl))
  try simp only [Act.put, List.setIfInBounds_toArray, List.set_cons_zero, List.set_cons_succ]
  refine take_opG 5 20 (v := ?_) rfl rfl (by kernel_rfl) (by kernel_rfl) (by decide) (by kernel_rfl) (by kernel_rfl) (fun _ _ _ h => h) (Or.inl ⟨by rfl, ?_⟩) (by assumption) ?_
  rotate_left 1
  · (intro w hSw; (try dsimp only at hSw); go_simp; (try with_reducible rfl))
  try simp only [Act.put, List.setIfInBounds_toArray, List.set_cons_zero, List.set_cons_succ]
  refine take_opG 6 21 (v := ?_) rfl rfl (by kernel_rfl) (by kernel_rfl) (by decide) (by kernel_rfl) (by kernel_rfl) (fun _ _ _ h => h) (Or.inl ⟨by rfl, ?_⟩) (by assumption) ?_
  rotate_left 1
  · (intro w hSw; (try dsimp only at hSw); go_simp; (try with_reducible rfl))
  try simp only [Act.put, List.setIfInBounds_toArray, List.set_cons_zero, List.set_cons_succ]
  refine take_opG 7 22 (v := ?_) rfl rfl (by kernel_rfl) (by kernel_rfl) (by decide) (by kernel_rfl) (by kernel_rfl) (fun _ _ _ h => h) (Or.inl ⟨by rfl, ?_⟩) (by assumption) ?_
  rotate_left 1
  · (intro w hSw; (try dsimp only at hSw); go_simp; (try with_reducible rfl))
  try simp only [Act.put, List.setIfInBounds_toArray, List.set_cons_zero, List.set_cons_succ]
  refine one_opG (i := 8) (by kernel_rfl) rfl (fun K hK => ?_)
  go_simp
  refine hK.out _ _ hS ?_
  clear hK K hcv
  try simp only [Act.put, List.setIfInBounds_toArray, List.set_cons_zero, List.set_cons_succ]
  refine take_opG 9 24 (v := ?_) rfl rfl (by kernel_rfl) (by kernel_rfl) (by decide) (by kernel_rfl) (by kernel_rfl) (fun _ _ _ h => h) (Or.inl ⟨by rfl, ?_⟩) (by assumption) ?_
  rotate_left 1
  · (intro w hSw; (try dsimp only at hSw); go_simp; (try with_reducible rfl))
  try simp only [Act.put, List.setIfInBounds_toArray, List.set_cons_zero, List.set_cons_succ]
  refine take_opG 10 25 (v := ?_) rfl rfl (by kernel_rfl) (by kernel_rfl) (by decide) (by kernel_rfl) (by kernel_rfl) (fun _ _ _ h => h) (Or.inl ⟨by rfl, ?_⟩) (by assumption) ?_
  rotate_left 1
  · (intro w hSw; (try dsimp only at hSw); go_simp; (try with_reducible rfl))
  try simp only [Act.put, List.setIfInBounds_toArray, List.set_cons_zero, List.set_cons_succ]
  refine take_opG 11 26 (v := ?_) rfl rfl (by kernel_rfl) (by kernel_rfl) (by decide) (by kernel_rfl) (by kernel_rfl) (fun _ _ _ h => h) (Or.inl ⟨by rfl, ?_⟩) (by assumption) ?_
  rotate_left 1
  · (intro w hSw; (try dsimp only at hSw); go_simp; (try with_reducible rfl))
  try simp only [Act.put, List.setIfInBounds_toArray, List.set_cons_zero, List.set_cons_succ]
  refine take_opG 12 27 (v := ?_) rfl rfl (by kernel_rfl) (by kernel_rfl) (by decide) (by kernel_rfl) (by kernel_rfl) (fun _ _ _ h => h) (Or.inl ⟨by rfl, ?_⟩) (by assumption) ?_
  rotate_left 1
  · (intro w hSw; (try dsimp only at hSw); go_simp; (try with_reducible rfl))
  try simp only [Act.put, List.setIfInBounds_toArray, List.set_cons_zero, List.set_cons_succ]
  refine one_opG (i := 13) (by kernel_rfl) rfl (fun K hK => ?_)
  go_simp
  refine (known16_any _).mono ?_
  rintro e1 Y1 ⟨ev4, kv4, cv4, rfl, hc4, hf4⟩
  obtain ⟨g0, j0, g1, j1, g2, j2, rfl, rfl, rfl⟩ := hc4.shape
  have hS1 : Frm NoS WA Y1 ∧ Y1.cell? ⟨w3.heap.size, 0, none⟩ = some (.slice b0 kEs.length d0) ∧ Y1.cell? ⟨w3.heap.size, 1, none⟩ = some (.slice b1 kKs.len d1) ∧ Y1.cell? ⟨w3.heap.size, 2, none⟩ = some (.slice b2 kC.length d2) := ⟨hS.1.then1 hf4, hf4.cell' hS.2.1 id, hf4.cell' hS.2.2.1 id, hf4.cell' hS.2.2.2 id⟩
  refine hK.out _ _ hS1 ?_
  clear hK K hS hf4
  have HC4 := Lib.hid hc4; clear hc4
  try simp only [Act.put, List.setIfInBounds_toArray, List.set_cons_zero, List.set_cons_succ]
  refine one_opG (i := 14) (by kernel_rfl) rfl (fun K hK => ?_)
  go_simp
  refine (HSM.out _ _ _ _ _ _ _ (HC3.out.keep0 (HWA.out.then1 hS1.1)) HC4.out).mono ?_
  rintro e2 Y2 ⟨rfl, hf5⟩
  have hS2 : Frm NoS WA Y2 ∧ Y2.cell? ⟨w3.heap.size, 0, none⟩ = some (.slice b0 kEs.length d0) ∧ Y2.cell? ⟨w3.heap.size, 1, none⟩ = some (.slice b1 kKs.len d1) ∧ Y2.cell? ⟨w3.heap.size, 2, none⟩ = some (.slice b2 kC.length d2) := ⟨hS1.1.then1 hf5, hf5.cell' hS1.2.1 id, hf5.cell' hS1.2.2.1 id, hf5.cell' hS1.2.2.2 id⟩
  refine hK.out _ _ hS2 ?_
  clear hK K hS1 hf5
  try simp only [Act.put, List.setIfInBounds_toArray, List.set_cons_zero, List.set_cons_succ]
  refine take_opG 15 30 (v := ?_) rfl rfl (by kernel_rfl) (by kernel_rfl) (by decide) (by kernel_rfl) (by kernel_rfl) (fun _ _ _ h => h) (Or.inl ⟨by rfl, ?_⟩) (by assumption) ?_
  rotate_left 1
  · (intro w hSw; (try dsimp only at hSw); go_simp; (try with_reducible rfl))
  try simp only [Act.put, List.setIfInBounds_toArray, List.set_cons_zero, List.set_cons_succ]
  refine last_opG (by kernel_rfl) (by kernel_rfl) rfl (fun K hK => ?_)
  go_simp
  refine hK.out _ _ ?_
  clear hK K
  go_wp2
  go_ret
  exact ⟨rfl, (HF3.out.then1 HWA.out).then1 hS2.1⟩
end Go.Proofs.Ytafdclkpeomomaa

/- The law PackLong: its walk. -/
namespace Go.Proofs.Ytafdclkpeomomaa
open Go.RowKit

/-- The entries that are laid one behind the other. -/
def longEs (s : ByteArray) : Nat → List Ent
  | 0 => []
  | k + 1 => longEs s k ++ [⟨1, (k : Int) + 1, s, k⟩]
theorem longEs_len (s : ByteArray) : ∀ k, (longEs s k).length = k
  | 0 => rfl
  | k + 1 => by rw [longEs, List.length_append, longEs_len s k]; rfl
theorem longEs_mem {s : ByteArray} : ∀ {k : Nat} {e : Ent}, e ∈ longEs s k → ∃ j : Nat, j < k ∧ e = ⟨1, (j : Int) + 1, s, j⟩
  | 0, _, h => by cases h
  | k + 1, e, h => by
    rw [longEs] at h
    rcases List.mem_append.1 h with h | h
    · obtain ⟨j, h1, h2⟩ := longEs_mem h
      exact ⟨j, by omega, h2⟩
    · rw [List.mem_singleton] at h
      exact ⟨k, by omega, h⟩
theorem long_ent {s : ByteArray} (hs : s.size ≤ 30) {k : Nat} (hk : k < 2000) : entB ⟨1, (k : Int) + 1, s, k⟩ = true := by
  unfold entB dotB
  simp only [Bool.and_eq_true, decide_eq_true_eq]
  omega
theorem long_right {s : ByteArray} (hs : s.size ≤ 30) : ∀ {k : Nat}, k ≤ 2000 → rightEs none (longEs s k) = true
  | 0, _ => rfl
  | k + 1, hk => by
    rw [longEs]
    rw [rightEs_snoc, long_right hs (by omega), long_ent hs (by omega)]
    cases k with
    | zero => rfl
    | succ k =>
      rw [longEs]
      simp [ltE, dotLt]
      omega
theorem long_tree {s : ByteArray} (hs : s.size ≤ 30) {k : Nat} (hk : k ≤ 2000) : rightT 5 (longEs s k) .nil = true := by
  unfold rightT
  rw [long_right hs hk]
  rfl
theorem long_cau {s : ByteArray} (hs : s.size ≤ 30) {k : Nat} (h0 : 0 < k) (hk : k ≤ 2000) : CauRight (longEs s k) .nil [(1, 1, (k : Int))] :=
  ⟨long_tree hs hk, right_one (by decide) (by decide) (by decide) (by omega) (by omega), fun r hr => by
    have : dotsT (longEs s k) .nil = dotsE (longEs s k) ++ [] := rfl
    rw [this, List.append_nil] at hr
    obtain ⟨e, he, rfl⟩ := List.mem_map.1 hr
    obtain ⟨j, hj, rfl⟩ := longEs_mem he
    exact (inC_one 1 1 k 1 ((j : Int) + 1)).2 ⟨rfl, by omega, by omega⟩⟩
theorem long_tr {s : ByteArray} (hs : s.size ≤ 30) {k : Nat} (hk : k ≤ 2000) : TrOk (longEs s k) .nil :=
  ⟨⟨by rw [longEs_len]; omega, fun e he => by
    obtain ⟨j, hj, rfl⟩ := longEs_mem he
    exact ⟨⟨by dsimp only; omega, by dsimp only; omega⟩, ⟨by dsimp only; omega, by dsimp only; omega⟩, ⟨by dsimp only; omega, by dsimp only; omega⟩, by dsimp only; omega⟩⟩, by decide, trivial⟩
theorem long_ok {s : ByteArray} (hs : s.size ≤ 30) {k : Nat} (h0 : 0 < k) (hk : k ≤ 2000) : CauOk (longEs s k) .nil [(1, 1, (k : Int))] :=
  ⟨long_tr hs hk, by unfold sizeT sizeK; rw [longEs_len]; omega, fun s hs => by simp only [List.mem_singleton] at hs; subst hs; dsimp only; omega, by simp⟩
theorem numB_one : numB 1 = [2] := by unfold numB; rw [show zz 1 = 2 from rfl, vl_small (by omega)]; rfl
theorem numB_nought : numB 0 = [0] := by unfold numB; rw [show zz 0 = 0 from rfl, vl_small (by omega)]; rfl
theorem long_size (s : ByteArray) (k : Nat) : (encX (longEs s k) .nil [(1, 1, (k : Int))]).length = 4 + 2 * (numB (k : Int)).length + (encEs (longEs s k)).length := by
  have e2 : numB ((KidsL.nil.len : Nat) : Int) = [0] := numB_nought
  have e3 : numB (([(1, 1, (k : Int))] : CtxL).length : Int) = [2] := numB_one
  have e4 : encSs [(1, 1, (k : Int))] = [2] ++ ([2] ++ numB k) := by simp only [encSs, encS, List.flatMap_cons, List.flatMap_nil, numB_one, List.append_nil]
  unfold encX encT encC
  rw [longEs_len, e2, e3, e4]
  simp only [encK, List.length_append, List.length_cons, List.length_nil]
  omega
theorem long_snoc (s : ByteArray) (k : Nat) : (encEs (longEs s (k + 1))).length = (encEs (longEs s k)).length + (1 + (numB ((k : Int) + 1)).length + (textB s).length + (numB (k : Int)).length) := by
  rw [longEs]
  unfold encEs
  rw [List.flatMap_append, List.length_append]
  simp only [List.flatMap_cons, List.flatMap_nil, List.append_nil, encE, List.length_append, numB_one, List.length_cons, List.length_nil]
  omega
theorem zero_size : (encX [] .nil []).length = 3 := by
  have e1 : numB ((([] : List Ent).length : Nat) : Int) = [0] := numB_nought
  have e2 : numB ((KidsL.nil.len : Nat) : Int) = [0] := numB_nought
  have e3 : numB (([] : CtxL).length : Int) = [0] := numB_nought
  unfold encX encT encC
  rw [e1, e2, e3]
  rfl
/-- Bytes of what is right. -/
theorem pBytes_long (es : List Ent) (ks : KidsL) (c : CtxL) (w : World) (ev kv cv : Value) (h : CauAt (fun _ => True) w ev kv cv es ks c) (hok : CauOk es ks c) (hr : CauRight es ks c) :
    Calls Try.prog 7 #[.agg #[ev, kv, cv]] w fun e w' => Frm NoS w w' ∧ (((encX es ks c).length ≤ 60000 ∧ ∃ a c', e = .returned (.tuple #[.slice a (encX es ks c).length c', .int .i64 0])) ∨ (60000 < (encX es ks c).length ∧ e = .returned (.tuple #[.slice none 0 0, .int .i64 3]))) :=
  (pBytes_any (fun _ => True) es ks c w ev kv cv h hok).mono fun e w' ⟨h1, _, hf⟩ => by
    obtain ⟨v, k, he, hend⟩ := h1 hr
    unfold EndIs at hend
    refine ⟨hf, ?_⟩
    by_cases hl : (encX es ks c).length ≤ 60000
    · rw [if_pos hl] at hend
      obtain ⟨rfl, hcp⟩ := hend
      obtain ⟨a, c', rfl⟩ := hcp.shape
      exact .inl ⟨hl, a, c', he⟩
    · rw [if_neg hl] at hend
      obtain ⟨rfl, rfl⟩ := hend
      exact .inr ⟨by omega, he⟩
theorem info_entry' : (Try.prog.info? 37).map (fun i => (i.zero, i.size, i.bytes)) = some (some (.agg #[.int .i64 0, .int .i64 0, .string ByteArray.empty, .int .i64 0]), 4, 40) := by kernel_rfl
/-- The entries that are laid. -/
structure LongAt (w0 w W : World) (B : Nat) (ev : Value) (s : ByteArray) (k : Nat) : Prop where
  box : W.heap[B]? = some (.cells #[ev, .slice none 0 0, .slice none 0 0] 31 (0, 0))
  own : W.ownsRow 0 37 4 ev k (entC (longEs s k))
  apart : ∀ b, ev.ownBlock = some b → B < b
  frm : Frm NoS w0 W
  new : w0.heap.size ≤ B
  le : w.heap.size ≤ W.heap.size
theorem entC_snoc (es : List Ent) (e : Ent) : entC (es ++ [e]) = entC es ++ e.cells := by rw [entC_append]; simp [entC]
theorem rnum_len (x : Int) (w : World) (h1 : -9223372036854775808 ≤ x) (h2 : x ≤ 9223372036854775807) : Calls Try.prog 5 #[.int .i64 x] w fun e w' => ∃ a c, e = .returned (.slice a (numB x).length c) ∧ Frm NoS w w' :=
  (rnum x w h1 h2).mono fun e w' ⟨v, he, hc⟩ => by
    obtain ⟨a, c, rfl⟩ := hc.shape
    exact ⟨a, c, he, hc.frm⟩
theorem rtext_len (s : ByteArray) (w : World) (hl : s.size ≤ 140737488351232) : Calls Try.prog 6 #[.string s] w fun e w' => ∃ a c, e = .returned (.slice a (textB s).length c) ∧ Frm NoS w w' :=
  (rtext s w hl).mono fun e w' ⟨v, he, hc⟩ => by
    obtain ⟨a, c, rfl⟩ := hc.shape
    exact ⟨a, c, he, hc.frm⟩
theorem LongAt.start {w0 w w2 : World} (hw : Frm NoS w0 w) (hf : Frm NoS (w.alloc (.cells #[.slice none 0 0, .slice none 0 0, .slice none 0 0] 31)) w2) (s : ByteArray) : LongAt w0 w w2 w.heap.size (.slice none 0 0) s 0 :=
  ⟨hf.blk (heap_alloc_new w _) id, World.ownsRow_nil _ 0 _ 4, fun b hb => (by simp [Value.ownBlock] at hb), (hw.alloc1).then1 hf, hw.size, Nat.le_trans (Frm.alloc NoS w _).size hf.size⟩
theorem LongAt.keep {w0 w W W' : World} {B : Nat} {ev : Value} {s : ByteArray} {k : Nat} (h : LongAt w0 w W B ev s k) (f : Frm NoS W W') : LongAt w0 w W' B ev s k :=
  ⟨f.blk h.box id, f.owns h.own fun _ _ => id, h.apart, h.frm.then1 f, h.new, Nat.le_trans h.le f.size⟩
theorem LongAt.step {w0 w W w6 : World} {B : Nat} {ev ev' : Value} {s : ByteArray} {k : Nat} {o : Obj} (h : LongAt w0 w W B ev s k) (own : w6.ownsRow 0 37 4 ev' (k + 1) (entC (longEs s k) ++ [.int .i64 1, .int .i64 ((k : Int) + 1), .string s, .int .i64 k])) (fm : Frm (RowS ev) (W.alloc o) w6) (fr : Fresh (W.alloc o) ev ev') :
    LongAt w0 w (w6.setCell ⟨B, 0, none⟩ ev') B ev' s (k + 1) := by
  have hn : ¬ RowS ev B := fun e => Nat.lt_irrefl _ (h.apart _ e)
  have hb6 := fm.blk ((Frm.alloc NoS W o).blk h.box id) hn
  have f2 := only_set w6 B 0 ev'
  have hlt := lt_of_block h.box
  have ap : ∀ b, ev'.ownBlock = some b → B < b := fun b hb => by
    rcases fr b hb with e | e
    · exact h.apart b e
    · have := (Frm.alloc NoS W o).size; omega
  refine ⟨set_at' hb6 0 ev', ?_, ap, ?_, h.new, ?_⟩
  · rw [longEs, entC_snoc]
    exact f2.owns own fun b hb e => by have e : b = B := e; have := ap b hb; omega
  · refine ((h.frm.alloc1).trans fm fun i hi e => ?_).trans f2 fun i hi e => ?_
    · have := h.apart i e; have := h.new; omega
    · have e : i = B := e; have := h.new; omega
  · exact Nat.le_trans h.le (Nat.le_trans (Frm.alloc NoS W o).size (Nat.le_trans fm.size f2.size))
theorem pBytes_three (w : World) (ev kv cv : Value) (h : CauAt (fun _ => True) w ev kv cv [] .nil []) : Calls Try.prog 7 #[.agg #[ev, kv, cv]] w fun e w' => ∃ a c, e = .returned (.tuple #[.slice a 3 c, .int .i64 0]) ∧ Frm NoS w w' :=
  (pBytes_long [] .nil [] w ev kv cv h ⟨⟨⟨Nat.zero_le _, fun e he => by cases he⟩, Nat.zero_le _, trivial⟩, Nat.zero_le _, fun s hs => (by cases hs), Nat.zero_le _⟩ ⟨by decide, right_nilC, fun r hr => by cases hr⟩).mono fun e w' ⟨hf, h⟩ => by
    rw [zero_size] at h
    rcases h with ⟨_, a, c, he⟩ | ⟨h, _⟩
    · exact ⟨a, c, he, hf⟩
    · omega
theorem LongAt.last {w0 w W W8 : World} {B : Nat} {ev : Value} {s : ByteArray} {k : Nat} {M : Int} (h : LongAt w0 w W B ev s k) (f : Frm NoS ((W.setCell ⟨B, 2, none⟩ (.slice (some ⟨W.heap.size, 0, none⟩) 1 1)).alloc (.cells #[.int .i64 1, .int .i64 1, .int .i64 M] 40)) W8) :
    W8.heap[B]? = some (.cells #[ev, .slice none 0 0, .slice (some ⟨W.heap.size, 0, none⟩) 1 1] 31 (0, 0)) ∧ CauAt (fun _ => True) W8 ev (.slice none 0 0) (.slice (some ⟨W.heap.size, 0, none⟩) 1 1) (longEs s k) .nil [(1, 1, M)] ∧ Frm NoS w0 W8 := by
  have f1 := only_set W B 2 (.slice (some ⟨W.heap.size, 0, none⟩) 1 1)
  have hb := f.blk ((Frm.alloc NoS (W.setCell ⟨B, 2, none⟩ (.slice (some ⟨W.heap.size, 0, none⟩) 1 1)) (.cells #[.int .i64 1, .int .i64 1, .int .i64 M] 40)).blk (set_at' h.box 2 (.slice (some ⟨W.heap.size, 0, none⟩) 1 1)) id) id
  have hs := heap_alloc_new (W.setCell ⟨B, 2, none⟩ (.slice (some ⟨W.heap.size, 0, none⟩) 1 1)) (.cells #[.int .i64 1, .int .i64 1, .int .i64 M] 40)
  rw [show (W.setCell ⟨B, 2, none⟩ (.slice (some ⟨W.heap.size, 0, none⟩) 1 1)).heap.size = W.heap.size by simp] at hs
  have ho := f.owns ((Frm.alloc NoS _ (.cells #[.int .i64 1, .int .i64 1, .int .i64 M] 40)).owns (f1.owns h.own fun b hb e => by have e : b = B := e; have := h.apart b hb; omega) fun _ _ => id) fun _ _ => id
  refine ⟨hb, ⟨⟨⟨by rw [longEs_len]; exact Rd.own ho, fun _ _ _ => trivial⟩, [], ⟨.inl ⟨none, rfl, rfl, rfl⟩, fun h => absurd rfl h⟩, rfl⟩, row_at (f.blk hs id) (by decide)⟩, ?_⟩
  exact ((h.frm.trans f1 fun i hi e => by have e : i = B := e; have := h.new; omega).alloc1).then1 f
theorem pBytes_fits (es : List Ent) (ks : KidsL) (c : CtxL) (w : World) (ev kv cv : Value) (h : CauAt (fun _ => True) w ev kv cv es ks c) (hok : CauOk es ks c) (hr : CauRight es ks c) (hl : (encX es ks c).length ≤ 60000) :
    Calls Try.prog 7 #[.agg #[ev, kv, cv]] w fun e w' => ∃ a c', e = .returned (.tuple #[.slice a (encX es ks c).length c', .int .i64 0]) ∧ Frm NoS w w' :=
  (pBytes_long es ks c w ev kv cv h hok hr).mono fun e w' ⟨hf, h⟩ => by
    rcases h with ⟨_, a, c, he⟩ | ⟨h, _⟩
    · exact ⟨a, c, he, hf⟩
    · omega
theorem pBytes_over (es : List Ent) (ks : KidsL) (c : CtxL) (w : World) (ev kv cv : Value) (h : CauAt (fun _ => True) w ev kv cv es ks c) (hok : CauOk es ks c) (hr : CauRight es ks c) (hl : 60000 < (encX es ks c).length) :
    Calls Try.prog 7 #[.agg #[ev, kv, cv]] w fun e w' => e = .returned (.tuple #[.slice none 0 0, .int .i64 3]) ∧ Frm NoS w w' :=
  (pBytes_long es ks c w ev kv cv h hok hr).mono fun e w' ⟨hf, h⟩ => by
    rcases h with ⟨h, _⟩ | ⟨_, he⟩
    · omega
    · exact ⟨he, hf⟩
set_option maxHeartbeats 4000000 in
set_option maxRecDepth 1000000 in
theorem packLong_walk (n : Int) (hn : (Lit.int .u16 n).wf = true) (s : ByteArray) (hs : s.size ≤ maxLen) (w : World) : Calls Try.prog 3 #[.int .u16 n, .string s] w fun e w' => e = .returned (.bool true) ∧ Frm (fun _ => False) w w' := by
  have hb : 0 ≤ n ∧ n ≤ 65535 := by
    simp only [Lit.wf, IntKind.min, IntKind.max, IntKind.signed, IntKind.bits] at hn
    simpa using hn
  clear hn
  obtain ⟨i0, hi, hz0, hz1, hz2⟩ := info_parts info_entry'
  have HA := Lib.hid awake16_any
  by_cases hlen : s.size ≤ 30
  rotate_left 1
  · have hl2 : ¬ (s.size : Int) ≤ 30 := by omega
    go_enter Try.func3, Try.ntmps3
    go_wp2_with (go_at_call 4; first | (refine (HA.out _).mono ?_; rintro e w20 ⟨rfl, hw20⟩; have HW20 := Lib.hid (HW1.out.then1 hw20); clear hw20) | (go_loud (refine (HA.out _).mono ?_); rintro e w1 ⟨rfl, hw1⟩; have HW1 := Lib.hid hw1; clear hw1))
    go_ret
    exact ⟨rfl, HW20.out⟩
  have hl2 : (s.size : Int) ≤ 30 := by omega
  have HLEN := Lib.hid hlen; clear hlen
  obtain ⟨N, rfl⟩ := Int.eq_ofNat_of_zero_le hb.1
  obtain ⟨M, hM, hM2⟩ : ∃ M : Nat, (N : Int) % 2001 = (M : Int) ∧ M ≤ 2000 := ⟨N % 2001, by omega, by omega⟩
  clear hs
  have HRM := Lib.hid (fun W => rnum_len (M : Int) W (by omega) (by omega))
  have hLM10 := numB_le10 (v := (M : Int)) (by omega) (by omega)
  generalize hLM : (numB (M : Int)).length = LM at *
  have HLM := Lib.hid hLM; clear hLM
  go_enter Try.func3, Try.ntmps3
  go_wp2_with (first
    | (go_at_call 4; go_loud (refine (HA.out _).mono ?_); rintro e w1 ⟨rfl, hw1⟩; have HW1 := Lib.hid hw1; clear hw1)
    | (go_at_call 5; go_loud (refine (HRM.out _).mono ?_); rintro e w2 ⟨a2, c2, rfl, hf2⟩; have HL0 := Lib.hid (LongAt.start HW1.out hf2 s); clear hf2))
  go_loopw [7, 30] (fun u i W => ∃ (k E : Nat) (U : Int) (ev : Value), k ≤ M ∧ i = .int .i64 k ∧ u = .int .i64 U ∧ U = 2 + LM + E ∧ E = (encEs (longEs s k)).length ∧ E ≤ 61 * k ∧ LongAt w w1 W w1.heap.size ev s k) (fun _ i _ => M - (intOf i).toNat)
  case atStart => exact ⟨0, 0, _, _, Nat.zero_le _, rfl, rfl, by omega, rfl, by omega, HL0.out⟩
  case round =>
    clear HL0
    obtain ⟨k, E, U, ev, hk, rfl, rfl, hU, hE, hE2, hlo⟩ := hrel
    have HE := Lib.hid hE; clear hE
    have HLO := Lib.hid hlo
    obtain ⟨aV, cV, rfl⟩ := (Rd.own hlo.own).sl
    have y0 := cell_at' hlo.box 0 rfl
    have y1 := cell_at' hlo.box 1 rfl
    have y2 := cell_at' hlo.box 2 rfl
    have f0 := free_at' hlo.box 0
    have f2 := free_at' hlo.box 2
    have yl := lt_of_block hlo.box
    clear hlo
    by_cases hlt : k < M
    · have HR1 := Lib.hid (fun W => rnum_len ((k : Int) + 1) W (by omega) (by omega))
      have HR0 := Lib.hid (fun W => rnum_len (k : Int) W (by omega) (by omega))
      have HRT := Lib.hid (fun W => rtext_len s W (by have := HLEN.out; omega))
      have h110 := numB_le10 (v := (k : Int) + 1) (by omega) (by omega)
      have h010 := numB_le10 (v := (k : Int)) (by omega) (by omega)
      have hT40 : (textB s).length ≤ 40 := by
        have := numB_le10 (v := (s.size : Int)) (by omega) (by omega)
        have h6 : s.data.toList.length = s.size := Array.length_toList
        unfold textB
        rw [List.length_append]; omega
      have HSN := Lib.hid (long_snoc s k)
      generalize (numB ((k : Int) + 1)).length = L1 at *
      generalize (numB (k : Int)).length = L0 at *
      generalize (textB s).length = LT at *
      go_wp2_with (at_builtin; go_loud (refine wpList_app1 _ [.int .i64 1, .int .i64 ((k : Int) + 1), .string s, .int .i64 k] rfl (.tmp 41) (.tmp 43) 24 rfl 37 i0 _ 4 40 Try.underlying24 hi hz0 hz1 hz2 (by decide) (by decide) _ k _ (HLO.out.own.alloc _) 1 1 rfl (by simp [Act.eval]) rfl ?c1 ?c2 ?c3 ?_))
      case c1 => simp [Value.oneCell']
      case c2 => simp only [maxLen]; omega
      case c3 => omega
      intro ad cc w6 own6 fm6 fr6
      have hn0 : ¬ RowS (.slice aV k cV) w1.heap.size := fun h => Nat.lt_irrefl _ (HLO.out.apart _ h)
      have hb6 := fm6.blk ((Frm.alloc NoS _ _).blk HLO.out.box id) hn0
      have HL6 := Lib.hid (HLO.out.step own6 fm6 fr6)
      clear y0 y1 y2 f0 f2 yl
      have y0 := cell_at' hb6 0 rfl
      have f0 := free_at' hb6 0
      have yl := lt_of_block hb6
      clear hb6 hn0 own6 fm6 fr6
      go_wp2_with (first
        | (go_at_call 6; go_loud (refine (HRT.out _).mono ?_); rintro e w8 ⟨a8, c8, rfl, hf8⟩; have HL8 := Lib.hid (HL7.out.keep hf8); clear hf8)
        | (go_at_call 5; first
          | (have HL9 := HL8; go_loud (refine (HR0.out _).mono ?_); rintro e w9 ⟨a9, c9, rfl, hf9⟩; have HL9 := Lib.hid (HL8.out.keep hf9); clear hf9)
          | (refine (HR1.out _).mono ?_; rintro e w7 ⟨a7, c7, rfl, hf7⟩; have HL7 := Lib.hid (HL6.out.keep hf7); clear hf7 y0 f0 yl)))
      go_roundw
      case rel => exact ⟨k + 1, E + (1 + L1 + LT + L0), _, _, by omega, by go_num, rfl, by omega, by rw [HSN.out, ← HE.out], by omega, HL9.out⟩
      case measure => simp [intOf]; omega
    · obtain rfl : M = k := by omega
      clear hlt hk
      by_cases h0 : M = 0
      · subst h0
        have hp1 : LM = 1 := by rw [← HLM.out, show ((0 : Nat) : Int) = 0 from rfl, numB_nought]; rfl
        have hE0 : E = 0 := by omega
        subst hp1 hE0
        have HBY := Lib.hid (fun W (f : Frm NoS wr W) => pBytes_three W _ _ _ (⟨⟨⟨Rd.own (f.owns HLO.out.own fun _ _ => id), fun _ _ _ => trivial⟩, [], ⟨.inl ⟨none, rfl, rfl, rfl⟩, fun h => absurd rfl h⟩, rfl⟩, .inl ⟨none, rfl, rfl, rfl⟩⟩ : CauAt (fun _ => True) W (.slice aV 0 cV) (.slice none 0 0) (.slice none 0 0) [] .nil []))
        go_wp2_with (go_at_call 7; go_loud (refine (HBY.out _ (Frm.refl _ _)).mono ?_); rintro e w9 ⟨a9, c9, rfl, hf9⟩; have HF9 := Lib.hid hf9; clear hf9)
        go_ret
        exact ⟨rfl, HLO.out.frm.then1 HF9.out⟩
      · have hM0 : 0 < (M : Int) := by omega
        have hr := long_cau HLEN.out (k := M) (by omega) hM2
        have hok := long_ok HLEN.out (k := M) (by omega) hM2
        have hXL := long_size s M
        rw [HLM.out, ← HE.out] at hXL
        by_cases hX : (encX (longEs s M) .nil [(1, 1, (M : Int))]).length ≤ 60000
        · have HBY := Lib.hid (fun W ev kv cv h => pBytes_fits (longEs s M) .nil [(1, 1, (M : Int))] W ev kv cv h hok hr hX)
          generalize (encX (longEs s M) .nil [(1, 1, (M : Int))]).length = XL at *
          clear hr hok
          go_wp2_with (first
            | (go_at_call 5; go_loud (refine (HRM.out _).mono ?_); rintro e w8 ⟨a8, c8, rfl, hf8⟩; obtain ⟨hb8, hc8, hw8⟩ := HLO.out.last hf8; clear y0 y1 y2 f0 f2 yl; have y0 := cell_at' hb8 0 rfl; have y1 := cell_at' hb8 1 rfl; have y2 := cell_at' hb8 2 rfl; have yl := lt_of_block hb8; have HC8 := Lib.hid hc8; have HW8 := Lib.hid hw8; clear hf8 hb8 hc8 hw8)
            | (go_at_call 7; go_loud (refine (HBY.out _ _ _ _ HC8.out).mono ?_); rintro e w9 ⟨a9, c9, rfl, hf9⟩; clear y0 y1 y2 yl; have HW9 := Lib.hid (HW8.out.then1 hf9); clear hf9))
          go_ret
          exact ⟨by first | rfl | (congr 2; simp; omega), HW9.out⟩
        · have HBY := Lib.hid (fun W ev kv cv h => pBytes_over (longEs s M) .nil [(1, 1, (M : Int))] W ev kv cv h hok hr (by omega))
          generalize (encX (longEs s M) .nil [(1, 1, (M : Int))]).length = XL at *
          clear hr hok
          go_wp2_with (first
            | (go_at_call 5; go_loud (refine (HRM.out _).mono ?_); rintro e w8 ⟨a8, c8, rfl, hf8⟩; obtain ⟨hb8, hc8, hw8⟩ := HLO.out.last hf8; clear y0 y1 y2 f0 f2 yl; have y0 := cell_at' hb8 0 rfl; have y1 := cell_at' hb8 1 rfl; have y2 := cell_at' hb8 2 rfl; have yl := lt_of_block hb8; have HC8 := Lib.hid hc8; have HW8 := Lib.hid hw8; clear hf8 hb8 hc8 hw8)
            | (go_at_call 7; go_loud (refine (HBY.out _ _ _ _ HC8.out).mono ?_); rintro e w9 ⟨rfl, hf9⟩; clear y0 y1 y2 yl; have HW9 := Lib.hid (HW8.out.then1 hf9); clear hf9))
          go_ret
          exact ⟨by first | rfl | (congr 2; simp; omega), HW9.out⟩
end Go.Proofs.Ytafdclkpeomomaa
