/- Words for the law PackGets: CSame, Eq, TSame, R8Same, R9Same, VecEq. -/
import Derived.Test.YtggfoihfenlckaaGreatPackGetsG3
import Derived.Test.YtggfoihfenlckaaGreatPackGetsG9
import Derived.Test.YtggfoihfenlckaaGreatPackGetsG11
import Derived.ChangeKeysEq
set_option linter.unusedSimpArgs false
set_option linter.unusedVariables false
/- tributaryref07: Same: the walk. -/
namespace Go.Proofs.YtggfoihfenlckaaGreat
open Go.RowKit
/-- The first k spans are alike. -/
def LikeC (a b : CtxL) (k : Nat) : Prop := ∀ j, j < k → a.getD j (0, 0, 0) = b.getD j (0, 0, 0)
theorem LikeC.all {a b : CtxL} (hl : a.length = b.length) (h : LikeC a b a.length) : a = b := by
  refine List.ext_getElem hl fun j h1 h2 => ?_
  have := h j h1
  rwa [getD_at _ h1, getD_at _ h2] at this
theorem LikeC.step {a b : CtxL} {k : Nat} (h : LikeC a b k) (he : a.getD k (0, 0, 0) = b.getD k (0, 0, 0)) : LikeC a b (k + 1) := fun j hj => by
  rcases Nat.lt_succ_iff_lt_or_eq.1 hj with hj | rfl
  · exact h j hj
  · exact he
set_option maxHeartbeats 2000000 in
set_option maxRecDepth 1000000 in
theorem r7Same_any (w : World) (va vb : Value) (a b : CtxL) (ha : CtxAt w va a) (hb : CtxAt w vb b) (la : a.length ≤ 100000) (lb : b.length ≤ 100000) :
    Calls Tryz.prog 25 #[va, vb] w fun e w' => e = .returned (.bool (decide (a = b))) ∧ Frm NoS w w' := by
  obtain ⟨aA, cA, rfl⟩ := ha.sl
  obtain ⟨aB, cB, rfl⟩ := hb.sl
  by_cases hab : a.length = b.length
  rotate_left 1
  · have hne : decide (a = b) = false := by rw [decide_eq_false_iff_not]; intro h; exact hab (by rw [h])
    rw [hne]
    clear hne ha hb
    generalize a.length = n at *
    generalize b.length = m at *
    have hz : ((n : Int) == (m : Int)) = false := by simp; omega
    go_enter Tryz.func25, Tryz.ntmps25
    go_wp2
    go_ret
    exact ⟨rfl, Frm.refl _ _⟩
  have HAB := Lib.hid hab
  rw [← hab] at lb
  have hb2 : CtxAt w (.slice aB a.length cB) b := by rw [hab]; exact hb
  have HA := Lib.hid ha; clear ha
  have HB := Lib.hid hb2; clear hb hb2
  clear hab lb
  have hbl : b.length = a.length := HAB.out.symm
  rw [hbl]
  clear hbl
  generalize hn : a.length = n at *
  have HN := Lib.hid hn; clear hn
  go_enter Tryz.func25, Tryz.ntmps25
  go_wp2
  go_loopw [13] (fun i ww => ∃ k : Nat, k ≤ n ∧ i = .int .i64 k ∧ LikeC a b k ∧ Frm NoS w ww) (fun i _ => n - (intOf i).toNat)
  case atStart => exact ⟨0, Nat.zero_le _, rfl, (fun j hj => absurd hj (Nat.not_lt_zero _)), Frm.refl _ _⟩
  case round =>
    obtain ⟨k, hk, rfl, hlk, hf⟩ := hrel
    have HLK := Lib.hid hlk; clear hlk
    have HF := Lib.hid hf; clear hf
    by_cases hlt : k < n
    · have hka : k < a.length := by rw [HN.out]; exact hlt
      have hkb : k < b.length := by rw [← HAB.out]; exact hlt
      rcases Rd.shape HA.out with ⟨ad, he, h0⟩ | ⟨o1, off1, cc1, he, hmax⟩
      · exfalso; have := HN.out; omega
      rcases Rd.shape HB.out with ⟨ad, he2, h0⟩ | ⟨o2, off2, cc2, he2, hmax2⟩
      · exfalso; have := HN.out; have := HAB.out; omega
      injection he with e1 e2 e3
      injection he2 with e4 e5 e6
      subst e1 e3 e4 e6
      clear e2 e5
      obtain ⟨p0, p1, p2⟩ := spn_at HA.out (by rw [HN.out]) k hka
      obtain ⟨q0, q1, q2⟩ := spn_at HB.out HAB.out k hkb
      have p0 := HF.out.cell' p0 id
      have p1 := HF.out.cell' p1 id
      have p2 := HF.out.cell' p2 id
      have q0 := HF.out.cell' q0 id
      have q1 := HF.out.cell' q1 id
      have q2 := HF.out.cell' q2 id
      have hst : a.getD k (0, 0, 0) = b.getD k (0, 0, 0) → LikeC a b (k + 1) := HLK.out.step
      have HST := Lib.hid hst; clear hst
      have hno : a.getD k (0, 0, 0) ≠ b.getD k (0, 0, 0) → a ≠ b := fun h e => h (by rw [e])
      have HNO := Lib.hid hno; clear hno
      generalize a.getD k (0, 0, 0) = s at *
      generalize b.getD k (0, 0, 0) = t at *
      by_cases hst : s = t
      · subst hst
        go_wp2_with fail
        go_quiet (fail)
        go_wp2
        go_roundw
        case rel => exact ⟨k + 1, by omega, by go_num, HST.out (by trivial), HF.out.drewN1⟩
        case measure => simp [intOf]; omega
      · have HNE := Lib.hid (show false = decide (a = b) from by symm; rw [decide_eq_false_iff_not]; exact HNO.out hst)
        obtain ⟨s0, s1, s2⟩ := s
        obtain ⟨t0, t1, t2⟩ := t
        clear HST HNO
        dsimp only at p0 p1 p2 q0 q1 q2
        by_cases g0 : s0 = t0
        · subst g0
          by_cases g1 : s1 = t1
          · subst g1
            have g2 : s2 ≠ t2 := fun h => hst (by rw [h])
            clear hst
            have gb : ((s2 : Int) == t2) = false := by simpa using g2
            go_wp2_with fail
            go_quiet (fail)
            go_wp2
            go_ret
            exact ⟨ret_bool HNE.out, HF.out.drewN1⟩
          · clear hst
            have gb : ((s1 : Int) == t1) = false := by simpa using g1
            go_wp2_with fail
            go_quiet (fail)
            go_wp2
            go_ret
            exact ⟨ret_bool HNE.out, HF.out.drewN1⟩
        · clear hst
          have gb : ((s0 : Int) == t0) = false := by simpa using g0
          go_wp2_with fail
          go_quiet (fail)
          go_wp2
          go_ret
          exact ⟨ret_bool HNE.out, HF.out.drewN1⟩
    · obtain rfl : n = k := by omega
      have heq : decide (a = b) = true := by rw [decide_eq_true_iff]; exact LikeC.all (HN.out.trans HAB.out) (by rw [HN.out]; exact HLK.out)
      have HEQ := Lib.hid heq; clear heq
      go_wp2
      go_ret
      exact ⟨ret_bool HEQ.out.symm, HF.out⟩
end Go.Proofs.YtggfoihfenlckaaGreat
/- slices.Equal of spans and of entries: the walks. -/
namespace Go.Proofs.YtggfoihfenlckaaGreat
open Go.RowKit
/-- The first k entries are alike. -/
def LikeE (a b : List Ent) (k : Nat) : Prop := ∀ j, j < k → a.getD j Ent.zero = b.getD j Ent.zero
theorem LikeE.all {a b : List Ent} (hl : a.length = b.length) (h : LikeE a b a.length) : a = b := by
  refine List.ext_getElem hl fun j h1 h2 => ?_
  have := h j h1
  rwa [getD_at _ h1, getD_at _ h2] at this
theorem LikeE.step {a b : List Ent} {k : Nat} (h : LikeE a b k) (he : a.getD k Ent.zero = b.getD k Ent.zero) : LikeE a b (k + 1) := fun j hj => by
  rcases Nat.lt_succ_iff_lt_or_eq.1 hj with hj | rfl
  · exact h j hj
  · exact he
end Go.Proofs.YtggfoihfenlckaaGreat
/- tree: same: the walk, with slices.EqualFunc and the function that it is handed. -/
namespace Go.Proofs.YtggfoihfenlckaaGreat
open Go.RowKit
theorem ne_text {s t : ByteArray} (h : ¬ s = t) : ¬ s.toList = t.toList := fun e => h (by rw [ByteArray.toList_eq, ByteArray.toList_eq] at e; exact ByteArray.ext (Array.toList_inj.1 e))
/-- Two blocks of two cells, of three. -/
theorem pair2 (w : World) (a0 a1 b0 b1 : Value) (T : TypeId) (W : World) (f : Frm NoS ((w.alloc (.cells #[a0, a1] T)).alloc (.cells #[b0, b1] T)) W) :
    W.cell? ⟨w.heap.size, 0, none⟩ = some a0 ∧ W.cell? ⟨w.heap.size, 1, none⟩ = some a1 ∧ W.cell? ⟨w.heap.size + 1, 0, none⟩ = some b0 ∧ W.cell? ⟨w.heap.size + 1, 1, none⟩ = some b1 := by
  obtain ⟨h1, _, _⟩ := two_blocks w (.cells #[a0, a1] T) #[b0, b1] T
  have h0 : ((w.alloc (.cells #[a0, a1] T)).alloc (.cells #[b0, b1] T)).heap[w.heap.size]? = some (.cells #[a0, a1] T (0, 0)) := (Frm.alloc NoS _ _).blk (heap_alloc_new w _) id
  exact ⟨f.cell' (cell_at' h0 0 rfl) id, f.cell' (cell_at' h0 1 rfl) id, f.cell' (cell_at' h1 0 rfl) id, f.cell' (cell_at' h1 1 rfl) id⟩
theorem pair3 (w : World) (a0 a1 a2 b0 b1 b2 : Value) (T : TypeId) (W : World) (f : Frm NoS ((w.alloc (.cells #[a0, a1, a2] T)).alloc (.cells #[b0, b1, b2] T)) W) :
    W.cell? ⟨w.heap.size, 0, none⟩ = some a0 ∧ W.cell? ⟨w.heap.size, 1, none⟩ = some a1 ∧ W.cell? ⟨w.heap.size, 2, none⟩ = some a2 ∧ W.cell? ⟨w.heap.size + 1, 0, none⟩ = some b0 ∧ W.cell? ⟨w.heap.size + 1, 1, none⟩ = some b1 ∧ W.cell? ⟨w.heap.size + 1, 2, none⟩ = some b2 := by
  obtain ⟨h1, _, _⟩ := two_blocks w (.cells #[a0, a1, a2] T) #[b0, b1, b2] T
  have h0 : ((w.alloc (.cells #[a0, a1, a2] T)).alloc (.cells #[b0, b1, b2] T)).heap[w.heap.size]? = some (.cells #[a0, a1, a2] T (0, 0)) := (Frm.alloc NoS _ _).blk (heap_alloc_new w _) id
  exact ⟨f.cell' (cell_at' h0 0 rfl) id, f.cell' (cell_at' h0 1 rfl) id, f.cell' (cell_at' h0 2 rfl) id, f.cell' (cell_at' h1 0 rfl) id, f.cell' (cell_at' h1 1 rfl) id, f.cell' (cell_at' h1 2 rfl) id⟩
theorem kids_step {ks ks' : KidsL} {k : Nat} {key key' : ByteArray} {es es' : List Ent} {sub sub' rest rest' : KidsL} (h : ks.drop k = .cons key es sub rest) (h' : ks'.drop k = .cons key' es' sub' rest') :
    (ks.drop k = ks'.drop k) ↔ ((key = key' ∧ es = es' ∧ sub = sub') ∧ ks.drop (k + 1) = ks'.drop (k + 1)) := by
  rw [KidsL.drop_succ k ks h, KidsL.drop_succ k ks' h', h, h']
  constructor
  · intro e
    injection e with e1 e2 e3 e4
    exact ⟨⟨e1, e2, e3⟩, e4⟩
  · rintro ⟨⟨rfl, rfl, rfl⟩, rfl⟩
    rfl
end Go.Proofs.YtggfoihfenlckaaGreat
/- tributaryref08: Same: the walk. Printed by wip/r8samegen.py. -/
namespace Go.Proofs.YtggfoihfenlckaaGreat
open Go.RowKit
set_option maxHeartbeats 8000000 in
set_option maxRecDepth 1000000 in
theorem r8Same_any (Q Q' : Nat → Prop) : ∀ (N : Nat) (es : List Ent) (ks : KidsL) (es' : List Ent) (ks' : KidsL) (w : World) (ev kv ev' kv' : Value), sizeK ks < N → TreeAt Q w ev kv es ks → TreeAt Q' w ev' kv' es' ks' → sizeT es ks ≤ 100000 → sizeT es' ks' ≤ 100000 →
    Calls Tryz.prog 27 #[.agg #[ev, kv], .agg #[ev', kv']] w fun e w' => e = .returned (.bool (tf (es = es' ∧ ks = ks'))) ∧ Frm NoS w w' := by
  intro N
  induction N with
  | zero => intros; exfalso; omega
  | succ N IHN =>
    intro es ks es' ks' w ev kv ev' kv' hN ht ht' hsz hsz'
    obtain ⟨ae, ce, rfl⟩ := ht.ents.rd.sl
    obtain ⟨os, hkr, hfor⟩ := ht.kids
    obtain ⟨ak, ck, rfl⟩ := hkr.rd.sl
    obtain ⟨ae', ce', rfl⟩ := ht'.ents.rd.sl
    obtain ⟨os', hkr', hfor'⟩ := ht'.kids
    obtain ⟨ak', ck', rfl⟩ := hkr'.rd.sl
    have h1 : es.length ≤ 100000 := by unfold sizeT at hsz; omega
    have h2 : es'.length ≤ 100000 := by unfold sizeT at hsz'; omega
    have h3 : ks.len ≤ 100000 := by have := len_le_sizeK ks; unfold sizeT at hsz; omega
    have h4 : ks'.len ≤ 100000 := by have := len_le_sizeK ks'; unfold sizeT at hsz'; omega
    by_cases hle : es.length = es'.length
    rotate_left 1
    · rw [tf_false fun h => hle (by rw [h.1])]
      clear ht ht' hkr hkr' hfor hfor' IHN hN hsz hsz'
      generalize es.length = n at *
      generalize ks.len = m at *
      generalize es'.length = n' at *
      generalize ks'.len = m' at *
      have hz : ((n : Int) == (n' : Int)) = false := by simp; omega
      have HFB := Lib.hid ((Frm.alloc NoS w (.cells #[.slice ae n ce, .slice ak m ck] 35)).alloc1 (o := .cells #[.slice ae' n' ce', .slice ak' m' ck'] 35))
      go_enter Tryz.func27, Tryz.ntmps27
      go_wp2
      go_ret
      exact ⟨rfl, HFB.out⟩
    by_cases hlk : ks.len = ks'.len
    rotate_left 1
    · rw [tf_false fun h => hlk (by rw [h.2])]
      rw [← hle]
      clear ht ht' hkr hkr' hfor hfor' IHN hN hsz hsz' h2 hle
      generalize es.length = n at *
      generalize ks.len = m at *
      generalize ks'.len = m' at *
      have hz : ((m : Int) == (m' : Int)) = false := by simp; omega
      have HFB := Lib.hid ((Frm.alloc NoS w (.cells #[.slice ae n ce, .slice ak m ck] 35)).alloc1 (o := .cells #[.slice ae' n ce', .slice ak' m' ck'] 35))
      go_enter Tryz.func27, Tryz.ntmps27
      go_wp2
      go_ret
      exact ⟨rfl, HFB.out⟩
    have HE := Lib.hid ht.ents.rd
    have hE' := ht'.ents.rd
    have hK' := hkr'.rd
    rw [← hle] at hE' ⊢
    rw [← hlk] at hK' ⊢
    have HE' := Lib.hid hE'; clear hE'
    have HKR := Lib.hid hkr.rd
    have HKR' := Lib.hid hK'; clear hK'
    have HFOR := Lib.hid hfor; clear hfor
    have HFOR' := Lib.hid hfor'; clear hfor'
    have HLE := Lib.hid hle.symm; clear hle
    have HLK := Lib.hid hlk.symm; clear hlk
    have IH := Lib.hid IHN; clear IHN
    have HSZ := Lib.hid hsz; clear hsz
    have HSZ' := Lib.hid hsz'; clear hsz'
    have HNN := Lib.hid hN; clear hN
    clear ht ht' hkr hkr' h2 h4
    generalize hes : es.length = n at *
    have HN := Lib.hid hes; clear hes
    generalize hkl : ks.len = m at *
    have HM := Lib.hid hkl; clear hkl
    have HFB := Lib.hid ((Frm.alloc NoS w (.cells #[.slice ae n ce, .slice ak m ck] 35)).alloc1 (o := .cells #[.slice ae' n ce', .slice ak' m ck'] 35))
    have HBX := Lib.hid (pair2 w (.slice ae n ce) (.slice ak m ck) (.slice ae' n ce') (.slice ak' m ck') 35)
    go_enter Tryz.func27, Tryz.ntmps27
    go_wp2
    go_loopw [26] (fun i ww => ∃ k : Nat, k ≤ n ∧ i = .int .i64 k ∧ LikeE es es' k ∧ Frm NoS ((w.alloc (.cells #[.slice ae n ce, .slice ak m ck] 35)).alloc (.cells #[.slice ae' n ce', .slice ak' m ck'] 35)) ww) (fun i _ => n - (intOf i).toNat)
    case atStart => exact ⟨0, Nat.zero_le _, rfl, (fun j hj => absurd hj (Nat.not_lt_zero _)), Frm.refl _ _⟩
    case round =>
      obtain ⟨k, hk, rfl, hlk, hw⟩ := hrel
      have HLI := Lib.hid hlk; clear hlk
      have HW := Lib.hid hw; clear hw
      obtain ⟨b0, b1, b2, b3⟩ := HBX.out wr HW.out
      by_cases hlt : k < n
      · rcases Rd.shape HE.out with ⟨ad, he, h0⟩ | ⟨e1, off1, cc1, he, hmax⟩
        · exfalso; omega
        rcases Rd.shape HE'.out with ⟨ad, he2, h0⟩ | ⟨e2, off2, cc2, he2, hmax2⟩
        · exfalso; omega
        injection he with g1 g2 g3
        injection he2 with g4 g5 g6
        subst g1 g3 g4 g6
        clear g2 g5
        obtain ⟨p0, p1, p2, p3⟩ := ent_at HE.out k (by rw [HN.out]; exact hlt)
        obtain ⟨q0, q1, q2, q3⟩ := ent_at HE'.out k (by rw [HLE.out]; exact hlt)
        have hfw := HFB.out.then1 HW.out
        have p0 := hfw.cell' p0 id
        have p1 := hfw.cell' p1 id
        have p2 := hfw.cell' p2 id
        have p3 := hfw.cell' p3 id
        have q0 := hfw.cell' q0 id
        have q1 := hfw.cell' q1 id
        have q2 := hfw.cell' q2 id
        have q3 := hfw.cell' q3 id
        clear hfw
        have HST := Lib.hid (show es.getD k Ent.zero = es'.getD k Ent.zero → LikeE es es' (k + 1) from HLI.out.step)
        have HNO := Lib.hid (show es.getD k Ent.zero ≠ es'.getD k Ent.zero → ¬ (es = es' ∧ ks = ks') from fun h e => h (by rw [e.1]))
        generalize es.getD k Ent.zero = s at *
        generalize es'.getD k Ent.zero = t at *
        by_cases hst : s = t
        · subst hst
          go_wp2_with fail
          go_quiet (fail)
          go_wp2
          go_roundw
          case rel => exact ⟨k + 1, by omega, by go_num, HST.out (by trivial), HW.out.drewN1⟩
          case measure => simp [intOf]; omega
        · have HNE := Lib.hid (show false = tf (es = es' ∧ ks = ks') from (tf_false (HNO.out hst)).symm)
          obtain ⟨s0, s1, s2, s3⟩ := s
          obtain ⟨t0, t1, t2, t3⟩ := t
          clear HST HNO
          dsimp only at p0 p1 p2 p3 q0 q1 q2 q3
          by_cases g0 : s0 = t0
          · subst g0
            by_cases g1 : s1 = t1
            · subst g1
              by_cases g2 : s2 = t2
              · subst g2
                have g3 : s3 ≠ t3 := fun h => hst (by rw [h])
                clear hst
                have gb : ((s3 : Int) == t3) = false := by simpa using g3
                go_wp2_with fail
                go_quiet (fail)
                go_wp2
                go_ret
                exact ⟨ret_bool HNE.out, HFB.out.then1 HW.out.drewN1⟩
              · clear hst
                have gb := ne_text g2
                go_wp2_with fail
                go_quiet (fail)
                go_wp2
                go_ret
                exact ⟨ret_bool HNE.out, HFB.out.then1 HW.out.drewN1⟩
            · clear hst
              have gb : ((s1 : Int) == t1) = false := by simpa using g1
              go_wp2_with fail
              go_quiet (fail)
              go_wp2
              go_ret
              exact ⟨ret_bool HNE.out, HFB.out.then1 HW.out.drewN1⟩
          · clear hst
            have gb : ((s0 : Int) == t0) = false := by simpa using g0
            go_wp2_with fail
            go_quiet (fail)
            go_wp2
            go_ret
            exact ⟨ret_bool HNE.out, HFB.out.then1 HW.out.drewN1⟩
      · obtain rfl : n = k := by omega
        have hee : es = es' := LikeE.all (HN.out.trans HLE.out.symm) (by rw [HN.out]; exact HLI.out)
        have HEE := Lib.hid hee; clear hee
        go_wp2
        clear b0 b1 b2 b3
        go_loopw [44] (fun i ww => ∃ k : Nat, k ≤ m ∧ i = .int .i64 k ∧ (ks = ks' ↔ ks.drop k = ks'.drop k) ∧ Frm NoS ((w.alloc (.cells #[.slice ae n ce, .slice ak m ck] 35)).alloc (.cells #[.slice ae' n ce', .slice ak' m ck'] 35)) ww) (fun i _ => m - (intOf i).toNat)
        case atStart => exact ⟨0, Nat.zero_le _, rfl, Iff.rfl, HW.out⟩
        case round =>
          obtain ⟨k, hk, rfl, hiff, hwk⟩ := hrel
          have HIF := Lib.hid hiff; clear hiff
          have HWK := Lib.hid hwk; clear hwk
          by_cases hlt : k < m
          · obtain ⟨key, es0, sub, rest, hdr⟩ := KidsL.drop_some (n := k) (ks := ks) (by rw [HM.out]; exact hlt)
            obtain ⟨key', es0', sub', rest', hdr'⟩ := KidsL.drop_some (n := k) (ks := ks') (by rw [HLK.out]; exact hlt)
            rcases Rd.shape HKR.out with ⟨ad, he, h0⟩ | ⟨e1, off1, cc1, he, hmax⟩
            · exfalso; omega
            rcases Rd.shape HKR'.out with ⟨ad, he2, h0⟩ | ⟨e2, off2, cc2, he2, hmax2⟩
            · exfalso; omega
            injection he with g1 g2 g3
            injection he2 with g4 g5 g6
            subst g1 g3 g4 g6
            clear g2 g5
            have hfw := HFB.out.then1 HWK.out
            obtain ⟨ev0, kv0, p0, p1, p2, hta⟩ := kid_at (HKR.out.keep0 hfw) (HFOR.out.keep0 hfw) hdr
            obtain ⟨ev1, kv1, q0, q1, q2, htb⟩ := kid_at (HKR'.out.keep0 hfw) (HFOR'.out.keep0 hfw) hdr'
            clear hfw
            have hss := size_sub k hdr
            have hst1 := sizeT_sub k hdr
            have hst2 := sizeT_sub k hdr'
            have HC := Lib.hid (fun W (f : Frm NoS wr W) => IH.out es0 sub es0' sub' W ev0 kv0 ev1 kv1 (by have := HNN.out; omega) (hta.keep0 f) (htb.keep0 f) (by have := HSZ.out; unfold sizeT at *; omega) (by have := HSZ'.out; unfold sizeT at *; omega))
            have HST := Lib.hid (kids_step hdr hdr')
            obtain ⟨a0, c0, rfl⟩ := hta.ents.rd.sl
            obtain ⟨o3, hk3, -⟩ := hta.kids
            obtain ⟨a1, c1, rfl⟩ := hk3.rd.sl
            obtain ⟨a0', c0', rfl⟩ := htb.ents.rd.sl
            obtain ⟨o4, hk4, -⟩ := htb.kids
            obtain ⟨a1', c1', rfl⟩ := hk4.rd.sl
            clear hk3 hk4 hta htb hdr hdr' hss hst1 hst2
            generalize es0.length = n0 at *
            generalize sub.len = m0 at *
            generalize es0'.length = n1 at *
            generalize sub'.len = m1 at *
            obtain ⟨α, hne, K, hK1, hK0, hK2⟩ := worlds wr
            have kb := fun s => HBX.out (K s) (HWK.out.then1 (hK1 s))
            have k0 := fun s => (kb s).1
            have k1 := fun s => (kb s).2.1
            have k2 := fun s => (kb s).2.2.1
            have k3 := fun s => (kb s).2.2.2
            have r0 := fun s => (hK1 s).cell' p0 id
            have r1 := fun s => (hK1 s).cell' p1 id
            have r2 := fun s => (hK1 s).cell' p2 id
            have t0 := fun s => (hK1 s).cell' q0 id
            have t1 := fun s => (hK1 s).cell' q1 id
            have t2 := fun s => (hK1 s).cell' q2 id
            clear kb p0 p1 p2 q0 q1 q2
            have HFK := Lib.hid (fun s => HWK.out.then1 (hK1 s))
            have HK1 := Lib.hid hK1
            by_cases hkey : key = key'
            · by_cases hsub : es0 = es0' ∧ sub = sub'
              · rw [tf_true hsub] at HC
                have HY := Lib.hid (show key = key' ∧ es0 = es0' ∧ sub = sub' from ⟨hkey, hsub⟩)
                subst hkey
                clear hsub
                go_wp2_with fail
                refine wp_region_new K (by kernel_rfl) (by kernel_rfl) hK0 ?_
                repeat (go_big_quiet_step ((go_at_call 27; exact Calls.in_class hK2 (HC.out _ (HK1.out _)))))
                refine wpQuiet_nil ?_
                intro w' hw'
                obtain ⟨s, rfl⟩ := hw'
                go_wp2
                go_roundw
                case rel => exact ⟨k + 1, by omega, by go_num, HIF.out.trans (HST.out.trans ⟨fun h => h.2, fun h => ⟨⟨by trivial, HY.out.2⟩, h⟩⟩), HFK.out s⟩
                case measure => simp [intOf]; omega
              · rw [tf_false hsub] at HC
                have HY := Lib.hid (show ¬ (es = es' ∧ ks = ks') from fun h => hsub (HST.out.1 (HIF.out.1 h.2)).1.2)
                subst hkey
                clear hsub
                go_wp2_with fail
                refine wp_region_new K (by kernel_rfl) (by kernel_rfl) hK0 ?_
                repeat (go_big_quiet_step ((go_at_call 27; exact Calls.in_class hK2 (HC.out _ (HK1.out _)))))
                refine wpQuiet_nil ?_
                intro w' hw'
                obtain ⟨s, rfl⟩ := hw'
                go_wp2
                go_ret
                exact ⟨ret_bool (tf_false HY.out).symm, HFB.out.then1 (HFK.out s)⟩
            · have HY := Lib.hid (show ¬ (es = es' ∧ ks = ks') from fun h => hkey (HST.out.1 (HIF.out.1 h.2)).1.1)
              have gb := ne_text hkey
              have gc : (key.toList == key'.toList) = false := by simpa using gb
              go_wp2_with fail
              refine wp_region_new K (by kernel_rfl) (by kernel_rfl) hK0 ?_
              repeat (go_big_quiet_step ((go_at_call 27; exact Calls.in_class hK2 (HC.out _ (HK1.out _)))))
              refine wpQuiet_nil ?_
              intro w' hw'
              obtain ⟨s, rfl⟩ := hw'
              go_wp2
              go_ret
              exact ⟨ret_bool (tf_false HY.out).symm, HFB.out.then1 (HFK.out s)⟩
          · obtain rfl : m = k := by omega
            have hkk : ks = ks' := HIF.out.2 (by rw [KidsL.drop_none (by rw [HM.out]; exact Nat.le_refl _), KidsL.drop_none (by rw [HLK.out]; exact Nat.le_refl _)])
            have HKK := Lib.hid hkk; clear hkk
            go_wp2
            go_ret
            exact ⟨ret_bool (tf_true ⟨HEE.out, HKK.out⟩).symm, HFB.out.then1 HWK.out⟩
end Go.Proofs.YtggfoihfenlckaaGreat
/- tributaryref09: Same: the walk. -/
namespace Go.Proofs.YtggfoihfenlckaaGreat
open Go.RowKit
set_option maxHeartbeats 4000000 in
set_option maxRecDepth 1000000 in
theorem r9Same_any (Q Q' : Nat → Prop) (es : List Ent) (ks : KidsL) (c : CtxL) (es' : List Ent) (ks' : KidsL) (c' : CtxL) (w : World) (ev kv cv ev' kv' cv' : Value) (h : CauAt Q w ev kv cv es ks c) (hok : CauOk es ks c) (h' : CauAt Q' w ev' kv' cv' es' ks' c') (hok' : CauOk es' ks' c') :
    Calls Tryz.prog 29 #[.agg #[ev, kv, cv], .agg #[ev', kv', cv']] w fun e w' => e = .returned (.bool (tf ((es = es' ∧ ks = ks') ∧ c = c'))) ∧ Frm NoS w w' := by
  obtain ⟨a0, c0, a1, c1, a2, c2, rfl, rfl, rfl⟩ := h.shape
  obtain ⟨b0, d0, b1, d1, b2, d2, rfl, rfl, rfl⟩ := h'.shape
  have HT := Lib.hid (fun W (f : Frm NoS w W) => r8Same_any Q Q' _ es ks es' ks' W _ _ _ _ (Nat.lt_succ_self _) (h.tree.keep0 f) (h'.tree.keep0 f) (Nat.le_trans hok.small (by decide)) (Nat.le_trans hok'.small (by decide)))
  have hde : decide (c = c') = tf (c = c') := tf_bool (by rw [decide_eq_true_iff])
  have HC := Lib.hid (fun W (f : Frm NoS w W) => hde ▸ r7Same_any W _ _ c c' (Rd.keep0 h.ctx f) (Rd.keep0 h'.ctx f) (Nat.le_trans hok.len (by decide)) (Nat.le_trans hok'.len (by decide)))
  clear h hok h' hok' hde
  by_cases r3 : es = es' ∧ ks = ks'
  rotate_left 1
  · rw [tf_false r3] at HT
    rw [tf_false fun h => r3 h.1]
    clear r3 HC
    generalize es.length = n at *
    generalize ks.len = m at *
    generalize c.length = k at *
    generalize es'.length = n' at *
    generalize ks'.len = m' at *
    generalize c'.length = k' at *
    have HFB := Lib.hid ((Frm.alloc NoS w (.cells #[.slice a0 n c0, .slice a1 m c1, .slice a2 k c2] 37)).alloc1 (o := .cells #[.slice b0 n' d0, .slice b1 m' d1, .slice b2 k' d2] 37))
    have HBX := Lib.hid (pair3 w (.slice a0 n c0) (.slice a1 m c1) (.slice a2 k c2) (.slice b0 n' d0) (.slice b1 m' d1) (.slice b2 k' d2) 37)
    go_enter Tryz.func29, Tryz.ntmps29
    go_wp2_with (first
      | (go_at_call 27; go_loud (refine (HT.out _ HFB.out).mono ?_; rintro e w1 ⟨rfl, hw1⟩; obtain ⟨y0, y1, y2, y3, y4, y5⟩ := HBX.out w1 hw1; have HW1 := Lib.hid hw1; clear hw1)))
    go_ret
    exact ⟨rfl, HFB.out.then1 HW1.out⟩
  rw [tf_true r3] at HT
  have hall : tf ((es = es' ∧ ks = ks') ∧ c = c') = tf (c = c') := tf_congr ⟨fun h => h.2, fun h => ⟨r3, h⟩⟩
  rw [hall]
  clear hall r3
  generalize tf (c = c') = y at *
  generalize es.length = n at *
  generalize ks.len = m at *
  generalize c.length = k at *
  generalize es'.length = n' at *
  generalize ks'.len = m' at *
  generalize c'.length = k' at *
  have HFB := Lib.hid ((Frm.alloc NoS w (.cells #[.slice a0 n c0, .slice a1 m c1, .slice a2 k c2] 37)).alloc1 (o := .cells #[.slice b0 n' d0, .slice b1 m' d1, .slice b2 k' d2] 37))
  have HBX := Lib.hid (pair3 w (.slice a0 n c0) (.slice a1 m c1) (.slice a2 k c2) (.slice b0 n' d0) (.slice b1 m' d1) (.slice b2 k' d2) 37)
  go_enter Tryz.func29, Tryz.ntmps29
  go_wp2_with (first
    | (go_at_call 27; go_loud (refine (HT.out _ HFB.out).mono ?_; rintro e w1 ⟨rfl, hw1⟩; obtain ⟨y0, y1, y2, y3, y4, y5⟩ := HBX.out w1 hw1; have HW1 := Lib.hid hw1; clear hw1))
    | (go_at_call 25; go_loud (refine (HC.out _ (HFB.out.then1 HW1.out)).mono ?_; rintro e w2 ⟨rfl, hw2⟩; have HW2 := Lib.hid (HW1.out.then1 hw2); clear hw2)))
  go_ret
  exact ⟨rfl, HFB.out.then1 HW2.out⟩
end Go.Proofs.YtggfoihfenlckaaGreat
/- Two vectors compared. -/
namespace Go.Proofs.YtggfoihfenlckaaGreat
open Go.RowKit
theorem Tryz.vec_cells : Tryz.prog.cellsOf 2 = 1 := by kernel_rfl
theorem i64_eql (d : Nat) (a b : Int) (W : World) : (Op.equalIn (d + 1) 2 (.int .i64 a) (.int .i64 b)).run Tryz.prog W = .ok (a == b) W := by
  simp [Op.equalIn, run_underlying Tryz.underlying2]
theorem part_i64 (xs : Array Value) (k : Nat) (v : Value) (h : xs[k]? = some v) (W : World) : (part 2 xs k).run Tryz.prog W = .ok v W := by
  obtain ⟨i0, hi, hz0, hz1, hz2⟩ := info_parts info_i64
  simp [part, go_sem, h]
theorem items_step (d : Nat) (xs ys : Array Value) (i : Nat) (is : List Nat) (a b : Int) (hx : xs[i]? = some (.int .i64 a)) (hy : ys[i]? = some (.int .i64 b)) (W : World) :
    (Op.eqItems (d + 1) 2 1 xs ys (i :: is)).run Tryz.prog W = if a = b then (Op.eqItems (d + 1) 2 1 xs ys is).run Tryz.prog W else .ok false W := by
  have h1 := part_i64 xs i _ hx
  have h2 := part_i64 ys i _ hy
  rw [Op.eqItems]
  simp only [Sem.run_bind, Nat.mul_one, h1, h2, Result.andThen_ok, i64_eql]
  by_cases h : a = b
  · rw [if_pos h]; subst h; simp
  · rw [if_neg h]
    have : (a == b) = false := by simpa using h
    rw [this]; simp
set_option maxRecDepth 100000 in
theorem vec_equal (a0 a1 a2 a3 b0 b1 b2 b3 : Int) (W : World) : (Op.equal 42 (.agg #[.int .i64 a0, .int .i64 a1, .int .i64 a2, .int .i64 a3]) (.agg #[.int .i64 b0, .int .i64 b1, .int .i64 b2, .int .i64 b3])).run Tryz.prog W = .ok ((a0 == b0) && ((a1 == b1) && ((a2 == b2) && (a3 == b3)))) W := by
  obtain ⟨i0, hi, hz0, hz1, hz2⟩ := info_parts info_i64
  unfold Op.equal
  obtain ⟨d, hd⟩ : ∃ d, Op.maxDepth = d + 1 + 1 := ⟨Op.maxDepth - 2, rfl⟩
  rw [hd, run_equalIn_array (d := d + 1) (hu := Tryz.underlying42) (hi := hi), Tryz.vec_cells, show List.range 4 = [0, 1, 2, 3] from rfl]
  rw [items_step d _ _ 0 _ a0 b0 rfl rfl, items_step d _ _ 1 _ a1 b1 rfl rfl, items_step d _ _ 2 _ a2 b2 rfl rfl, items_step d _ _ 3 _ a3 b3 rfl rfl]
  by_cases h0 : a0 = b0 <;> by_cases h1 : a1 = b1 <;> by_cases h2 : a2 = b2 <;> by_cases h3 : a3 = b3 <;> simp [h0, h1, h2, h3, Op.eqItems]
theorem vec_eql (a0 a1 a2 a3 b0 b1 b2 b3 : Int) (W : World) : (binOp .eql 42 (.agg #[.int .i64 a0, .int .i64 a1, .int .i64 a2, .int .i64 a3]) (.agg #[.int .i64 b0, .int .i64 b1, .int .i64 b2, .int .i64 b3])).run Tryz.prog W = .ok (.bool ((a0 == b0) && ((a1 == b1) && ((a2 == b2) && (a3 == b3))))) W := by
  simp [binOp, vec_equal]
theorem vec_same (a0 a1 a2 a3 : Int) (W : World) : (binOp .eql 42 (.agg #[.int .i64 a0, .int .i64 a1, .int .i64 a2, .int .i64 a3]) (.agg #[.int .i64 a0, .int .i64 a1, .int .i64 a2, .int .i64 a3])).run Tryz.prog W = .ok (.bool true) W := by
  rw [vec_eql]; simp
end Go.Proofs.YtggfoihfenlckaaGreat