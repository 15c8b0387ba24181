/- Words for the law BundleSame: Eq, TSame, Same1, Same2, R8Same, Same3, CloneF2. -/
import Derived.Test.YtclfajhdonabhaaGreatBundleReadyG18
import Derived.Test.YtclfajhdonabhaaGreatBundleReadyG8
import Derived.Test.YtclfajhdonabhaaGreatBundleReadyG13
import Derived.Test.YtclfajhdonabhaaGreatBundleReadyG16
import Derived.Test.YtclfajhdonabhaaGreatBundleReadyG24
import Derived.Test.YtclfajhdonabhaaGreatBundleReadyG9
set_option linter.unusedSimpArgs false
set_option linter.unusedVariables false
/- slices.Equal of spans and of entries: the walks. -/
namespace Go.Proofs.YtclfajhdonabhaaGreat
open Go.RowKit

/-- The first k entries are alike. -/
def LikeE (a b : List Ent) (k : Nat) : Prop := ∀ j, j < k → a.getD j Ent.zero = b.getD j Ent.zero
theorem LikeE.all {a b : List Ent} (hl : a.length = b.length) (h : LikeE a b a.length) : a = b := by
  refine List.ext_getElem hl fun j h1 h2 => ?_
  have := h j h1
  rwa [getD_at _ h1, getD_at _ h2] at this
theorem LikeE.step {a b : List Ent} {k : Nat} (h : LikeE a b k) (he : a.getD k Ent.zero = b.getD k Ent.zero) : LikeE a b (k + 1) := fun j hj => by
  rcases Nat.lt_succ_iff_lt_or_eq.1 hj with hj | rfl
  · exact h j hj
  · exact he
set_option maxHeartbeats 2000000 in
set_option maxRecDepth 1000000 in
theorem spEq_any (w : World) (va vb : Value) (a b : CtxL) (ha : CtxAt w va a) (hb : CtxAt w vb b) (la : a.length ≤ 100000) (lb : b.length ≤ 100000) :
    Calls Tryz.prog 88 #[va, vb] w fun e w' => e = .returned (.bool (decide (a = b))) ∧ Frm NoS w w' := by
  obtain ⟨aA, cA, rfl⟩ := ha.sl
  obtain ⟨aB, cB, rfl⟩ := hb.sl
  by_cases hab : a.length = b.length
  rotate_left 1
  · have hne : decide (a = b) = false := by rw [decide_eq_false_iff_not]; intro h; exact hab (by rw [h])
    rw [hne]
    clear hne ha hb
    generalize a.length = n at *
    generalize b.length = m at *
    have hz : ((n : Int) == (m : Int)) = false := by simp; omega
    go_enter Tryz.func88, Tryz.ntmps88
    go_wp2
    go_ret
    exact ⟨rfl, Frm.refl _ _⟩
  have HAB := Lib.hid hab
  rw [← hab] at lb
  have hb2 : CtxAt w (.slice aB a.length cB) b := by rw [hab]; exact hb
  have HA := Lib.hid ha; clear ha
  have HB := Lib.hid hb2; clear hb hb2
  clear hab lb
  have hbl : b.length = a.length := HAB.out.symm
  rw [hbl]
  clear hbl
  generalize hn : a.length = n at *
  have HN := Lib.hid hn; clear hn
  go_enter Tryz.func88, Tryz.ntmps88
  go_wp2
  go_loopw [13] (fun i ww => ∃ k : Nat, k ≤ n ∧ i = .int .i64 k ∧ LikeC a b k ∧ Frm NoS w ww) (fun i _ => n - (intOf i).toNat)
  case atStart => exact ⟨0, Nat.zero_le _, rfl, (fun j hj => absurd hj (Nat.not_lt_zero _)), Frm.refl _ _⟩
  case round =>
    obtain ⟨k, hk, rfl, hlk, hf⟩ := hrel
    have HLK := Lib.hid hlk; clear hlk
    have HF := Lib.hid hf; clear hf
    by_cases hlt : k < n
    · have hka : k < a.length := by rw [HN.out]; exact hlt
      have hkb : k < b.length := by rw [← HAB.out]; exact hlt
      rcases Rd.shape HA.out with ⟨ad, he, h0⟩ | ⟨o1, off1, cc1, he, hmax⟩
      · exfalso; have := HN.out; omega
      rcases Rd.shape HB.out with ⟨ad, he2, h0⟩ | ⟨o2, off2, cc2, he2, hmax2⟩
      · exfalso; have := HN.out; have := HAB.out; omega
      injection he with e1 e2 e3
      injection he2 with e4 e5 e6
      subst e1 e3 e4 e6
      clear e2 e5
      obtain ⟨p0, p1, p2⟩ := spn_at HA.out (by rw [HN.out]) k hka
      obtain ⟨q0, q1, q2⟩ := spn_at HB.out HAB.out k hkb
      have p0 := HF.out.cell' p0 id
      have p1 := HF.out.cell' p1 id
      have p2 := HF.out.cell' p2 id
      have q0 := HF.out.cell' q0 id
      have q1 := HF.out.cell' q1 id
      have q2 := HF.out.cell' q2 id
      have hst : a.getD k (0, 0, 0) = b.getD k (0, 0, 0) → LikeC a b (k + 1) := HLK.out.step
      have HST := Lib.hid hst; clear hst
      have hno : a.getD k (0, 0, 0) ≠ b.getD k (0, 0, 0) → a ≠ b := fun h e => h (by rw [e])
      have HNO := Lib.hid hno; clear hno
      generalize a.getD k (0, 0, 0) = s at *
      generalize b.getD k (0, 0, 0) = t at *
      by_cases hst : s = t
      · subst hst
        go_wp2_with fail
        go_quiet (fail)
        go_wp2
        go_roundw
        case rel => exact ⟨k + 1, by omega, by go_num, HST.out (by trivial), HF.out.drewN1⟩
        case measure => simp [intOf]; omega
      · have HNE := Lib.hid (show false = decide (a = b) from by symm; rw [decide_eq_false_iff_not]; exact HNO.out hst)
        obtain ⟨s0, s1, s2⟩ := s
        obtain ⟨t0, t1, t2⟩ := t
        clear HST HNO
        dsimp only at p0 p1 p2 q0 q1 q2
        by_cases g0 : s0 = t0
        · subst g0
          by_cases g1 : s1 = t1
          · subst g1
            have g2 : s2 ≠ t2 := fun h => hst (by rw [h])
            clear hst
            have gb : ((s2 : Int) == t2) = false := by simpa using g2
            go_wp2_with fail
            go_quiet (fail)
            go_wp2
            go_ret
            exact ⟨ret_bool HNE.out, HF.out.drewN1⟩
          · clear hst
            have gb : ((s1 : Int) == t1) = false := by simpa using g1
            go_wp2_with fail
            go_quiet (fail)
            go_wp2
            go_ret
            exact ⟨ret_bool HNE.out, HF.out.drewN1⟩
        · clear hst
          have gb : ((s0 : Int) == t0) = false := by simpa using g0
          go_wp2_with fail
          go_quiet (fail)
          go_wp2
          go_ret
          exact ⟨ret_bool HNE.out, HF.out.drewN1⟩
    · obtain rfl : n = k := by omega
      have heq : decide (a = b) = true := by rw [decide_eq_true_iff]; exact LikeC.all (HN.out.trans HAB.out) (by rw [HN.out]; exact HLK.out)
      have HEQ := Lib.hid heq; clear heq
      go_wp2
      go_ret
      exact ⟨ret_bool HEQ.out.symm, HF.out⟩
set_option maxHeartbeats 2000000 in
set_option maxRecDepth 1000000 in
theorem enEq_any (w : World) (va vb : Value) (a b : List Ent) (ha : Rd w va a.length (entC a)) (hb : Rd w vb b.length (entC b)) (la : a.length ≤ 100000) (lb : b.length ≤ 100000) :
    Calls Tryz.prog 102 #[va, vb] w fun e w' => e = .returned (.bool (tf (a = b))) ∧ Frm NoS w w' := by
  obtain ⟨aA, cA, rfl⟩ := ha.sl
  obtain ⟨aB, cB, rfl⟩ := hb.sl
  by_cases hab : a.length = b.length
  rotate_left 1
  · have hne : tf (a = b) = false := by exact tf_false fun h => hab (by rw [h])
    rw [hne]
    clear hne ha hb
    generalize a.length = n at *
    generalize b.length = m at *
    have hz : ((n : Int) == (m : Int)) = false := by simp; omega
    go_enter Tryz.func102, Tryz.ntmps102
    go_wp2
    go_ret
    exact ⟨rfl, Frm.refl _ _⟩
  have HAB := Lib.hid hab
  rw [← hab] at lb
  have hb2 : Rd w (.slice aB a.length cB) a.length (entC b) := by rw [hab]; exact hb
  have HA := Lib.hid ha; clear ha
  have HB := Lib.hid hb2; clear hb hb2
  clear hab lb
  have hbl : b.length = a.length := HAB.out.symm
  rw [hbl]
  clear hbl
  generalize hn : a.length = n at *
  have HN := Lib.hid hn; clear hn
  go_enter Tryz.func102, Tryz.ntmps102
  go_wp2
  go_loopw [13] (fun i ww => ∃ k : Nat, k ≤ n ∧ i = .int .i64 k ∧ LikeE a b k ∧ Frm NoS w ww) (fun i _ => n - (intOf i).toNat)
  case atStart => exact ⟨0, Nat.zero_le _, rfl, (fun j hj => absurd hj (Nat.not_lt_zero _)), Frm.refl _ _⟩
  case round =>
    obtain ⟨k, hk, rfl, hlk, hf⟩ := hrel
    have HLK := Lib.hid hlk; clear hlk
    have HF := Lib.hid hf; clear hf
    by_cases hlt : k < n
    · have hka : k < a.length := by rw [HN.out]; exact hlt
      have hkb : k < b.length := by rw [← HAB.out]; exact hlt
      rcases Rd.shape HA.out with ⟨ad, he, h0⟩ | ⟨o1, off1, cc1, he, hmax⟩
      · exfalso; have := HN.out; omega
      rcases Rd.shape HB.out with ⟨ad, he2, h0⟩ | ⟨o2, off2, cc2, he2, hmax2⟩
      · exfalso; have := HN.out; have := HAB.out; omega
      injection he with e1 e2 e3
      injection he2 with e4 e5 e6
      subst e1 e3 e4 e6
      clear e2 e5
      obtain ⟨p0, p1, p2, p3⟩ := ent_at HA.out k hka
      obtain ⟨q0, q1, q2, q3⟩ := ent_at HB.out k hkb
      have p0 := HF.out.cell' p0 id
      have p1 := HF.out.cell' p1 id
      have p2 := HF.out.cell' p2 id
      have p3 := HF.out.cell' p3 id
      have q0 := HF.out.cell' q0 id
      have q1 := HF.out.cell' q1 id
      have q2 := HF.out.cell' q2 id
      have q3 := HF.out.cell' q3 id
      have hst : a.getD k Ent.zero = b.getD k Ent.zero → LikeE a b (k + 1) := HLK.out.step
      have HST := Lib.hid hst; clear hst
      have hno : a.getD k Ent.zero ≠ b.getD k Ent.zero → a ≠ b := fun h e => h (by rw [e])
      have HNO := Lib.hid hno; clear hno
      generalize a.getD k Ent.zero = s at *
      generalize b.getD k Ent.zero = t at *
      by_cases hst : s = t
      · subst hst
        go_wp2_with fail
        go_quiet (fail)
        go_wp2
        go_roundw
        case rel => exact ⟨k + 1, by omega, by go_num, HST.out (by trivial), HF.out.drewN1⟩
        case measure => simp [intOf]; omega
      · have HNE := Lib.hid (show false = tf (a = b) from (tf_false (HNO.out hst)).symm)
        obtain ⟨s0, s1, s2, s3⟩ := s
        obtain ⟨t0, t1, t2, t3⟩ := t
        clear HST HNO
        dsimp only at p0 p1 p2 p3 q0 q1 q2 q3
        by_cases g0 : s0 = t0
        · subst g0
          by_cases g1 : s1 = t1
          · subst g1
            by_cases g2 : s2 = t2
            · subst g2
              have g3 : s3 ≠ t3 := fun h => hst (by rw [h])
              clear hst
              have gb : ((s3 : Int) == t3) = false := by simpa using g3
              go_wp2_with fail
              go_quiet (fail)
              go_wp2
              go_ret
              exact ⟨ret_bool HNE.out, HF.out.drewN1⟩
            · clear hst
              have gb : ¬ s2.toList = t2.toList := fun h => g2 (by rw [ByteArray.toList_eq, ByteArray.toList_eq] at h; exact ByteArray.ext (Array.toList_inj.1 h))
              go_wp2_with fail
              go_quiet (fail)
              go_wp2
              go_ret
              exact ⟨ret_bool HNE.out, HF.out.drewN1⟩
          · clear hst
            have gb : ((s1 : Int) == t1) = false := by simpa using g1
            go_wp2_with fail
            go_quiet (fail)
            go_wp2
            go_ret
            exact ⟨ret_bool HNE.out, HF.out.drewN1⟩
        · clear hst
          have gb : ((s0 : Int) == t0) = false := by simpa using g0
          go_wp2_with fail
          go_quiet (fail)
          go_wp2
          go_ret
          exact ⟨ret_bool HNE.out, HF.out.drewN1⟩
    · obtain rfl : n = k := by omega
      have heq : tf (a = b) = true := tf_true (LikeE.all (HN.out.trans HAB.out) (by rw [HN.out]; exact HLK.out))
      have HEQ := Lib.hid heq; clear heq
      go_wp2
      go_ret
      exact ⟨ret_bool HEQ.out.symm, HF.out⟩
end Go.Proofs.YtclfajhdonabhaaGreat

/- tree: same: the walk, with slices.EqualFunc and the function that it is handed. -/
namespace Go.Proofs.YtclfajhdonabhaaGreat
open Go.RowKit

theorem ne_text {s t : ByteArray} (h : ¬ s = t) : ¬ s.toList = t.toList := fun e => h (by rw [ByteArray.toList_eq, ByteArray.toList_eq] at e; exact ByteArray.ext (Array.toList_inj.1 e))
/-- Two blocks of two cells, of three. -/
theorem pair2 (w : World) (a0 a1 b0 b1 : Value) (T : TypeId) (W : World) (f : Frm NoS ((w.alloc (.cells #[a0, a1] T)).alloc (.cells #[b0, b1] T)) W) :
    W.cell? ⟨w.heap.size, 0, none⟩ = some a0 ∧ W.cell? ⟨w.heap.size, 1, none⟩ = some a1 ∧ W.cell? ⟨w.heap.size + 1, 0, none⟩ = some b0 ∧ W.cell? ⟨w.heap.size + 1, 1, none⟩ = some b1 := by
  obtain ⟨h1, _, _⟩ := two_blocks w (.cells #[a0, a1] T) #[b0, b1] T
  have h0 : ((w.alloc (.cells #[a0, a1] T)).alloc (.cells #[b0, b1] T)).heap[w.heap.size]? = some (.cells #[a0, a1] T (0, 0)) := (Frm.alloc NoS _ _).blk (heap_alloc_new w _) id
  exact ⟨f.cell' (cell_at' h0 0 rfl) id, f.cell' (cell_at' h0 1 rfl) id, f.cell' (cell_at' h1 0 rfl) id, f.cell' (cell_at' h1 1 rfl) id⟩
theorem pair3 (w : World) (a0 a1 a2 b0 b1 b2 : Value) (T : TypeId) (W : World) (f : Frm NoS ((w.alloc (.cells #[a0, a1, a2] T)).alloc (.cells #[b0, b1, b2] T)) W) :
    W.cell? ⟨w.heap.size, 0, none⟩ = some a0 ∧ W.cell? ⟨w.heap.size, 1, none⟩ = some a1 ∧ W.cell? ⟨w.heap.size, 2, none⟩ = some a2 ∧ W.cell? ⟨w.heap.size + 1, 0, none⟩ = some b0 ∧ W.cell? ⟨w.heap.size + 1, 1, none⟩ = some b1 ∧ W.cell? ⟨w.heap.size + 1, 2, none⟩ = some b2 := by
  obtain ⟨h1, _, _⟩ := two_blocks w (.cells #[a0, a1, a2] T) #[b0, b1, b2] T
  have h0 : ((w.alloc (.cells #[a0, a1, a2] T)).alloc (.cells #[b0, b1, b2] T)).heap[w.heap.size]? = some (.cells #[a0, a1, a2] T (0, 0)) := (Frm.alloc NoS _ _).blk (heap_alloc_new w _) id
  exact ⟨f.cell' (cell_at' h0 0 rfl) id, f.cell' (cell_at' h0 1 rfl) id, f.cell' (cell_at' h0 2 rfl) id, f.cell' (cell_at' h1 0 rfl) id, f.cell' (cell_at' h1 1 rfl) id, f.cell' (cell_at' h1 2 rfl) id⟩
set_option maxHeartbeats 2000000 in
set_option maxRecDepth 1000000 in
theorem tsame1_of (key key' : ByteArray) (b : Bool) (W : World) (a0 a1 b0 b1 : Option Addr) (n m n' m' c0 c1 d0 d1 : Nat)
    (HT : ∀ W', Frm NoS W W' → Calls Tryz.prog 87 #[.agg #[.slice a0 n c0, .slice a1 m c1], .agg #[.slice b0 n' d0, .slice b1 m' d1]] W' fun e w' => e = .returned (.bool b) ∧ Frm NoS W' w') :
    Calls Tryz.prog 104 #[.agg #[.string key, .slice a0 n c0, .slice a1 m c1], .agg #[.string key', .slice b0 n' d0, .slice b1 m' d1]] W fun e w' => e = .returned (.bool (tf (key = key') && b)) ∧ Frm NoS W w' := by
  have HTT := Lib.hid HT; clear HT
  have HF := Lib.hid ((Frm.alloc NoS W (.cells #[.string key, .slice a0 n c0, .slice a1 m c1] 76)).alloc1 (o := .cells #[.string key', .slice b0 n' d0, .slice b1 m' d1] 76))
  by_cases hk : key = key'
  · subst hk
    rw [tf_true rfl, Bool.true_and]
    go_enter Tryz.func104, Tryz.ntmps104
    go_wp2_with (go_at_call 87; go_loud (refine (HTT.out _ HF.out).mono ?_); rintro e w1 ⟨rfl, hw1⟩; have HW1 := Lib.hid (HF.out.then1 hw1); clear hw1)
    go_ret
    exact ⟨rfl, HW1.out⟩
  · rw [tf_false hk, Bool.false_and]
    have hne := ne_text hk
    clear hk
    go_enter Tryz.func104, Tryz.ntmps104
    go_wp2
    go_ret
    exact ⟨rfl, HF.out⟩
theorem kids_step {ks ks' : KidsL} {k : Nat} {key key' : ByteArray} {es es' : List Ent} {sub sub' rest rest' : KidsL} (h : ks.drop k = .cons key es sub rest) (h' : ks'.drop k = .cons key' es' sub' rest') :
    (ks.drop k = ks'.drop k) ↔ ((key = key' ∧ es = es' ∧ sub = sub') ∧ ks.drop (k + 1) = ks'.drop (k + 1)) := by
  rw [KidsL.drop_succ k ks h, KidsL.drop_succ k ks' h', h, h']
  constructor
  · intro e
    injection e with e1 e2 e3 e4
    exact ⟨⟨e1, e2, e3⟩, e4⟩
  · rintro ⟨⟨rfl, rfl, rfl⟩, rfl⟩
    rfl
set_option maxHeartbeats 4000000 in
set_option maxRecDepth 1000000 in
theorem kidEq_any (Q Q' : Nat → Prop) (ks ks' : KidsL) (w : World) (kv kv' : Value) (os os' : List (Value × Value)) (h : Rd w kv ks.len (kidC ks os)) (hf : ForAt Q w ks os) (h' : Rd w kv' ks'.len (kidC ks' os')) (hf' : ForAt Q' w ks' os') (hl : ks.len ≤ 100000) (hl' : ks'.len ≤ 100000)
    (HG : ∀ n key es sub rest key' es' sub' rest', ks.drop n = .cons key es sub rest → ks'.drop n = .cons key' es' sub' rest' → ∀ W ev kv ev' kv', TreeAt Q W ev kv es sub → TreeAt Q' W ev' kv' es' sub' →
      Calls Tryz.prog 104 #[.agg #[.string key, ev, kv], .agg #[.string key', ev', kv']] W fun e w' => e = .returned (.bool (tf (key = key' ∧ es = es' ∧ sub = sub'))) ∧ Frm NoS W w') :
    Calls Tryz.prog 103 #[kv, kv', .func (.func 104) #[] #[]] w fun e w' => e = .returned (.bool (tf (ks = ks'))) ∧ Frm NoS w w' := by
  have eg : ∀ args w, (callFunc 104 args).run Tryz.prog w = .ok (.enter 104 args) w := enters_of Tryz.func104 (by kernel_rfl) rfl
  obtain ⟨a0, c0, rfl⟩ := h.sl
  obtain ⟨a1, c1, rfl⟩ := h'.sl
  have HKR := Lib.hid h; clear h
  have HFOR := Lib.hid hf; clear hf
  have HKR' := Lib.hid h'; clear h'
  have HFOR' := Lib.hid hf'; clear hf'
  have HGG := Lib.hid HG; clear HG
  by_cases hlen : ks.len = ks'.len
  rotate_left 1
  · rw [tf_false fun e => hlen (by rw [e])]
    clear HKR HFOR HKR' HFOR' HGG eg
    generalize ks.len = n at *
    generalize ks'.len = m at *
    have hz : ((n : Int) == (m : Int)) = false := by simp; omega
    go_enter Tryz.func103, Tryz.ntmps103
    go_wp2
    go_ret
    exact ⟨rfl, Frm.refl _ _⟩
  have HLEN := Lib.hid hlen.symm
  rw [← hlen] at HKR' ⊢
  clear hlen hl'
  generalize hkl : ks.len = m at *
  have HM := Lib.hid hkl; clear hkl
  go_enter Tryz.func103, Tryz.ntmps103
  go_wp2
  go_loopw [17] (fun i ww => ∃ k : Nat, k ≤ m ∧ i = .int .i64 k ∧ (ks = ks' ↔ ks.drop k = ks'.drop k) ∧ Frm NoS w ww) (fun i _ => m - (intOf i).toNat)
  case atStart => exact ⟨0, Nat.zero_le _, rfl, Iff.rfl, Frm.refl _ _⟩
  case round =>
    obtain ⟨k, hk, rfl, he, hw⟩ := hrel
    have HE := Lib.hid he; clear he
    have HW := Lib.hid hw; clear hw
    by_cases hlt : k < m
    · obtain ⟨key, es, sub, rest, hdr⟩ := KidsL.drop_some (n := k) (ks := ks) (by rw [HM.out]; exact hlt)
      obtain ⟨key', es', sub', rest', hdr'⟩ := KidsL.drop_some (n := k) (ks := ks') (by rw [HLEN.out]; exact hlt)
      rcases Rd.shape HKR.out with ⟨ad, he, h0⟩ | ⟨b, off, cc, he, hmax⟩
      · exfalso; omega
      rcases Rd.shape HKR'.out with ⟨ad, he2, h0⟩ | ⟨b2, off2, cc2, he2, hmax2⟩
      · exfalso; omega
      injection he with e1 e2 e3
      injection he2 with e4 e5 e6
      subst e1 e3 e4 e6
      clear e2 e5
      obtain ⟨ev, kv, p0, p1, p2, hta⟩ := kid_at (HKR.out.keep0 HW.out) (HFOR.out.keep0 HW.out) hdr
      obtain ⟨ev', kv', q0, q1, q2, htb⟩ := kid_at (HKR'.out.keep0 HW.out) (HFOR'.out.keep0 HW.out) hdr'
      have HC := Lib.hid (fun W (f : Frm NoS wr W) => HGG.out k key es sub rest key' es' sub' rest' hdr hdr' W ev kv ev' kv' (hta.keep0 f) (htb.keep0 f))
      have HST := Lib.hid (kids_step hdr hdr')
      obtain ⟨ae, ce, rfl⟩ := hta.ents.rd.sl
      obtain ⟨o3, hk3, -⟩ := hta.kids
      obtain ⟨ak, ck, rfl⟩ := hk3.rd.sl
      obtain ⟨ae', ce', rfl⟩ := htb.ents.rd.sl
      obtain ⟨o4, hk4, -⟩ := htb.kids
      obtain ⟨ak', ck', rfl⟩ := hk4.rd.sl
      clear hk3 hk4 hta htb hdr hdr'
      generalize es.length = n0 at *
      generalize sub.len = m0 at *
      generalize es'.length = n1 at *
      generalize sub'.len = m1 at *
      have HFB := Lib.hid ((Frm.alloc NoS wr (.cells #[.string key, .slice ae n0 ce, .slice ak m0 ck] 76)).alloc1 (o := .cells #[.string key', .slice ae' n1 ce', .slice ak' m1 ck'] 76))
      have hbl1 : b < wr.heap.size := World.block_lt_of_cell? _ _ p0
      have hbl2 : b2 < wr.heap.size := World.block_lt_of_cell? _ _ q0
      by_cases hy : key = key' ∧ es = es' ∧ sub = sub'
      · rw [tf_true hy] at HC
        have HY := Lib.hid hy; clear hy
        go_wp2_with (go_at_call 104; go_loud (refine (HC.out _ HFB.out).mono ?_); rintro e w1 ⟨rfl, hw1⟩; have HW1 := Lib.hid (HFB.out.then1 hw1); clear hw1)
        go_roundw
        case rel => exact ⟨k + 1, by omega, by go_num, HE.out.trans (HST.out.trans ⟨fun h => h.2, fun h => ⟨HY.out, h⟩⟩), HW.out.then1 HW1.out⟩
        case measure => simp [intOf]; omega
      · rw [tf_false hy] at HC
        have HY := Lib.hid hy; clear hy
        go_wp2_with (go_at_call 104; go_loud (refine (HC.out _ HFB.out).mono ?_); rintro e w1 ⟨rfl, hw1⟩; have HW1 := Lib.hid (HFB.out.then1 hw1); clear hw1)
        go_ret
        exact ⟨ret_bool (tf_false fun h => HY.out (HST.out.1 (HE.out.1 h)).1).symm, HW.out.then1 HW1.out⟩
    · obtain rfl : m = k := by omega
      have hend : ks = ks' := HE.out.2 (by rw [KidsL.drop_none (by rw [HM.out]; exact Nat.le_refl _), KidsL.drop_none (by rw [HLEN.out]; exact Nat.le_refl _)])
      have HEND := Lib.hid hend; clear hend
      go_wp2
      go_ret
      exact ⟨ret_bool (tf_true HEND.out).symm, HW.out⟩
set_option maxHeartbeats 4000000 in
set_option maxRecDepth 1000000 in
theorem tsame_any (Q Q' : Nat → Prop) : ∀ (N : Nat) (es : List Ent) (ks : KidsL) (es' : List Ent) (ks' : KidsL) (w : World) (ev kv ev' kv' : Value), sizeK ks < N → TreeAt Q w ev kv es ks → TreeAt Q' w ev' kv' es' ks' → sizeT es ks ≤ 100000 → sizeT es' ks' ≤ 100000 →
    Calls Tryz.prog 87 #[.agg #[ev, kv], .agg #[ev', kv']] w fun e w' => e = .returned (.bool (tf (es = es' ∧ ks = ks'))) ∧ Frm NoS w w' := by
  intro N
  induction N with
  | zero => intros; exfalso; omega
  | succ N IHN =>
    intro es ks es' ks' w ev kv ev' kv' hN ht ht' hsz hsz'
    obtain ⟨ae, ce, rfl⟩ := ht.ents.rd.sl
    obtain ⟨os, hkr, hfor⟩ := ht.kids
    obtain ⟨ak, ck, rfl⟩ := hkr.rd.sl
    obtain ⟨ae', ce', rfl⟩ := ht'.ents.rd.sl
    obtain ⟨os', hkr', hfor'⟩ := ht'.kids
    obtain ⟨ak', ck', rfl⟩ := hkr'.rd.sl
    have h1 : es.length ≤ 100000 := by unfold sizeT at hsz; omega
    have h2 : es'.length ≤ 100000 := by unfold sizeT at hsz'; omega
    have h3 : ks.len ≤ 100000 := by have := len_le_sizeK ks; unfold sizeT at hsz; omega
    have h4 : ks'.len ≤ 100000 := by have := len_le_sizeK ks'; unfold sizeT at hsz'; omega
    have HEN := Lib.hid (fun W (f : Frm NoS w W) => enEq_any W _ _ es es' (ht.ents.rd.keep0 f) (ht'.ents.rd.keep0 f) h1 h2)
    have HKE := Lib.hid (fun W (f : Frm NoS w W) => kidEq_any Q Q' ks ks' W _ _ os os' (hkr.rd.keep0 f) (hfor.keep0 f) (hkr'.rd.keep0 f) (hfor'.keep0 f) h3 h4 (fun n key es0 sub rest key' es0' sub' rest' hd hd' W ev kv ev' kv' hta htb => by
      obtain ⟨a0, c0, rfl⟩ := hta.ents.rd.sl
      obtain ⟨o3, hk3, _⟩ := hta.kids
      obtain ⟨a1, c1, rfl⟩ := hk3.rd.sl
      obtain ⟨b0, d0, rfl⟩ := htb.ents.rd.sl
      obtain ⟨o4, hk4, _⟩ := htb.kids
      obtain ⟨b1, d1, rfl⟩ := hk4.rd.sl
      have hss := size_sub n hd
      have hst := sizeT_sub n hd
      have hst' := sizeT_sub n hd'
      have := tsame1_of key key' (tf (es0 = es0' ∧ sub = sub')) W _ _ _ _ _ _ _ _ _ _ _ _ fun W' f => IHN es0 sub es0' sub' W' _ _ _ _ (by omega) (hta.keep0 f) (htb.keep0 f) (by unfold sizeT at *; omega) (by unfold sizeT at *; omega)
      have he : (tf (key = key') && tf (es0 = es0' ∧ sub = sub')) = tf (key = key' ∧ es0 = es0' ∧ sub = sub') := by
        rw [Bool.eq_iff_iff]; simp only [Bool.and_eq_true, tf_iff]
      rw [he] at this
      exact this))
    clear hkr hkr' hfor hfor' ht ht' IHN hN hsz hsz' h1 h2 h3 h4
    have HFB := Lib.hid ((Frm.alloc NoS w (.cells #[.slice ae es.length ce, .slice ak ks.len ck] 27)).alloc1 (o := .cells #[.slice ae' es'.length ce', .slice ak' ks'.len ck'] 27))
    have HBX := Lib.hid (pair2 w (.slice ae es.length ce) (.slice ak ks.len ck) (.slice ae' es'.length ce') (.slice ak' ks'.len ck') 27)
    by_cases hy : es = es'
    · rw [tf_true hy] at HEN
      have hall : tf (es = es' ∧ ks = ks') = tf (ks = ks') := tf_congr ⟨fun h => h.2, fun h => ⟨hy, h⟩⟩
      rw [hall]
      clear hall hy
      generalize tf (ks = ks') = b at *
      generalize es.length = n at *
      generalize ks.len = m at *
      generalize es'.length = n' at *
      generalize ks'.len = m' at *
      go_enter Tryz.func87, Tryz.ntmps87
      go_wp2_with (first
        | (go_at_call 102; go_loud (refine (HEN.out _ HFB.out).mono ?_); rintro e w1 ⟨rfl, hw1⟩; obtain ⟨y0, y1, y2, y3⟩ := HBX.out w1 hw1; have HW1 := Lib.hid (HFB.out.then1 hw1); clear hw1)
        | (go_at_call 103; go_loud (refine (HKE.out _ HW1.out).mono ?_); rintro e w2 ⟨rfl, hw2⟩; have HW2 := Lib.hid (HW1.out.then1 hw2); clear hw2))
      go_ret
      exact ⟨rfl, HW2.out⟩
    · rw [tf_false hy] at HEN
      rw [tf_false fun h => hy h.1]
      clear hy HKE
      generalize es.length = n at *
      generalize ks.len = m at *
      generalize es'.length = n' at *
      generalize ks'.len = m' at *
      go_enter Tryz.func87, Tryz.ntmps87
      go_wp2_with (go_at_call 102; go_loud (refine (HEN.out _ HFB.out).mono ?_); rintro e w1 ⟨rfl, hw1⟩; have HW1 := Lib.hid (HFB.out.then1 hw1); clear hw1)
      go_ret
      exact ⟨rfl, HW1.out⟩
end Go.Proofs.YtclfajhdonabhaaGreat

/- tree: Same; context: Same; causal: Same: the walks. Printed by wip/samegen.py. -/
namespace Go.Proofs.YtclfajhdonabhaaGreat
open Go.RowKit

set_option maxRecDepth 100000 in
theorem cSame_ok (w : World) (va vb : Value) (a b : CtxL) (ha : CtxAt w va a) (hb : CtxAt w vb b) (ra : RightC a) (rb : RightC b) (la : a.length ≤ 20000) (lb : b.length ≤ 20000) :
    Calls Tryz.prog 62 #[va, vb] w fun e w' => e = .returned (.bool (tf (a = b))) ∧ Frm NoS w w' := by
  obtain ⟨aA, cA, rfl⟩ := ha.sl
  obtain ⟨aB, cB, rfl⟩ := hb.sl
  have HRA := Lib.hid (tf_true ra ▸ cRight_any w _ a ha ra.fits (by omega))
  have HRB := Lib.hid (fun W (f : Frm NoS w W) => tf_true rb ▸ cRight_any W _ b (Rd.keep0 hb f) rb.fits (by omega))
  have HEQ := Lib.hid (fun W (f : Frm NoS w W) => spEq_any W _ _ a b (Rd.keep0 ha f) (Rd.keep0 hb f) (by omega) (by omega))
  have hde : decide (a = b) = tf (a = b) := tf_bool (by rw [decide_eq_true_iff])
  rw [hde] at HEQ
  clear ha hb ra rb la lb hde
  generalize tf (a = b) = y at *
  generalize a.length = n at *
  generalize b.length = m at *
  go_enter Tryz.func62, Tryz.ntmps62
  go_wp2_with (first
    | (go_at_call_of 77 aA; go_loud (refine HRA.out.mono ?_); rintro e w1 ⟨rfl, hw1⟩; have HW1 := Lib.hid hw1; clear hw1)
    | (go_at_call_of 77 aB; go_loud (refine (HRB.out _ HW1.out).mono ?_); rintro e w2 ⟨rfl, hw2⟩; have HW2 := Lib.hid (HW1.out.then1 hw2); clear hw2)
    | (go_at_call 88; go_loud (refine (HEQ.out _ HW2.out).mono ?_); rintro e w3 ⟨rfl, hw3⟩; have HW3 := Lib.hid (HW2.out.then1 hw3); clear hw3))
  go_ret
  exact ⟨rfl, HW3.out⟩
set_option maxRecDepth 100000 in
theorem tSame_ok (Q Q' : Nat → Prop) (es : List Ent) (ks : KidsL) (es' : List Ent) (ks' : KidsL) (w : World) (ev kv ev' kv' : Value) (ht : TreeAt Q w ev kv es ks) (hok : TrOk es ks) (hr : rightT 5 es ks = true) (hs : sizeT es ks ≤ 4000)
    (ht' : TreeAt Q' w ev' kv' es' ks') (hok' : TrOk es' ks') (hr' : rightT 5 es' ks' = true) (hs' : sizeT es' ks' ≤ 4000) :
    Calls Tryz.prog 61 #[.agg #[ev, kv], .agg #[ev', kv']] w fun e w' => e = .returned (.bool (tf (es = es' ∧ ks = ks'))) ∧ Frm NoS w w' := by
  have HA := Lib.hid (fun W (f : Frm NoS w W) => hr ▸ tRight_any Q es ks W _ _ (ht.keep0 f) hok)
  have HB := Lib.hid (fun W (f : Frm NoS w W) => hr' ▸ tRight_any Q' es' ks' W _ _ (ht'.keep0 f) hok')
  have HS := Lib.hid (fun W (f : Frm NoS w W) => tsame_any Q Q' _ es ks es' ks' W _ _ _ _ (Nat.lt_succ_self _) (ht.keep0 f) (ht'.keep0 f) (by omega) (by omega))
  obtain ⟨ae, ce, rfl⟩ := ht.ents.rd.sl
  obtain ⟨os, hkr, -⟩ := ht.kids
  obtain ⟨ak, ck, rfl⟩ := hkr.rd.sl
  obtain ⟨ae', ce', rfl⟩ := ht'.ents.rd.sl
  obtain ⟨os', hkr', -⟩ := ht'.kids
  obtain ⟨ak', ck', rfl⟩ := hkr'.rd.sl
  clear hkr hkr' ht ht' hok hok' hr hr' hs hs'
  generalize tf (es = es' ∧ ks = ks') = y at *
  generalize es.length = n at *
  generalize ks.len = m at *
  generalize es'.length = n' at *
  generalize ks'.len = m' at *
  have HFB := Lib.hid ((Frm.alloc NoS w (.cells #[.slice ae n ce, .slice ak m ck] 27)).alloc1 (o := .cells #[.slice ae' n' ce', .slice ak' m' ck'] 27))
  have HBX := Lib.hid (pair2 w (.slice ae n ce) (.slice ak m ck) (.slice ae' n' ce') (.slice ak' m' ck') 27)
  go_enter Tryz.func61, Tryz.ntmps61
  go_wp2_with (first
    | (go_at_call 87; go_loud (refine (HS.out _ (HFB.out.then1 HW2.out)).mono ?_); rintro e w3 ⟨rfl, hw3⟩; have HW3 := Lib.hid ((HFB.out.then1 HW2.out).then1 hw3); clear hw3)
    | (go_at_call 74; first
      | (refine (HB.out _ (HFB.out.then1 HW1.out)).mono ?_; rintro e w2 ⟨rfl, hw2⟩; clear y0 y1 y2 y3; obtain ⟨y0, y1, y2, y3⟩ := HBX.out w2 (HW1.out.then1 hw2); have HW2 := Lib.hid (HW1.out.then1 hw2); clear hw2)
      | (refine (HA.out _ HFB.out).mono ?_; rintro e w1 ⟨rfl, hw1⟩; obtain ⟨y0, y1, y2, y3⟩ := HBX.out w1 hw1; have HW1 := Lib.hid hw1; clear hw1)))
  go_ret
  exact ⟨rfl, HW3.out⟩
set_option maxHeartbeats 4000000 in
set_option maxRecDepth 1000000 in
theorem caSame_any (Q Q' : Nat → Prop) (es : List Ent) (ks : KidsL) (c : CtxL) (es' : List Ent) (ks' : KidsL) (c' : CtxL) (w : World) (ev kv cv ev' kv' cv' : Value) (h : CauAt Q w ev kv cv es ks c) (hok : CauOk es ks c) (h' : CauAt Q' w ev' kv' cv' es' ks' c') (hok' : CauOk es' ks' c') :
    Calls Tryz.prog 39 #[.agg #[ev, kv, cv], .agg #[ev', kv', cv']] w fun e w' => e = .returned (.bool (tf (CauRight es ks c ∧ CauRight es' ks' c' ∧ (es = es' ∧ ks = ks') ∧ c = c'))) ∧ Frm NoS w w' := by
  obtain ⟨a0, c0, a1, c1, a2, c2, rfl, rfl, rfl⟩ := h.shape
  obtain ⟨b0, d0, b1, d1, b2, d2, rfl, rfl, rfl⟩ := h'.shape
  have HA := Lib.hid (fun W (f : Frm NoS w W) => caRight_any Q es ks c W _ _ _ (h.keep0 f) hok)
  have HB := Lib.hid (fun W (f : Frm NoS w W) => caRight_any Q' es' ks' c' W _ _ _ (h'.keep0 f) hok')
  have HT := Lib.hid (fun W (f : Frm NoS w W) r r' => tSame_ok Q Q' es ks es' ks' W _ _ _ _ (h.tree.keep0 f) hok.tree r (Nat.le_trans hok.small (by decide)) (h'.tree.keep0 f) hok'.tree r' (Nat.le_trans hok'.small (by decide)))
  have HC := Lib.hid (fun W (f : Frm NoS w W) r r' => cSame_ok W _ _ c c' (Rd.keep0 h.ctx f) (Rd.keep0 h'.ctx f) r r' (Nat.le_trans hok.len (by decide)) (Nat.le_trans hok'.len (by decide)))
  clear h hok h' hok'
  by_cases r1 : CauRight es ks c
  rotate_left 1
  · rw [tf_false r1] at HA
    rw [tf_false fun h => r1 h.1]
    clear r1 HB HT HC
    generalize es.length = n at *
    generalize ks.len = m at *
    generalize c.length = k at *
    generalize es'.length = n' at *
    generalize ks'.len = m' at *
    generalize c'.length = k' at *
    have HFB := Lib.hid ((Frm.alloc NoS w (.cells #[.slice a0 n c0, .slice a1 m c1, .slice a2 k c2] 31)).alloc1 (o := .cells #[.slice b0 n' d0, .slice b1 m' d1, .slice b2 k' d2] 31))
    have HBX := Lib.hid (pair3 w (.slice a0 n c0) (.slice a1 m c1) (.slice a2 k c2) (.slice b0 n' d0) (.slice b1 m' d1) (.slice b2 k' d2) 31)
    go_enter Tryz.func39, Tryz.ntmps39
    go_wp2_with (first
      | (go_at_call 48; refine (HA.out _ HFB.out).mono ?_; rintro e w1 ⟨rfl, hw1⟩; obtain ⟨y0, y1, y2, y3, y4, y5⟩ := HBX.out w1 hw1; have HW1 := Lib.hid hw1; clear hw1))
    go_ret
    exact ⟨rfl, HFB.out.then1 HW1.out⟩
  by_cases r2 : CauRight es' ks' c'
  rotate_left 1
  · rw [tf_true r1] at HA
    rw [tf_false r2] at HB
    rw [tf_false fun h => r2 h.2.1]
    clear r1 r2 HT HC
    generalize es.length = n at *
    generalize ks.len = m at *
    generalize c.length = k at *
    generalize es'.length = n' at *
    generalize ks'.len = m' at *
    generalize c'.length = k' at *
    have HFB := Lib.hid ((Frm.alloc NoS w (.cells #[.slice a0 n c0, .slice a1 m c1, .slice a2 k c2] 31)).alloc1 (o := .cells #[.slice b0 n' d0, .slice b1 m' d1, .slice b2 k' d2] 31))
    have HBX := Lib.hid (pair3 w (.slice a0 n c0) (.slice a1 m c1) (.slice a2 k c2) (.slice b0 n' d0) (.slice b1 m' d1) (.slice b2 k' d2) 31)
    go_enter Tryz.func39, Tryz.ntmps39
    go_wp2_with (first
      | (go_at_call 48; first | (refine (HB.out _ (HFB.out.then1 HW1.out)).mono ?_; rintro e w2 ⟨rfl, hw2⟩; clear y0 y1 y2 y3 y4 y5; obtain ⟨y0, y1, y2, y3, y4, y5⟩ := HBX.out w2 (HW1.out.then1 hw2); have HW2 := Lib.hid (HW1.out.then1 hw2); clear hw2) | (refine (HA.out _ HFB.out).mono ?_; rintro e w1 ⟨rfl, hw1⟩; obtain ⟨y0, y1, y2, y3, y4, y5⟩ := HBX.out w1 hw1; have HW1 := Lib.hid hw1; clear hw1)))
    go_ret
    exact ⟨rfl, HFB.out.then1 HW2.out⟩
  rw [tf_true r1] at HA
  rw [tf_true r2] at HB
  have HT := Lib.hid (fun W f => HT.out W f r1.tree r2.tree)
  have HC := Lib.hid (fun W f => HC.out W f r1.ctx r2.ctx)
  by_cases r3 : es = es' ∧ ks = ks'
  rotate_left 1
  · rw [tf_false r3] at HT
    rw [tf_false fun h => r3 h.2.2.1]
    clear r1 r2 r3 HC
    generalize es.length = n at *
    generalize ks.len = m at *
    generalize c.length = k at *
    generalize es'.length = n' at *
    generalize ks'.len = m' at *
    generalize c'.length = k' at *
    have HFB := Lib.hid ((Frm.alloc NoS w (.cells #[.slice a0 n c0, .slice a1 m c1, .slice a2 k c2] 31)).alloc1 (o := .cells #[.slice b0 n' d0, .slice b1 m' d1, .slice b2 k' d2] 31))
    have HBX := Lib.hid (pair3 w (.slice a0 n c0) (.slice a1 m c1) (.slice a2 k c2) (.slice b0 n' d0) (.slice b1 m' d1) (.slice b2 k' d2) 31)
    go_enter Tryz.func39, Tryz.ntmps39
    go_wp2_with (first
      | (go_at_call 48; first | (refine (HB.out _ (HFB.out.then1 HW1.out)).mono ?_; rintro e w2 ⟨rfl, hw2⟩; clear y0 y1 y2 y3 y4 y5; obtain ⟨y0, y1, y2, y3, y4, y5⟩ := HBX.out w2 (HW1.out.then1 hw2); have HW2 := Lib.hid (HW1.out.then1 hw2); clear hw2) | (refine (HA.out _ HFB.out).mono ?_; rintro e w1 ⟨rfl, hw1⟩; obtain ⟨y0, y1, y2, y3, y4, y5⟩ := HBX.out w1 hw1; have HW1 := Lib.hid hw1; clear hw1))
      | (go_at_call 61; go_loud (refine (HT.out _ (HFB.out.then1 HW2.out)).mono ?_; rintro e w3 ⟨rfl, hw3⟩; clear y0 y1 y2 y3 y4 y5; obtain ⟨y0, y1, y2, y3, y4, y5⟩ := HBX.out w3 (HW2.out.then1 hw3); have HW3 := Lib.hid (HW2.out.then1 hw3); clear hw3)))
    go_ret
    exact ⟨rfl, HFB.out.then1 HW3.out⟩
  rw [tf_true r3] at HT
  have hall : tf (CauRight es ks c ∧ CauRight es' ks' c' ∧ (es = es' ∧ ks = ks') ∧ c = c') = tf (c = c') := tf_congr ⟨fun h => h.2.2.2, fun h => ⟨r1, r2, r3, h⟩⟩
  rw [hall]
  clear hall r1 r2 r3
  generalize tf (c = c') = y at *
  generalize es.length = n at *
  generalize ks.len = m at *
  generalize c.length = k at *
  generalize es'.length = n' at *
  generalize ks'.len = m' at *
  generalize c'.length = k' at *
  have HFB := Lib.hid ((Frm.alloc NoS w (.cells #[.slice a0 n c0, .slice a1 m c1, .slice a2 k c2] 31)).alloc1 (o := .cells #[.slice b0 n' d0, .slice b1 m' d1, .slice b2 k' d2] 31))
  have HBX := Lib.hid (pair3 w (.slice a0 n c0) (.slice a1 m c1) (.slice a2 k c2) (.slice b0 n' d0) (.slice b1 m' d1) (.slice b2 k' d2) 31)
  go_enter Tryz.func39, Tryz.ntmps39
  go_wp2_with (first
    | (go_at_call 48; first | (refine (HB.out _ (HFB.out.then1 HW1.out)).mono ?_; rintro e w2 ⟨rfl, hw2⟩; clear y0 y1 y2 y3 y4 y5; obtain ⟨y0, y1, y2, y3, y4, y5⟩ := HBX.out w2 (HW1.out.then1 hw2); have HW2 := Lib.hid (HW1.out.then1 hw2); clear hw2) | (refine (HA.out _ HFB.out).mono ?_; rintro e w1 ⟨rfl, hw1⟩; obtain ⟨y0, y1, y2, y3, y4, y5⟩ := HBX.out w1 hw1; have HW1 := Lib.hid hw1; clear hw1))
    | (go_at_call 61; go_loud (refine (HT.out _ (HFB.out.then1 HW2.out)).mono ?_; rintro e w3 ⟨rfl, hw3⟩; clear y0 y1 y2 y3 y4 y5; obtain ⟨y0, y1, y2, y3, y4, y5⟩ := HBX.out w3 (HW2.out.then1 hw3); have HW3 := Lib.hid (HW2.out.then1 hw3); clear hw3))
    | (go_at_call 62; go_loud (refine (HC.out _ (HFB.out.then1 HW3.out)).mono ?_; rintro e w4 ⟨rfl, hw4⟩; have HW4 := Lib.hid (HW3.out.then1 hw4); clear hw4)))
  go_ret
  exact ⟨rfl, HFB.out.then1 HW4.out⟩
end Go.Proofs.YtclfajhdonabhaaGreat

/- bundle: Same: the walk. Printed by wip/samegen.py. -/
namespace Go.Proofs.YtclfajhdonabhaaGreat
open Go.RowKit

theorem pair10 (w : World) (u0 u1 u2 u3 u4 u5 u6 u7 u8 u9 x0 x1 x2 x3 x4 x5 x6 x7 x8 x9 : Value) (T : TypeId) (W : World) (f : Frm NoS ((w.alloc (.cells #[u0, u1, u2, u3, u4, u5, u6, u7, u8, u9] T)).alloc (.cells #[x0, x1, x2, x3, x4, x5, x6, x7, x8, x9] T)) W) :
    (W.cell? ⟨w.heap.size, 0, none⟩ = some u0 ∧ W.cell? ⟨w.heap.size, 1, none⟩ = some u1 ∧ W.cell? ⟨w.heap.size, 2, none⟩ = some u2 ∧ W.cell? ⟨w.heap.size, 3, none⟩ = some u3 ∧ W.cell? ⟨w.heap.size, 4, none⟩ = some u4 ∧ W.cell? ⟨w.heap.size, 5, none⟩ = some u5 ∧ W.cell? ⟨w.heap.size, 6, none⟩ = some u6 ∧ W.cell? ⟨w.heap.size, 7, none⟩ = some u7 ∧ W.cell? ⟨w.heap.size, 8, none⟩ = some u8 ∧ W.cell? ⟨w.heap.size, 9, none⟩ = some u9) ∧ W.cell? ⟨w.heap.size + 1, 0, none⟩ = some x0 ∧ W.cell? ⟨w.heap.size + 1, 1, none⟩ = some x1 ∧ W.cell? ⟨w.heap.size + 1, 2, none⟩ = some x2 ∧ W.cell? ⟨w.heap.size + 1, 3, none⟩ = some x3 ∧ W.cell? ⟨w.heap.size + 1, 4, none⟩ = some x4 ∧ W.cell? ⟨w.heap.size + 1, 5, none⟩ = some x5 ∧ W.cell? ⟨w.heap.size + 1, 6, none⟩ = some x6 ∧ W.cell? ⟨w.heap.size + 1, 7, none⟩ = some x7 ∧ W.cell? ⟨w.heap.size + 1, 8, none⟩ = some x8 ∧ W.cell? ⟨w.heap.size + 1, 9, none⟩ = some x9 := by
  obtain ⟨h1, _, _⟩ := two_blocks w (.cells #[u0, u1, u2, u3, u4, u5, u6, u7, u8, u9] T) #[x0, x1, x2, x3, x4, x5, x6, x7, x8, x9] T
  exact ⟨box10 w u0 u1 u2 u3 u4 u5 u6 u7 u8 u9 T W ((Frm.alloc NoS _ _).then1 f), f.cell' (cell_at' h1 0 rfl) id, f.cell' (cell_at' h1 1 rfl) id, f.cell' (cell_at' h1 2 rfl) id, f.cell' (cell_at' h1 3 rfl) id, f.cell' (cell_at' h1 4 rfl) id, f.cell' (cell_at' h1 5 rfl) id, f.cell' (cell_at' h1 6 rfl) id, f.cell' (cell_at' h1 7 rfl) id, f.cell' (cell_at' h1 8 rfl) id, f.cell' (cell_at' h1 9 rfl) id⟩
/-- Are two bundles alike? -/
def BunEq (dc af la v0 v1 v2 v3 dc' af' la' v0' v1' v2' v3' : Int) (es : List Ent) (ks : KidsL) (c : CtxL) (es' : List Ent) (ks' : KidsL) (c' : CtxL) : Prop :=
  dc = dc' ∧ af = af' ∧ la = la' ∧ (v0 = v0' ∧ v1 = v1' ∧ v2 = v2' ∧ v3 = v3') ∧ (es = es' ∧ ks = ks') ∧ c = c'
theorem BunRight.cau {dc af la : Int} {f : Int → Int} {es : List Ent} {ks : KidsL} {c : CtxL} (h : BunRight dc af la f es ks c) : CauRight es ks c := ⟨h.tree, h.ctx, h.dots⟩
theorem vec_eq_true {a0 a1 a2 a3 b0 b1 b2 b3 : Int} (h : a0 = b0 ∧ a1 = b1 ∧ a2 = b2 ∧ a3 = b3) (W : World) : (binOp .eql 23 (.agg #[.int .i64 a0, .int .i64 a1, .int .i64 a2, .int .i64 a3]) (.agg #[.int .i64 b0, .int .i64 b1, .int .i64 b2, .int .i64 b3])).run Tryz.prog W = .ok (.bool true) W := by
  rw [vec_eql]; simp [h.1, h.2.1, h.2.2.1, h.2.2.2]
theorem vec_eq_false {a0 a1 a2 a3 b0 b1 b2 b3 : Int} (h : ¬ (a0 = b0 ∧ a1 = b1 ∧ a2 = b2 ∧ a3 = b3)) (W : World) : (binOp .eql 23 (.agg #[.int .i64 a0, .int .i64 a1, .int .i64 a2, .int .i64 a3]) (.agg #[.int .i64 b0, .int .i64 b1, .int .i64 b2, .int .i64 b3])).run Tryz.prog W = .ok (.bool false) W := by
  rw [vec_eql]
  have : ((a0 == b0) && ((a1 == b1) && ((a2 == b2) && (a3 == b3)))) = false := by
    rw [Bool.eq_false_iff]
    intro e
    simp only [Bool.and_eq_true, beq_iff_eq] at e
    exact h e
  rw [this]
set_option maxHeartbeats 8000000 in
set_option maxRecDepth 1000000 in
theorem bSame_any (Q Q' : Nat → Prop) (es : List Ent) (ks : KidsL) (c : CtxL) (es' : List Ent) (ks' : KidsL) (c' : CtxL) (w : World) (dc af la v0 v1 v2 v3 dc' af' la' v0' v1' v2' v3' : Int) (ev kv cv ev' kv' cv' : Value) (h : CauAt Q w ev kv cv es ks c) (hok : CauOk es ks c) (h' : CauAt Q' w ev' kv' cv' es' ks' c') (hok' : CauOk es' ks' c') :
    Calls Tryz.prog 14 #[.agg #[.int .i64 dc, .int .i64 af, .int .i64 la, .int .i64 v0, .int .i64 v1, .int .i64 v2, .int .i64 v3, ev, kv, cv], .agg #[.int .i64 dc', .int .i64 af', .int .i64 la', .int .i64 v0', .int .i64 v1', .int .i64 v2', .int .i64 v3', ev', kv', cv']] w fun e w' => e = .returned (.bool (tf (BunRight dc af la (vecF v0 v1 v2 v3) es ks c ∧ BunRight dc' af' la' (vecF v0' v1' v2' v3') es' ks' c' ∧ BunEq dc af la v0 v1 v2 v3 dc' af' la' v0' v1' v2' v3' es ks c es' ks' c'))) ∧ Frm NoS w w' := by
  have HA := Lib.hid (fun W (f : Frm NoS w W) => bRight_any Q es ks c W dc af la v0 v1 v2 v3 _ _ _ (h.keep0 f) hok)
  have HB := Lib.hid (fun W (f : Frm NoS w W) => bRight_any Q' es' ks' c' W dc' af' la' v0' v1' v2' v3' _ _ _ (h'.keep0 f) hok')
  have HC := Lib.hid (fun W (f : Frm NoS w W) => caSame_any Q Q' es ks c es' ks' c' W _ _ _ _ _ _ (h.keep0 f) hok (h'.keep0 f) hok')
  obtain ⟨a0, c0, a1, c1, a2, c2, rfl, rfl, rfl⟩ := h.shape
  obtain ⟨b0, d0, b1, d1, b2, d2, rfl, rfl, rfl⟩ := h'.shape
  clear h hok h' hok'
  by_cases r1 : BunRight dc af la (vecF v0 v1 v2 v3) es ks c
  rotate_left 1
  · rw [tf_false r1] at HA
    rw [tf_false fun h => r1 h.1]
    clear r1 HB HC
    generalize es.length = n at *
    generalize ks.len = m at *
    generalize c.length = k at *
    generalize es'.length = n' at *
    generalize ks'.len = m' at *
    generalize c'.length = k' at *
    have HFB := Lib.hid ((Frm.alloc NoS w (.cells #[.int .i64 dc, .int .i64 af, .int .i64 la, .int .i64 v0, .int .i64 v1, .int .i64 v2, .int .i64 v3, .slice a0 n c0, .slice a1 m c1, .slice a2 k c2] 36)).alloc1 (o := .cells #[.int .i64 dc', .int .i64 af', .int .i64 la', .int .i64 v0', .int .i64 v1', .int .i64 v2', .int .i64 v3', .slice b0 n' d0, .slice b1 m' d1, .slice b2 k' d2] 36))
    have HBX := Lib.hid (pair10 w (.int .i64 dc) (.int .i64 af) (.int .i64 la) (.int .i64 v0) (.int .i64 v1) (.int .i64 v2) (.int .i64 v3) (.slice a0 n c0) (.slice a1 m c1) (.slice a2 k c2) (.int .i64 dc') (.int .i64 af') (.int .i64 la') (.int .i64 v0') (.int .i64 v1') (.int .i64 v2') (.int .i64 v3') (.slice b0 n' d0) (.slice b1 m' d1) (.slice b2 k' d2) 36)
    go_enter Tryz.func14, Tryz.ntmps14
    go_wp2_with (first
      | (go_at_call 27; refine (HA.out _ HFB.out).mono ?_; rintro e w1 ⟨rfl, hw1⟩; obtain ⟨⟨y0, y1, y2, y3, y4, y5, y6, y7, y8, y9⟩, z0, z1, z2, z3, z4, z5, z6, z7, z8, z9⟩ := HBX.out w1 hw1; have HW1 := Lib.hid hw1; clear hw1))
    go_ret
    exact ⟨rfl, HFB.out.then1 HW1.out⟩
  by_cases r2 : BunRight dc' af' la' (vecF v0' v1' v2' v3') es' ks' c'
  rotate_left 1
  · rw [tf_true r1] at HA
    rw [tf_false r2] at HB
    rw [tf_false fun h => r2 h.2.1]
    clear r1 r2 HC
    generalize es.length = n at *
    generalize ks.len = m at *
    generalize c.length = k at *
    generalize es'.length = n' at *
    generalize ks'.len = m' at *
    generalize c'.length = k' at *
    have HFB := Lib.hid ((Frm.alloc NoS w (.cells #[.int .i64 dc, .int .i64 af, .int .i64 la, .int .i64 v0, .int .i64 v1, .int .i64 v2, .int .i64 v3, .slice a0 n c0, .slice a1 m c1, .slice a2 k c2] 36)).alloc1 (o := .cells #[.int .i64 dc', .int .i64 af', .int .i64 la', .int .i64 v0', .int .i64 v1', .int .i64 v2', .int .i64 v3', .slice b0 n' d0, .slice b1 m' d1, .slice b2 k' d2] 36))
    have HBX := Lib.hid (pair10 w (.int .i64 dc) (.int .i64 af) (.int .i64 la) (.int .i64 v0) (.int .i64 v1) (.int .i64 v2) (.int .i64 v3) (.slice a0 n c0) (.slice a1 m c1) (.slice a2 k c2) (.int .i64 dc') (.int .i64 af') (.int .i64 la') (.int .i64 v0') (.int .i64 v1') (.int .i64 v2') (.int .i64 v3') (.slice b0 n' d0) (.slice b1 m' d1) (.slice b2 k' d2) 36)
    go_enter Tryz.func14, Tryz.ntmps14
    go_wp2_with (first
      | (go_at_call 27; first | (refine (HB.out _ (HFB.out.then1 HW1.out)).mono ?_; rintro e w2 ⟨rfl, hw2⟩; clear y0 y1 y2 y3 y4 y5 y6 y7 y8 y9 z0 z1 z2 z3 z4 z5 z6 z7 z8 z9; obtain ⟨⟨y0, y1, y2, y3, y4, y5, y6, y7, y8, y9⟩, z0, z1, z2, z3, z4, z5, z6, z7, z8, z9⟩ := HBX.out w2 (HW1.out.then1 hw2); have HW2 := Lib.hid (HW1.out.then1 hw2); clear hw2) | (refine (HA.out _ HFB.out).mono ?_; rintro e w1 ⟨rfl, hw1⟩; obtain ⟨⟨y0, y1, y2, y3, y4, y5, y6, y7, y8, y9⟩, z0, z1, z2, z3, z4, z5, z6, z7, z8, z9⟩ := HBX.out w1 hw1; have HW1 := Lib.hid hw1; clear hw1)))
    go_ret
    exact ⟨rfl, HFB.out.then1 HW2.out⟩
  rw [tf_true r1] at HA
  rw [tf_true r2] at HB
  by_cases e0 : dc = dc'
  rotate_left 1
  · rw [tf_false fun h => e0 h.2.2.1]
    have ge : ((dc : Int) == dc') = false := by simpa using e0
    clear r1 r2 e0 HC
    generalize es.length = n at *
    generalize ks.len = m at *
    generalize c.length = k at *
    generalize es'.length = n' at *
    generalize ks'.len = m' at *
    generalize c'.length = k' at *
    have HFB := Lib.hid ((Frm.alloc NoS w (.cells #[.int .i64 dc, .int .i64 af, .int .i64 la, .int .i64 v0, .int .i64 v1, .int .i64 v2, .int .i64 v3, .slice a0 n c0, .slice a1 m c1, .slice a2 k c2] 36)).alloc1 (o := .cells #[.int .i64 dc', .int .i64 af', .int .i64 la', .int .i64 v0', .int .i64 v1', .int .i64 v2', .int .i64 v3', .slice b0 n' d0, .slice b1 m' d1, .slice b2 k' d2] 36))
    have HBX := Lib.hid (pair10 w (.int .i64 dc) (.int .i64 af) (.int .i64 la) (.int .i64 v0) (.int .i64 v1) (.int .i64 v2) (.int .i64 v3) (.slice a0 n c0) (.slice a1 m c1) (.slice a2 k c2) (.int .i64 dc') (.int .i64 af') (.int .i64 la') (.int .i64 v0') (.int .i64 v1') (.int .i64 v2') (.int .i64 v3') (.slice b0 n' d0) (.slice b1 m' d1) (.slice b2 k' d2) 36)
    go_enter Tryz.func14, Tryz.ntmps14
    go_wp2_with (first
      | (go_at_call 27; first | (refine (HB.out _ (HFB.out.then1 HW1.out)).mono ?_; rintro e w2 ⟨rfl, hw2⟩; clear y0 y1 y2 y3 y4 y5 y6 y7 y8 y9 z0 z1 z2 z3 z4 z5 z6 z7 z8 z9; obtain ⟨⟨y0, y1, y2, y3, y4, y5, y6, y7, y8, y9⟩, z0, z1, z2, z3, z4, z5, z6, z7, z8, z9⟩ := HBX.out w2 (HW1.out.then1 hw2); have HW2 := Lib.hid (HW1.out.then1 hw2); clear hw2) | (refine (HA.out _ HFB.out).mono ?_; rintro e w1 ⟨rfl, hw1⟩; obtain ⟨⟨y0, y1, y2, y3, y4, y5, y6, y7, y8, y9⟩, z0, z1, z2, z3, z4, z5, z6, z7, z8, z9⟩ := HBX.out w1 hw1; have HW1 := Lib.hid hw1; clear hw1)))
    go_ret
    exact ⟨rfl, HFB.out.then1 HW2.out⟩
  subst e0
  by_cases e1 : af = af'
  rotate_left 1
  · rw [tf_false fun h => e1 h.2.2.2.1]
    have ge : ((af : Int) == af') = false := by simpa using e1
    clear r1 r2 e1 HC
    generalize es.length = n at *
    generalize ks.len = m at *
    generalize c.length = k at *
    generalize es'.length = n' at *
    generalize ks'.len = m' at *
    generalize c'.length = k' at *
    have HFB := Lib.hid ((Frm.alloc NoS w (.cells #[.int .i64 dc, .int .i64 af, .int .i64 la, .int .i64 v0, .int .i64 v1, .int .i64 v2, .int .i64 v3, .slice a0 n c0, .slice a1 m c1, .slice a2 k c2] 36)).alloc1 (o := .cells #[.int .i64 dc, .int .i64 af', .int .i64 la', .int .i64 v0', .int .i64 v1', .int .i64 v2', .int .i64 v3', .slice b0 n' d0, .slice b1 m' d1, .slice b2 k' d2] 36))
    have HBX := Lib.hid (pair10 w (.int .i64 dc) (.int .i64 af) (.int .i64 la) (.int .i64 v0) (.int .i64 v1) (.int .i64 v2) (.int .i64 v3) (.slice a0 n c0) (.slice a1 m c1) (.slice a2 k c2) (.int .i64 dc) (.int .i64 af') (.int .i64 la') (.int .i64 v0') (.int .i64 v1') (.int .i64 v2') (.int .i64 v3') (.slice b0 n' d0) (.slice b1 m' d1) (.slice b2 k' d2) 36)
    go_enter Tryz.func14, Tryz.ntmps14
    go_wp2_with (first
      | (go_at_call 27; first | (refine (HB.out _ (HFB.out.then1 HW1.out)).mono ?_; rintro e w2 ⟨rfl, hw2⟩; clear y0 y1 y2 y3 y4 y5 y6 y7 y8 y9 z0 z1 z2 z3 z4 z5 z6 z7 z8 z9; obtain ⟨⟨y0, y1, y2, y3, y4, y5, y6, y7, y8, y9⟩, z0, z1, z2, z3, z4, z5, z6, z7, z8, z9⟩ := HBX.out w2 (HW1.out.then1 hw2); have HW2 := Lib.hid (HW1.out.then1 hw2); clear hw2) | (refine (HA.out _ HFB.out).mono ?_; rintro e w1 ⟨rfl, hw1⟩; obtain ⟨⟨y0, y1, y2, y3, y4, y5, y6, y7, y8, y9⟩, z0, z1, z2, z3, z4, z5, z6, z7, z8, z9⟩ := HBX.out w1 hw1; have HW1 := Lib.hid hw1; clear hw1)))
    go_ret
    exact ⟨rfl, HFB.out.then1 HW2.out⟩
  subst e1
  by_cases e2 : la = la'
  rotate_left 1
  · rw [tf_false fun h => e2 h.2.2.2.2.1]
    have ge : ((la : Int) == la') = false := by simpa using e2
    clear r1 r2 e2 HC
    generalize es.length = n at *
    generalize ks.len = m at *
    generalize c.length = k at *
    generalize es'.length = n' at *
    generalize ks'.len = m' at *
    generalize c'.length = k' at *
    have HFB := Lib.hid ((Frm.alloc NoS w (.cells #[.int .i64 dc, .int .i64 af, .int .i64 la, .int .i64 v0, .int .i64 v1, .int .i64 v2, .int .i64 v3, .slice a0 n c0, .slice a1 m c1, .slice a2 k c2] 36)).alloc1 (o := .cells #[.int .i64 dc, .int .i64 af, .int .i64 la', .int .i64 v0', .int .i64 v1', .int .i64 v2', .int .i64 v3', .slice b0 n' d0, .slice b1 m' d1, .slice b2 k' d2] 36))
    have HBX := Lib.hid (pair10 w (.int .i64 dc) (.int .i64 af) (.int .i64 la) (.int .i64 v0) (.int .i64 v1) (.int .i64 v2) (.int .i64 v3) (.slice a0 n c0) (.slice a1 m c1) (.slice a2 k c2) (.int .i64 dc) (.int .i64 af) (.int .i64 la') (.int .i64 v0') (.int .i64 v1') (.int .i64 v2') (.int .i64 v3') (.slice b0 n' d0) (.slice b1 m' d1) (.slice b2 k' d2) 36)
    go_enter Tryz.func14, Tryz.ntmps14
    go_wp2_with (first
      | (go_at_call 27; first | (refine (HB.out _ (HFB.out.then1 HW1.out)).mono ?_; rintro e w2 ⟨rfl, hw2⟩; clear y0 y1 y2 y3 y4 y5 y6 y7 y8 y9 z0 z1 z2 z3 z4 z5 z6 z7 z8 z9; obtain ⟨⟨y0, y1, y2, y3, y4, y5, y6, y7, y8, y9⟩, z0, z1, z2, z3, z4, z5, z6, z7, z8, z9⟩ := HBX.out w2 (HW1.out.then1 hw2); have HW2 := Lib.hid (HW1.out.then1 hw2); clear hw2) | (refine (HA.out _ HFB.out).mono ?_; rintro e w1 ⟨rfl, hw1⟩; obtain ⟨⟨y0, y1, y2, y3, y4, y5, y6, y7, y8, y9⟩, z0, z1, z2, z3, z4, z5, z6, z7, z8, z9⟩ := HBX.out w1 hw1; have HW1 := Lib.hid hw1; clear hw1)))
    go_ret
    exact ⟨rfl, HFB.out.then1 HW2.out⟩
  subst e2
  by_cases e3 : v0 = v0' ∧ v1 = v1' ∧ v2 = v2' ∧ v3 = v3'
  rotate_left 1
  · rw [tf_false fun h => e3 h.2.2.2.2.2.1]
    have hveq := vec_eq_false e3
    clear r1 r2 e3 HC
    generalize es.length = n at *
    generalize ks.len = m at *
    generalize c.length = k at *
    generalize es'.length = n' at *
    generalize ks'.len = m' at *
    generalize c'.length = k' at *
    have HFB := Lib.hid ((Frm.alloc NoS w (.cells #[.int .i64 dc, .int .i64 af, .int .i64 la, .int .i64 v0, .int .i64 v1, .int .i64 v2, .int .i64 v3, .slice a0 n c0, .slice a1 m c1, .slice a2 k c2] 36)).alloc1 (o := .cells #[.int .i64 dc, .int .i64 af, .int .i64 la, .int .i64 v0', .int .i64 v1', .int .i64 v2', .int .i64 v3', .slice b0 n' d0, .slice b1 m' d1, .slice b2 k' d2] 36))
    have HBX := Lib.hid (pair10 w (.int .i64 dc) (.int .i64 af) (.int .i64 la) (.int .i64 v0) (.int .i64 v1) (.int .i64 v2) (.int .i64 v3) (.slice a0 n c0) (.slice a1 m c1) (.slice a2 k c2) (.int .i64 dc) (.int .i64 af) (.int .i64 la) (.int .i64 v0') (.int .i64 v1') (.int .i64 v2') (.int .i64 v3') (.slice b0 n' d0) (.slice b1 m' d1) (.slice b2 k' d2) 36)
    go_enter Tryz.func14, Tryz.ntmps14
    go_wp2_with (first
      | (go_at_call 27; first | (refine (HB.out _ (HFB.out.then1 HW1.out)).mono ?_; rintro e w2 ⟨rfl, hw2⟩; clear y0 y1 y2 y3 y4 y5 y6 y7 y8 y9 z0 z1 z2 z3 z4 z5 z6 z7 z8 z9; obtain ⟨⟨y0, y1, y2, y3, y4, y5, y6, y7, y8, y9⟩, z0, z1, z2, z3, z4, z5, z6, z7, z8, z9⟩ := HBX.out w2 (HW1.out.then1 hw2); have HW2 := Lib.hid (HW1.out.then1 hw2); clear hw2) | (refine (HA.out _ HFB.out).mono ?_; rintro e w1 ⟨rfl, hw1⟩; obtain ⟨⟨y0, y1, y2, y3, y4, y5, y6, y7, y8, y9⟩, z0, z1, z2, z3, z4, z5, z6, z7, z8, z9⟩ := HBX.out w1 hw1; have HW1 := Lib.hid hw1; clear hw1)))
    go_ret
    exact ⟨rfl, HFB.out.then1 HW2.out⟩
  have hveq := vec_eq_true e3
  have hall : tf (BunRight dc af la (vecF v0 v1 v2 v3) es ks c ∧ BunRight dc af la (vecF v0' v1' v2' v3') es' ks' c' ∧ BunEq dc af la v0 v1 v2 v3 dc af la v0' v1' v2' v3' es ks c es' ks' c') = tf ((es = es' ∧ ks = ks') ∧ c = c') := tf_congr ⟨fun h => h.2.2.2.2.2.2, fun h => ⟨r1, r2, rfl, rfl, rfl, e3, h⟩⟩
  rw [hall]
  have hca : tf (CauRight es ks c ∧ CauRight es' ks' c' ∧ (es = es' ∧ ks = ks') ∧ c = c') = tf ((es = es' ∧ ks = ks') ∧ c = c') := tf_congr ⟨fun h => h.2.2, fun h => ⟨r1.cau, r2.cau, h⟩⟩
  rw [hca] at HC
  clear hall hca r1 r2 e3
  generalize tf ((es = es' ∧ ks = ks') ∧ c = c') = y at *
  generalize es.length = n at *
  generalize ks.len = m at *
  generalize c.length = k at *
  generalize es'.length = n' at *
  generalize ks'.len = m' at *
  generalize c'.length = k' at *
  have HFB := Lib.hid ((Frm.alloc NoS w (.cells #[.int .i64 dc, .int .i64 af, .int .i64 la, .int .i64 v0, .int .i64 v1, .int .i64 v2, .int .i64 v3, .slice a0 n c0, .slice a1 m c1, .slice a2 k c2] 36)).alloc1 (o := .cells #[.int .i64 dc, .int .i64 af, .int .i64 la, .int .i64 v0', .int .i64 v1', .int .i64 v2', .int .i64 v3', .slice b0 n' d0, .slice b1 m' d1, .slice b2 k' d2] 36))
  have HBX := Lib.hid (pair10 w (.int .i64 dc) (.int .i64 af) (.int .i64 la) (.int .i64 v0) (.int .i64 v1) (.int .i64 v2) (.int .i64 v3) (.slice a0 n c0) (.slice a1 m c1) (.slice a2 k c2) (.int .i64 dc) (.int .i64 af) (.int .i64 la) (.int .i64 v0') (.int .i64 v1') (.int .i64 v2') (.int .i64 v3') (.slice b0 n' d0) (.slice b1 m' d1) (.slice b2 k' d2) 36)
  go_enter Tryz.func14, Tryz.ntmps14
  go_wp2_with (first
    | (go_at_call 27; first | (refine (HB.out _ (HFB.out.then1 HW1.out)).mono ?_; rintro e w2 ⟨rfl, hw2⟩; clear y0 y1 y2 y3 y4 y5 y6 y7 y8 y9 z0 z1 z2 z3 z4 z5 z6 z7 z8 z9; obtain ⟨⟨y0, y1, y2, y3, y4, y5, y6, y7, y8, y9⟩, z0, z1, z2, z3, z4, z5, z6, z7, z8, z9⟩ := HBX.out w2 (HW1.out.then1 hw2); have HW2 := Lib.hid (HW1.out.then1 hw2); clear hw2) | (refine (HA.out _ HFB.out).mono ?_; rintro e w1 ⟨rfl, hw1⟩; obtain ⟨⟨y0, y1, y2, y3, y4, y5, y6, y7, y8, y9⟩, z0, z1, z2, z3, z4, z5, z6, z7, z8, z9⟩ := HBX.out w1 hw1; have HW1 := Lib.hid hw1; clear hw1))
    | (go_at_call 39; go_loud (refine (HC.out _ (HFB.out.then1 HW2.out)).mono ?_; rintro e w3 ⟨rfl, hw3⟩; have HW3 := Lib.hid (HW2.out.then1 hw3); clear hw3)))
  go_ret
  exact ⟨rfl, HFB.out.then1 HW3.out⟩
end Go.Proofs.YtclfajhdonabhaaGreat

/- tributaryref08: Same: the walk. Printed by wip/r8samegen.py. -/
namespace Go.Proofs.YtclfajhdonabhaaGreat
open Go.RowKit

set_option maxHeartbeats 8000000 in
set_option maxRecDepth 1000000 in
theorem r8Same_any (Q Q' : Nat → Prop) : ∀ (N : Nat) (es : List Ent) (ks : KidsL) (es' : List Ent) (ks' : KidsL) (w : World) (ev kv ev' kv' : Value), sizeK ks < N → TreeAt Q w ev kv es ks → TreeAt Q' w ev' kv' es' ks' → sizeT es ks ≤ 100000 → sizeT es' ks' ≤ 100000 →
    Calls Tryz.prog 42 #[.agg #[ev, kv], .agg #[ev', kv']] w fun e w' => e = .returned (.bool (tf (es = es' ∧ ks = ks'))) ∧ Frm NoS w w' := by
  intro N
  induction N with
  | zero => intros; exfalso; omega
  | succ N IHN =>
    intro es ks es' ks' w ev kv ev' kv' hN ht ht' hsz hsz'
    obtain ⟨ae, ce, rfl⟩ := ht.ents.rd.sl
    obtain ⟨os, hkr, hfor⟩ := ht.kids
    obtain ⟨ak, ck, rfl⟩ := hkr.rd.sl
    obtain ⟨ae', ce', rfl⟩ := ht'.ents.rd.sl
    obtain ⟨os', hkr', hfor'⟩ := ht'.kids
    obtain ⟨ak', ck', rfl⟩ := hkr'.rd.sl
    have h1 : es.length ≤ 100000 := by unfold sizeT at hsz; omega
    have h2 : es'.length ≤ 100000 := by unfold sizeT at hsz'; omega
    have h3 : ks.len ≤ 100000 := by have := len_le_sizeK ks; unfold sizeT at hsz; omega
    have h4 : ks'.len ≤ 100000 := by have := len_le_sizeK ks'; unfold sizeT at hsz'; omega
    by_cases hle : es.length = es'.length
    rotate_left 1
    · rw [tf_false fun h => hle (by rw [h.1])]
      clear ht ht' hkr hkr' hfor hfor' IHN hN hsz hsz'
      generalize es.length = n at *
      generalize ks.len = m at *
      generalize es'.length = n' at *
      generalize ks'.len = m' at *
      have hz : ((n : Int) == (n' : Int)) = false := by simp; omega
      have HFB := Lib.hid ((Frm.alloc NoS w (.cells #[.slice ae n ce, .slice ak m ck] 27)).alloc1 (o := .cells #[.slice ae' n' ce', .slice ak' m' ck'] 27))
      go_enter Tryz.func42, Tryz.ntmps42
      go_wp2
      go_ret
      exact ⟨rfl, HFB.out⟩
    by_cases hlk : ks.len = ks'.len
    rotate_left 1
    · rw [tf_false fun h => hlk (by rw [h.2])]
      rw [← hle]
      clear ht ht' hkr hkr' hfor hfor' IHN hN hsz hsz' h2 hle
      generalize es.length = n at *
      generalize ks.len = m at *
      generalize ks'.len = m' at *
      have hz : ((m : Int) == (m' : Int)) = false := by simp; omega
      have HFB := Lib.hid ((Frm.alloc NoS w (.cells #[.slice ae n ce, .slice ak m ck] 27)).alloc1 (o := .cells #[.slice ae' n ce', .slice ak' m' ck'] 27))
      go_enter Tryz.func42, Tryz.ntmps42
      go_wp2
      go_ret
      exact ⟨rfl, HFB.out⟩
    have HE := Lib.hid ht.ents.rd
    have hE' := ht'.ents.rd
    have hK' := hkr'.rd
    rw [← hle] at hE' ⊢
    rw [← hlk] at hK' ⊢
    have HE' := Lib.hid hE'; clear hE'
    have HKR := Lib.hid hkr.rd
    have HKR' := Lib.hid hK'; clear hK'
    have HFOR := Lib.hid hfor; clear hfor
    have HFOR' := Lib.hid hfor'; clear hfor'
    have HLE := Lib.hid hle.symm; clear hle
    have HLK := Lib.hid hlk.symm; clear hlk
    have IH := Lib.hid IHN; clear IHN
    have HSZ := Lib.hid hsz; clear hsz
    have HSZ' := Lib.hid hsz'; clear hsz'
    have HNN := Lib.hid hN; clear hN
    clear ht ht' hkr hkr' h2 h4
    generalize hes : es.length = n at *
    have HN := Lib.hid hes; clear hes
    generalize hkl : ks.len = m at *
    have HM := Lib.hid hkl; clear hkl
    have HFB := Lib.hid ((Frm.alloc NoS w (.cells #[.slice ae n ce, .slice ak m ck] 27)).alloc1 (o := .cells #[.slice ae' n ce', .slice ak' m ck'] 27))
    have HBX := Lib.hid (pair2 w (.slice ae n ce) (.slice ak m ck) (.slice ae' n ce') (.slice ak' m ck') 27)
    go_enter Tryz.func42, Tryz.ntmps42
    go_wp2
    go_loopw [26] (fun i ww => ∃ k : Nat, k ≤ n ∧ i = .int .i64 k ∧ LikeE es es' k ∧ Frm NoS ((w.alloc (.cells #[.slice ae n ce, .slice ak m ck] 27)).alloc (.cells #[.slice ae' n ce', .slice ak' m ck'] 27)) ww) (fun i _ => n - (intOf i).toNat)
    case atStart => exact ⟨0, Nat.zero_le _, rfl, (fun j hj => absurd hj (Nat.not_lt_zero _)), Frm.refl _ _⟩
    case round =>
      obtain ⟨k, hk, rfl, hlk, hw⟩ := hrel
      have HLI := Lib.hid hlk; clear hlk
      have HW := Lib.hid hw; clear hw
      obtain ⟨b0, b1, b2, b3⟩ := HBX.out wr HW.out
      by_cases hlt : k < n
      · rcases Rd.shape HE.out with ⟨ad, he, h0⟩ | ⟨e1, off1, cc1, he, hmax⟩
        · exfalso; omega
        rcases Rd.shape HE'.out with ⟨ad, he2, h0⟩ | ⟨e2, off2, cc2, he2, hmax2⟩
        · exfalso; omega
        injection he with g1 g2 g3
        injection he2 with g4 g5 g6
        subst g1 g3 g4 g6
        clear g2 g5
        obtain ⟨p0, p1, p2, p3⟩ := ent_at HE.out k (by rw [HN.out]; exact hlt)
        obtain ⟨q0, q1, q2, q3⟩ := ent_at HE'.out k (by rw [HLE.out]; exact hlt)
        have hfw := HFB.out.then1 HW.out
        have p0 := hfw.cell' p0 id
        have p1 := hfw.cell' p1 id
        have p2 := hfw.cell' p2 id
        have p3 := hfw.cell' p3 id
        have q0 := hfw.cell' q0 id
        have q1 := hfw.cell' q1 id
        have q2 := hfw.cell' q2 id
        have q3 := hfw.cell' q3 id
        clear hfw
        have HST := Lib.hid (show es.getD k Ent.zero = es'.getD k Ent.zero → LikeE es es' (k + 1) from HLI.out.step)
        have HNO := Lib.hid (show es.getD k Ent.zero ≠ es'.getD k Ent.zero → ¬ (es = es' ∧ ks = ks') from fun h e => h (by rw [e.1]))
        generalize es.getD k Ent.zero = s at *
        generalize es'.getD k Ent.zero = t at *
        by_cases hst : s = t
        · subst hst
          go_wp2_with fail
          go_quiet (fail)
          go_wp2
          go_roundw
          case rel => exact ⟨k + 1, by omega, by go_num, HST.out (by trivial), HW.out.drewN1⟩
          case measure => simp [intOf]; omega
        · have HNE := Lib.hid (show false = tf (es = es' ∧ ks = ks') from (tf_false (HNO.out hst)).symm)
          obtain ⟨s0, s1, s2, s3⟩ := s
          obtain ⟨t0, t1, t2, t3⟩ := t
          clear HST HNO
          dsimp only at p0 p1 p2 p3 q0 q1 q2 q3
          by_cases g0 : s0 = t0
          · subst g0
            by_cases g1 : s1 = t1
            · subst g1
              by_cases g2 : s2 = t2
              · subst g2
                have g3 : s3 ≠ t3 := fun h => hst (by rw [h])
                clear hst
                have gb : ((s3 : Int) == t3) = false := by simpa using g3
                go_wp2_with fail
                go_quiet (fail)
                go_wp2
                go_ret
                exact ⟨ret_bool HNE.out, HFB.out.then1 HW.out.drewN1⟩
              · clear hst
                have gb := ne_text g2
                go_wp2_with fail
                go_quiet (fail)
                go_wp2
                go_ret
                exact ⟨ret_bool HNE.out, HFB.out.then1 HW.out.drewN1⟩
            · clear hst
              have gb : ((s1 : Int) == t1) = false := by simpa using g1
              go_wp2_with fail
              go_quiet (fail)
              go_wp2
              go_ret
              exact ⟨ret_bool HNE.out, HFB.out.then1 HW.out.drewN1⟩
          · clear hst
            have gb : ((s0 : Int) == t0) = false := by simpa using g0
            go_wp2_with fail
            go_quiet (fail)
            go_wp2
            go_ret
            exact ⟨ret_bool HNE.out, HFB.out.then1 HW.out.drewN1⟩
      · obtain rfl : n = k := by omega
        have hee : es = es' := LikeE.all (HN.out.trans HLE.out.symm) (by rw [HN.out]; exact HLI.out)
        have HEE := Lib.hid hee; clear hee
        go_wp2
        clear b0 b1 b2 b3
        go_loopw [44] (fun i ww => ∃ k : Nat, k ≤ m ∧ i = .int .i64 k ∧ (ks = ks' ↔ ks.drop k = ks'.drop k) ∧ Frm NoS ((w.alloc (.cells #[.slice ae n ce, .slice ak m ck] 27)).alloc (.cells #[.slice ae' n ce', .slice ak' m ck'] 27)) ww) (fun i _ => m - (intOf i).toNat)
        case atStart => exact ⟨0, Nat.zero_le _, rfl, Iff.rfl, HW.out⟩
        case round =>
          obtain ⟨k, hk, rfl, hiff, hwk⟩ := hrel
          have HIF := Lib.hid hiff; clear hiff
          have HWK := Lib.hid hwk; clear hwk
          by_cases hlt : k < m
          · obtain ⟨key, es0, sub, rest, hdr⟩ := KidsL.drop_some (n := k) (ks := ks) (by rw [HM.out]; exact hlt)
            obtain ⟨key', es0', sub', rest', hdr'⟩ := KidsL.drop_some (n := k) (ks := ks') (by rw [HLK.out]; exact hlt)
            rcases Rd.shape HKR.out with ⟨ad, he, h0⟩ | ⟨e1, off1, cc1, he, hmax⟩
            · exfalso; omega
            rcases Rd.shape HKR'.out with ⟨ad, he2, h0⟩ | ⟨e2, off2, cc2, he2, hmax2⟩
            · exfalso; omega
            injection he with g1 g2 g3
            injection he2 with g4 g5 g6
            subst g1 g3 g4 g6
            clear g2 g5
            have hfw := HFB.out.then1 HWK.out
            obtain ⟨ev0, kv0, p0, p1, p2, hta⟩ := kid_at (HKR.out.keep0 hfw) (HFOR.out.keep0 hfw) hdr
            obtain ⟨ev1, kv1, q0, q1, q2, htb⟩ := kid_at (HKR'.out.keep0 hfw) (HFOR'.out.keep0 hfw) hdr'
            clear hfw
            have hss := size_sub k hdr
            have hst1 := sizeT_sub k hdr
            have hst2 := sizeT_sub k hdr'
            have HC := Lib.hid (fun W (f : Frm NoS wr W) => IH.out es0 sub es0' sub' W ev0 kv0 ev1 kv1 (by have := HNN.out; omega) (hta.keep0 f) (htb.keep0 f) (by have := HSZ.out; unfold sizeT at *; omega) (by have := HSZ'.out; unfold sizeT at *; omega))
            have HST := Lib.hid (kids_step hdr hdr')
            obtain ⟨a0, c0, rfl⟩ := hta.ents.rd.sl
            obtain ⟨o3, hk3, -⟩ := hta.kids
            obtain ⟨a1, c1, rfl⟩ := hk3.rd.sl
            obtain ⟨a0', c0', rfl⟩ := htb.ents.rd.sl
            obtain ⟨o4, hk4, -⟩ := htb.kids
            obtain ⟨a1', c1', rfl⟩ := hk4.rd.sl
            clear hk3 hk4 hta htb hdr hdr' hss hst1 hst2
            generalize es0.length = n0 at *
            generalize sub.len = m0 at *
            generalize es0'.length = n1 at *
            generalize sub'.len = m1 at *
            obtain ⟨α, hne, K, hK1, hK0, hK2⟩ := worlds wr
            have kb := fun s => HBX.out (K s) (HWK.out.then1 (hK1 s))
            have k0 := fun s => (kb s).1
            have k1 := fun s => (kb s).2.1
            have k2 := fun s => (kb s).2.2.1
            have k3 := fun s => (kb s).2.2.2
            have r0 := fun s => (hK1 s).cell' p0 id
            have r1 := fun s => (hK1 s).cell' p1 id
            have r2 := fun s => (hK1 s).cell' p2 id
            have t0 := fun s => (hK1 s).cell' q0 id
            have t1 := fun s => (hK1 s).cell' q1 id
            have t2 := fun s => (hK1 s).cell' q2 id
            clear kb p0 p1 p2 q0 q1 q2
            have HFK := Lib.hid (fun s => HWK.out.then1 (hK1 s))
            have HK1 := Lib.hid hK1
            by_cases hkey : key = key'
            · by_cases hsub : es0 = es0' ∧ sub = sub'
              · rw [tf_true hsub] at HC
                have HY := Lib.hid (show key = key' ∧ es0 = es0' ∧ sub = sub' from ⟨hkey, hsub⟩)
                subst hkey
                clear hsub
                go_wp2_with fail
                refine wp_region_new K (by kernel_rfl) (by kernel_rfl) hK0 ?_
                repeat (go_big_quiet_step ((go_at_call 42; exact Calls.in_class hK2 (HC.out _ (HK1.out _)))))
                refine wpQuiet_nil ?_
                intro w' hw'
                obtain ⟨s, rfl⟩ := hw'
                go_wp2
                go_roundw
                case rel => exact ⟨k + 1, by omega, by go_num, HIF.out.trans (HST.out.trans ⟨fun h => h.2, fun h => ⟨⟨by trivial, HY.out.2⟩, h⟩⟩), HFK.out s⟩
                case measure => simp [intOf]; omega
              · rw [tf_false hsub] at HC
                have HY := Lib.hid (show ¬ (es = es' ∧ ks = ks') from fun h => hsub (HST.out.1 (HIF.out.1 h.2)).1.2)
                subst hkey
                clear hsub
                go_wp2_with fail
                refine wp_region_new K (by kernel_rfl) (by kernel_rfl) hK0 ?_
                repeat (go_big_quiet_step ((go_at_call 42; exact Calls.in_class hK2 (HC.out _ (HK1.out _)))))
                refine wpQuiet_nil ?_
                intro w' hw'
                obtain ⟨s, rfl⟩ := hw'
                go_wp2
                go_ret
                exact ⟨ret_bool (tf_false HY.out).symm, HFB.out.then1 (HFK.out s)⟩
            · have HY := Lib.hid (show ¬ (es = es' ∧ ks = ks') from fun h => hkey (HST.out.1 (HIF.out.1 h.2)).1.1)
              have gb := ne_text hkey
              have gc : (key.toList == key'.toList) = false := by simpa using gb
              go_wp2_with fail
              refine wp_region_new K (by kernel_rfl) (by kernel_rfl) hK0 ?_
              repeat (go_big_quiet_step ((go_at_call 42; exact Calls.in_class hK2 (HC.out _ (HK1.out _)))))
              refine wpQuiet_nil ?_
              intro w' hw'
              obtain ⟨s, rfl⟩ := hw'
              go_wp2
              go_ret
              exact ⟨ret_bool (tf_false HY.out).symm, HFB.out.then1 (HFK.out s)⟩
          · obtain rfl : m = k := by omega
            have hkk : ks = ks' := HIF.out.2 (by rw [KidsL.drop_none (by rw [HM.out]; exact Nat.le_refl _), KidsL.drop_none (by rw [HLK.out]; exact Nat.le_refl _)])
            have HKK := Lib.hid hkk; clear hkk
            go_wp2
            go_ret
            exact ⟨ret_bool (tf_true ⟨HEE.out, HKK.out⟩).symm, HFB.out.then1 HWK.out⟩
end Go.Proofs.YtclfajhdonabhaaGreat

/- tributaryref09: Same; tributaryref22: Same: the walks. Printed by wip/samegen.py. -/
namespace Go.Proofs.YtclfajhdonabhaaGreat
open Go.RowKit

set_option maxHeartbeats 4000000 in
set_option maxRecDepth 1000000 in
theorem r9Same_any (Q Q' : Nat → Prop) (es : List Ent) (ks : KidsL) (c : CtxL) (es' : List Ent) (ks' : KidsL) (c' : CtxL) (w : World) (ev kv cv ev' kv' cv' : Value) (h : CauAt Q w ev kv cv es ks c) (hok : CauOk es ks c) (h' : CauAt Q' w ev' kv' cv' es' ks' c') (hok' : CauOk es' ks' c') :
    Calls Tryz.prog 19 #[.agg #[ev, kv, cv], .agg #[ev', kv', cv']] w fun e w' => e = .returned (.bool (tf ((es = es' ∧ ks = ks') ∧ c = c'))) ∧ Frm NoS w w' := by
  obtain ⟨a0, c0, a1, c1, a2, c2, rfl, rfl, rfl⟩ := h.shape
  obtain ⟨b0, d0, b1, d1, b2, d2, rfl, rfl, rfl⟩ := h'.shape
  have HT := Lib.hid (fun W (f : Frm NoS w W) => r8Same_any Q Q' _ es ks es' ks' W _ _ _ _ (Nat.lt_succ_self _) (h.tree.keep0 f) (h'.tree.keep0 f) (Nat.le_trans hok.small (by decide)) (Nat.le_trans hok'.small (by decide)))
  have hde : decide (c = c') = tf (c = c') := tf_bool (by rw [decide_eq_true_iff])
  have HC := Lib.hid (fun W (f : Frm NoS w W) => hde ▸ r7Same_any W _ _ c c' (Rd.keep0 h.ctx f) (Rd.keep0 h'.ctx f) (Nat.le_trans hok.len (by decide)) (Nat.le_trans hok'.len (by decide)))
  clear h hok h' hok' hde
  by_cases r3 : es = es' ∧ ks = ks'
  rotate_left 1
  · rw [tf_false r3] at HT
    rw [tf_false fun h => r3 h.1]
    clear r3 HC
    generalize es.length = n at *
    generalize ks.len = m at *
    generalize c.length = k at *
    generalize es'.length = n' at *
    generalize ks'.len = m' at *
    generalize c'.length = k' at *
    have HFB := Lib.hid ((Frm.alloc NoS w (.cells #[.slice a0 n c0, .slice a1 m c1, .slice a2 k c2] 31)).alloc1 (o := .cells #[.slice b0 n' d0, .slice b1 m' d1, .slice b2 k' d2] 31))
    have HBX := Lib.hid (pair3 w (.slice a0 n c0) (.slice a1 m c1) (.slice a2 k c2) (.slice b0 n' d0) (.slice b1 m' d1) (.slice b2 k' d2) 31)
    go_enter Tryz.func19, Tryz.ntmps19
    go_wp2_with (first
      | (go_at_call 42; go_loud (refine (HT.out _ HFB.out).mono ?_; rintro e w1 ⟨rfl, hw1⟩; obtain ⟨y0, y1, y2, y3, y4, y5⟩ := HBX.out w1 hw1; have HW1 := Lib.hid hw1; clear hw1)))
    go_ret
    exact ⟨rfl, HFB.out.then1 HW1.out⟩
  rw [tf_true r3] at HT
  have hall : tf ((es = es' ∧ ks = ks') ∧ c = c') = tf (c = c') := tf_congr ⟨fun h => h.2, fun h => ⟨r3, h⟩⟩
  rw [hall]
  clear hall r3
  generalize tf (c = c') = y at *
  generalize es.length = n at *
  generalize ks.len = m at *
  generalize c.length = k at *
  generalize es'.length = n' at *
  generalize ks'.len = m' at *
  generalize c'.length = k' at *
  have HFB := Lib.hid ((Frm.alloc NoS w (.cells #[.slice a0 n c0, .slice a1 m c1, .slice a2 k c2] 31)).alloc1 (o := .cells #[.slice b0 n' d0, .slice b1 m' d1, .slice b2 k' d2] 31))
  have HBX := Lib.hid (pair3 w (.slice a0 n c0) (.slice a1 m c1) (.slice a2 k c2) (.slice b0 n' d0) (.slice b1 m' d1) (.slice b2 k' d2) 31)
  go_enter Tryz.func19, Tryz.ntmps19
  go_wp2_with (first
    | (go_at_call 42; go_loud (refine (HT.out _ HFB.out).mono ?_; rintro e w1 ⟨rfl, hw1⟩; obtain ⟨y0, y1, y2, y3, y4, y5⟩ := HBX.out w1 hw1; have HW1 := Lib.hid hw1; clear hw1))
    | (go_at_call 28; go_loud (refine (HC.out _ (HFB.out.then1 HW1.out)).mono ?_; rintro e w2 ⟨rfl, hw2⟩; have HW2 := Lib.hid (HW1.out.then1 hw2); clear hw2)))
  go_ret
  exact ⟨rfl, HFB.out.then1 HW2.out⟩
set_option maxHeartbeats 8000000 in
set_option maxRecDepth 1000000 in
theorem r22Same_any (Q Q' : Nat → Prop) (es : List Ent) (ks : KidsL) (c : CtxL) (es' : List Ent) (ks' : KidsL) (c' : CtxL) (w : World) (dc af la v0 v1 v2 v3 dc' af' la' v0' v1' v2' v3' : Int) (ev kv cv ev' kv' cv' : Value) (h : CauAt Q w ev kv cv es ks c) (hok : CauOk es ks c) (h' : CauAt Q' w ev' kv' cv' es' ks' c') (hok' : CauOk es' ks' c') :
    Calls Tryz.prog 15 #[.agg #[.int .i64 dc, .int .i64 af, .int .i64 la, .int .i64 v0, .int .i64 v1, .int .i64 v2, .int .i64 v3, ev, kv, cv], .agg #[.int .i64 dc', .int .i64 af', .int .i64 la', .int .i64 v0', .int .i64 v1', .int .i64 v2', .int .i64 v3', ev', kv', cv']] w fun e w' => e = .returned (.bool (tf (BunEq dc af la v0 v1 v2 v3 dc' af' la' v0' v1' v2' v3' es ks c es' ks' c'))) ∧ Frm NoS w w' := by
  have HC := Lib.hid (fun W (f : Frm NoS w W) => r9Same_any Q Q' es ks c es' ks' c' W _ _ _ _ _ _ (h.keep0 f) hok (h'.keep0 f) hok')
  obtain ⟨a0, c0, a1, c1, a2, c2, rfl, rfl, rfl⟩ := h.shape
  obtain ⟨b0, d0, b1, d1, b2, d2, rfl, rfl, rfl⟩ := h'.shape
  clear h hok h' hok'
  by_cases e0 : dc = dc'
  rotate_left 1
  · rw [tf_false fun h => e0 h.1]
    have ge : ((dc : Int) == dc') = false := by simpa using e0
    clear e0 HC
    generalize es.length = n at *
    generalize ks.len = m at *
    generalize c.length = k at *
    generalize es'.length = n' at *
    generalize ks'.len = m' at *
    generalize c'.length = k' at *
    have HFB := Lib.hid ((Frm.alloc NoS w (.cells #[.int .i64 dc, .int .i64 af, .int .i64 la, .int .i64 v0, .int .i64 v1, .int .i64 v2, .int .i64 v3, .slice a0 n c0, .slice a1 m c1, .slice a2 k c2] 33)).alloc1 (o := .cells #[.int .i64 dc', .int .i64 af', .int .i64 la', .int .i64 v0', .int .i64 v1', .int .i64 v2', .int .i64 v3', .slice b0 n' d0, .slice b1 m' d1, .slice b2 k' d2] 33))
    have HBX := Lib.hid (pair10 w (.int .i64 dc) (.int .i64 af) (.int .i64 la) (.int .i64 v0) (.int .i64 v1) (.int .i64 v2) (.int .i64 v3) (.slice a0 n c0) (.slice a1 m c1) (.slice a2 k c2) (.int .i64 dc') (.int .i64 af') (.int .i64 la') (.int .i64 v0') (.int .i64 v1') (.int .i64 v2') (.int .i64 v3') (.slice b0 n' d0) (.slice b1 m' d1) (.slice b2 k' d2) 33)
    obtain ⟨⟨y0, y1, y2, y3, y4, y5, y6, y7, y8, y9⟩, z0, z1, z2, z3, z4, z5, z6, z7, z8, z9⟩ := HBX.out _ (Frm.refl _ _)
    go_enter Tryz.func15, Tryz.ntmps15
    go_wp2
    go_ret
    exact ⟨rfl, HFB.out⟩
  subst e0
  by_cases e1 : af = af'
  rotate_left 1
  · rw [tf_false fun h => e1 h.2.1]
    have ge : ((af : Int) == af') = false := by simpa using e1
    clear e1 HC
    generalize es.length = n at *
    generalize ks.len = m at *
    generalize c.length = k at *
    generalize es'.length = n' at *
    generalize ks'.len = m' at *
    generalize c'.length = k' at *
    have HFB := Lib.hid ((Frm.alloc NoS w (.cells #[.int .i64 dc, .int .i64 af, .int .i64 la, .int .i64 v0, .int .i64 v1, .int .i64 v2, .int .i64 v3, .slice a0 n c0, .slice a1 m c1, .slice a2 k c2] 33)).alloc1 (o := .cells #[.int .i64 dc, .int .i64 af', .int .i64 la', .int .i64 v0', .int .i64 v1', .int .i64 v2', .int .i64 v3', .slice b0 n' d0, .slice b1 m' d1, .slice b2 k' d2] 33))
    have HBX := Lib.hid (pair10 w (.int .i64 dc) (.int .i64 af) (.int .i64 la) (.int .i64 v0) (.int .i64 v1) (.int .i64 v2) (.int .i64 v3) (.slice a0 n c0) (.slice a1 m c1) (.slice a2 k c2) (.int .i64 dc) (.int .i64 af') (.int .i64 la') (.int .i64 v0') (.int .i64 v1') (.int .i64 v2') (.int .i64 v3') (.slice b0 n' d0) (.slice b1 m' d1) (.slice b2 k' d2) 33)
    obtain ⟨⟨y0, y1, y2, y3, y4, y5, y6, y7, y8, y9⟩, z0, z1, z2, z3, z4, z5, z6, z7, z8, z9⟩ := HBX.out _ (Frm.refl _ _)
    go_enter Tryz.func15, Tryz.ntmps15
    go_wp2
    go_ret
    exact ⟨rfl, HFB.out⟩
  subst e1
  by_cases e2 : la = la'
  rotate_left 1
  · rw [tf_false fun h => e2 h.2.2.1]
    have ge : ((la : Int) == la') = false := by simpa using e2
    clear e2 HC
    generalize es.length = n at *
    generalize ks.len = m at *
    generalize c.length = k at *
    generalize es'.length = n' at *
    generalize ks'.len = m' at *
    generalize c'.length = k' at *
    have HFB := Lib.hid ((Frm.alloc NoS w (.cells #[.int .i64 dc, .int .i64 af, .int .i64 la, .int .i64 v0, .int .i64 v1, .int .i64 v2, .int .i64 v3, .slice a0 n c0, .slice a1 m c1, .slice a2 k c2] 33)).alloc1 (o := .cells #[.int .i64 dc, .int .i64 af, .int .i64 la', .int .i64 v0', .int .i64 v1', .int .i64 v2', .int .i64 v3', .slice b0 n' d0, .slice b1 m' d1, .slice b2 k' d2] 33))
    have HBX := Lib.hid (pair10 w (.int .i64 dc) (.int .i64 af) (.int .i64 la) (.int .i64 v0) (.int .i64 v1) (.int .i64 v2) (.int .i64 v3) (.slice a0 n c0) (.slice a1 m c1) (.slice a2 k c2) (.int .i64 dc) (.int .i64 af) (.int .i64 la') (.int .i64 v0') (.int .i64 v1') (.int .i64 v2') (.int .i64 v3') (.slice b0 n' d0) (.slice b1 m' d1) (.slice b2 k' d2) 33)
    obtain ⟨⟨y0, y1, y2, y3, y4, y5, y6, y7, y8, y9⟩, z0, z1, z2, z3, z4, z5, z6, z7, z8, z9⟩ := HBX.out _ (Frm.refl _ _)
    go_enter Tryz.func15, Tryz.ntmps15
    go_wp2
    go_ret
    exact ⟨rfl, HFB.out⟩
  subst e2
  by_cases e3 : v0 = v0' ∧ v1 = v1' ∧ v2 = v2' ∧ v3 = v3'
  rotate_left 1
  · rw [tf_false fun h => e3 h.2.2.2.1]
    have hveq := vec_eq_false e3
    clear e3 HC
    generalize es.length = n at *
    generalize ks.len = m at *
    generalize c.length = k at *
    generalize es'.length = n' at *
    generalize ks'.len = m' at *
    generalize c'.length = k' at *
    have HFB := Lib.hid ((Frm.alloc NoS w (.cells #[.int .i64 dc, .int .i64 af, .int .i64 la, .int .i64 v0, .int .i64 v1, .int .i64 v2, .int .i64 v3, .slice a0 n c0, .slice a1 m c1, .slice a2 k c2] 33)).alloc1 (o := .cells #[.int .i64 dc, .int .i64 af, .int .i64 la, .int .i64 v0', .int .i64 v1', .int .i64 v2', .int .i64 v3', .slice b0 n' d0, .slice b1 m' d1, .slice b2 k' d2] 33))
    have HBX := Lib.hid (pair10 w (.int .i64 dc) (.int .i64 af) (.int .i64 la) (.int .i64 v0) (.int .i64 v1) (.int .i64 v2) (.int .i64 v3) (.slice a0 n c0) (.slice a1 m c1) (.slice a2 k c2) (.int .i64 dc) (.int .i64 af) (.int .i64 la) (.int .i64 v0') (.int .i64 v1') (.int .i64 v2') (.int .i64 v3') (.slice b0 n' d0) (.slice b1 m' d1) (.slice b2 k' d2) 33)
    obtain ⟨⟨y0, y1, y2, y3, y4, y5, y6, y7, y8, y9⟩, z0, z1, z2, z3, z4, z5, z6, z7, z8, z9⟩ := HBX.out _ (Frm.refl _ _)
    go_enter Tryz.func15, Tryz.ntmps15
    go_wp2
    go_ret
    exact ⟨rfl, HFB.out⟩
  have hveq := vec_eq_true e3
  have hall : tf (BunEq dc af la v0 v1 v2 v3 dc af la v0' v1' v2' v3' es ks c es' ks' c') = tf ((es = es' ∧ ks = ks') ∧ c = c') := tf_congr ⟨fun h => h.2.2.2.2, fun h => ⟨rfl, rfl, rfl, e3, h⟩⟩
  rw [hall]
  clear hall e3
  generalize tf ((es = es' ∧ ks = ks') ∧ c = c') = y at *
  generalize es.length = n at *
  generalize ks.len = m at *
  generalize c.length = k at *
  generalize es'.length = n' at *
  generalize ks'.len = m' at *
  generalize c'.length = k' at *
  have HFB := Lib.hid ((Frm.alloc NoS w (.cells #[.int .i64 dc, .int .i64 af, .int .i64 la, .int .i64 v0, .int .i64 v1, .int .i64 v2, .int .i64 v3, .slice a0 n c0, .slice a1 m c1, .slice a2 k c2] 33)).alloc1 (o := .cells #[.int .i64 dc, .int .i64 af, .int .i64 la, .int .i64 v0', .int .i64 v1', .int .i64 v2', .int .i64 v3', .slice b0 n' d0, .slice b1 m' d1, .slice b2 k' d2] 33))
  have HBX := Lib.hid (pair10 w (.int .i64 dc) (.int .i64 af) (.int .i64 la) (.int .i64 v0) (.int .i64 v1) (.int .i64 v2) (.int .i64 v3) (.slice a0 n c0) (.slice a1 m c1) (.slice a2 k c2) (.int .i64 dc) (.int .i64 af) (.int .i64 la) (.int .i64 v0') (.int .i64 v1') (.int .i64 v2') (.int .i64 v3') (.slice b0 n' d0) (.slice b1 m' d1) (.slice b2 k' d2) 33)
  obtain ⟨⟨y0, y1, y2, y3, y4, y5, y6, y7, y8, y9⟩, z0, z1, z2, z3, z4, z5, z6, z7, z8, z9⟩ := HBX.out _ (Frm.refl _ _)
  go_enter Tryz.func15, Tryz.ntmps15
  go_wp2_with (go_at_call 19; go_loud (refine (HC.out _ HFB.out).mono ?_; rintro e w3 ⟨rfl, hw3⟩; have HW3 := Lib.hid (HFB.out.then1 hw3); clear hw3))
  go_ret
  exact ⟨rfl, HW3.out⟩
end Go.Proofs.YtclfajhdonabhaaGreat

/- tree: clone: what is copied may be written, too. Printed by wip/cloneFgen.py. -/
namespace Go.Proofs.YtclfajhdonabhaaGreat
open Go.RowKit

/-- A block that may be written. -/
def Free (w : World) (b : Nat) : Prop := ∀ j, w.frozen? ⟨b, j, none⟩ = false
theorem Free.of {w w' : World} {b : Nat} (h : w'.heap[b]? = w.heap[b]?) (hf : Free w b) : Free w' b := fun j => (World.frozen?_of_block (w := w) (a := ⟨b, j, none⟩) h).trans (hf j)
theorem Free.own {w : World} {e : TypeId} {size : Nat} {v : Value} {n : Nat} {xs : List Value} (h : w.ownsRow 0 e size v n xs) (b : Nat) (hb : v.ownBlock = some b) : Free w b := by
  rcases h.2 with ⟨rfl, rfl⟩ | ⟨g, cap, cur, rfl, _, hg, _⟩
  · simp [Value.ownBlock] at hb
  · simp [Value.ownBlock] at hb
    subst hb
    exact fun j => free_at' hg j
theorem OwnAt.rdqF {w0 w : World} {e : TypeId} {size : Nat} {v : Value} {n : Nat} {xs : List Value} (h : OwnAt w0 w e size v n xs) : RdQ (fun k => w0.heap.size ≤ k ∧ Free w k) w v n xs := ⟨h.rd, fun _ k hk => ⟨h.new k hk, Free.own h.own k hk⟩⟩
/-- The blocks of the copy so far, but for those of its parts that are still turned. -/
def ClnQF (w : World) (h2 h3 : Nat) (v : Value) (W : World) (b : Nat) : Prop := (w.heap.size ≤ b ∧ b ≠ h2 ∧ b ≠ h3 ∧ v.ownBlock ≠ some b) ∧ Free W b
/-- What of a tree is copied. -/
structure ClnAtF (w ww : World) (h2 h3 : Nat) (n : Nat) (ev kv : Value) (es : List Ent) (ks : KidsL) (k : Nat) (l : List KidQ) : Prop where
  frm : Frm NoS w ww
  b2 : ww.heap[h2]? = some (.cells #[.slice none 0 0, .slice none 0 0] 27 (0, 0))
  b3 : ww.heap[h3]? = some (.cells #[ev, kv] 27 (0, 0))
  new2 : w.heap.size ≤ h2
  new3 : w.heap.size ≤ h3
  ne : h2 ≠ h3
  own : OwnBut (fun b => b = h2 ∨ b = h3) w ww 76 3 kv k (l.flatMap KidQ.cells)
  ents : RdQ (ClnQF w h2 h3 kv ww) ww ev n (entC es)
  kids : ∀ q ∈ l, TreeAt (ClnQF w h2 h3 kv ww) ww q.ev q.kv q.es q.sub
  len : l.length = k
  all : ks = appK l (ks.drop k)
theorem ClnAtF.keep {w ww w' : World} {h2 h3 n : Nat} {ev kv : Value} {es : List Ent} {ks : KidsL} {k : Nat} {l : List KidQ} (h : ClnAtF w ww h2 h3 n ev kv es ks k l) (f : Frm NoS ww w') : ClnAtF w w' h2 h3 n ev kv es ks k l :=
  ⟨h.frm.then1 f, f.blk h.b2 id, f.blk h.b3 id, h.new2, h.new3, h.ne, h.own.keep f, h.ents.turn (fun b hb hQ => ⟨f.block b hb id, hQ.1, Free.of (f.block b hb id) hQ.2⟩), fun q hq => (h.kids q hq).turn (fun b hb hQ => ⟨f.block b hb id, hQ.1, Free.of (f.block b hb id) hQ.2⟩), h.len, h.all⟩
/-- One kid more: w1 is the world in which its slice grows, w' the one behind it; then it is stored. -/
theorem ClnAtF.step {w w1 w' : World} {h2 h3 n : Nat} {ev kv kv' : Value} {es : List Ent} {ks : KidsL} {k : Nat} {l : List KidQ} (h : ClnAtF w w1 h2 h3 n ev kv es ks k l) {q : KidQ} {rest : KidsL} (hd : ks.drop k = .cons q.key q.es q.sub rest)
    (hq : TreeAt (ClnQF w h2 h3 kv w1) w1 q.ev q.kv q.es q.sub)
    (own : w'.ownsRow 0 76 3 kv' (k + 1) (l.flatMap KidQ.cells ++ q.cells)) (fm : Frm (RowS kv) w1 w') (fr : Fresh w1 kv kv') :
    ClnAtF w (w'.setCell ⟨h3, 1, none⟩ kv') h2 h3 n ev kv' es ks (k + 1) (l ++ [q]) := by
  have hb3 : ¬ RowS kv h3 := fun hs => h.own.but h3 hs (.inr rfl)
  have hb2 : ¬ RowS kv h2 := fun hs => h.own.but h2 hs (.inl rfl)
  have hset : Frm (fun b => b = h3) w' (w'.setCell ⟨h3, 1, none⟩ kv') := Frm.setCell (S := fun b => b = h3) w' (p := ⟨h3, 1, none⟩) (.inl rfl) _
  have l2 := lt_of_block h.b2
  have l3 := lt_of_block h.b3
  have hne' : ∀ b, kv'.ownBlock = some b → b ≠ h2 ∧ b ≠ h3 := fun b hb => by
    rcases fr b hb with h1 | h1
    · exact ⟨fun e => h.own.but b h1 (.inl e), fun e => h.own.but b h1 (.inr e)⟩
    · exact ⟨fun e => by omega, fun e => by omega⟩
  have turn : ∀ b, b < w1.heap.size → ClnQF w h2 h3 kv w1 b → (w'.setCell ⟨h3, 1, none⟩ kv').heap[b]? = w1.heap[b]? ∧ ClnQF w h2 h3 kv' (w'.setCell ⟨h3, 1, none⟩ kv') b := fun b hb hQ => by
    obtain ⟨hQ, hfree⟩ := hQ
    have he : (w'.setCell ⟨h3, 1, none⟩ kv').heap[b]? = w1.heap[b]? := by rw [hset.block b (Nat.lt_of_lt_of_le hb fm.size) hQ.2.2.1, fm.block b hb hQ.2.2.2]
    refine ⟨he, ⟨hQ.1, hQ.2.1, hQ.2.2.1, fun e => ?_⟩, Free.of he hfree⟩
    rcases fr b e with h1 | h1
    · exact hQ.2.2.2 h1
    · omega
  have hown : OwnBut (fun b => b = h2 ∨ b = h3) w w' 76 3 kv' (k + 1) (l.flatMap KidQ.cells ++ q.cells) :=
    ⟨h.own.at_.step own fm fr, fun b hb hn => by
      have := hne' b hb
      rcases hn with hn | hn
      · exact this.1 hn
      · exact this.2 hn⟩
  refine ⟨hown.at_.frm.set1 (.inr h.new3), ?_, ?_, h.new2, h.new3, h.ne, ?_, h.ents.turn turn, fun x hx => ?_, by rw [List.length_append, h.len]; rfl, ?_⟩
  · exact hset.blk (fm.blk h.b2 hb2) h.ne
  · exact set_at' (fm.blk h.b3 hb3) 1 kv'
  · rw [List.flatMap_append]
    simp only [List.flatMap_cons, List.flatMap_nil, List.append_nil]
    exact hown.set (.inr rfl) h.new3 _
  · rcases List.mem_append.1 hx with hx | hx
    · exact (h.kids x hx).turn turn
    · simp only [List.mem_singleton] at hx; subst hx; exact hq.turn turn
  · rw [appK_snoc, KidsL.drop_succ k ks hd, ← hd]
    exact h.all
/-- At the end. -/
theorem ClnAtF.done {w ww : World} {h2 h3 n : Nat} {ev kv : Value} {es : List Ent} {ks : KidsL} {k : Nat} {l : List KidQ} (h : ClnAtF w ww h2 h3 n ev kv es ks k l) (hn : n = es.length) (hk : ks.len ≤ k) :
    TreeAt (fun b => w.heap.size ≤ b ∧ Free ((ww.setCell ⟨h2, 0, none⟩ ev).setCell ⟨h2, 1, none⟩ kv) b) ((ww.setCell ⟨h2, 0, none⟩ ev).setCell ⟨h2, 1, none⟩ kv) ev kv es ks ∧ Frm NoS w ((ww.setCell ⟨h2, 0, none⟩ ev).setCell ⟨h2, 1, none⟩ kv) ∧
      ((ww.setCell ⟨h2, 0, none⟩ ev).setCell ⟨h2, 1, none⟩ kv).heap[h2]? = some (.cells #[ev, kv] 27 (0, 0)) := by
  have hks : ks = mkK l := by
    have := h.all
    rw [KidsL.drop_none hk] at this
    exact this
  have fset : Frm (fun b => b = h2) ww ((ww.setCell ⟨h2, 0, none⟩ ev).setCell ⟨h2, 1, none⟩ kv) :=
    (Frm.setCell (S := fun b => b = h2) ww (p := ⟨h2, 0, none⟩) (.inl rfl) ev).trans (Frm.setCell (S := fun b => b = h2) _ (p := ⟨h2, 1, none⟩) (.inl rfl) kv) fun _ _ h => h
  have turn : ∀ b, b < ww.heap.size → ClnQF w h2 h3 kv ww b → ((ww.setCell ⟨h2, 0, none⟩ ev).setCell ⟨h2, 1, none⟩ kv).heap[b]? = ww.heap[b]? ∧ (w.heap.size ≤ b ∧ Free ((ww.setCell ⟨h2, 0, none⟩ ev).setCell ⟨h2, 1, none⟩ kv) b) := fun b hb hQ => ⟨fset.block b hb hQ.1.2.1, hQ.1.1, Free.of (fset.block b hb hQ.1.2.1) hQ.2⟩
  refine ⟨⟨hn ▸ h.ents.turn turn, outK l, ?_, ?_⟩, (h.frm.set1 (p := ⟨h2, 0, none⟩) (.inr h.new2)).set1 (p := ⟨h2, 1, none⟩) (.inr h.new2), set_at' (set_at' h.b2 0 ev) 1 kv⟩
  · rw [hks, mkK_len, mkK_cells, h.len]
    have ho := fset.owns h.own.at_.own fun b hb he => h.own.but b hb (.inl he)
    exact ⟨Rd.own ho, fun _ b hb => ⟨h.own.at_.new b hb, Free.own ho b hb⟩⟩
  · rw [hks]
    exact mkK_for fun q hq => (h.kids q hq).turn turn
end Go.Proofs.YtclfajhdonabhaaGreat
