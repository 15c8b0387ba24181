/- Words for the law PackBytes: Eq, TSame, R8Same, R9Same, Awake16, R16a, R16b. -/
import Derived.Test.YtafdclkpeomomaaGreatPackBytesG8
import Derived.Test.YtafdclkpeomomaaGreatPackBytesG9
import Derived.Test.YtafdclkpeomomaaGreatPackBytesG13
import Derived.Test.YtafdclkpeomomaaGreatPackBytesG14
import Derived.Test.YtafdclkpeomomaaGreatPackBytesG16
import Derived.Test.YtafdclkpeomomaaGreatPackBytesG17
import Derived.Test.YtafdclkpeomomaaGreatPackBytesG18
set_option linter.unusedSimpArgs false
set_option linter.unusedVariables false
/- slices.Equal of spans and of entries: the walks. -/
namespace Go.Proofs.YtafdclkpeomomaaGreat
open Go.RowKit

/-- The first k entries are alike. -/
def LikeE (a b : List Ent) (k : Nat) : Prop := ∀ j, j < k → a.getD j Ent.zero = b.getD j Ent.zero
theorem LikeE.all {a b : List Ent} (hl : a.length = b.length) (h : LikeE a b a.length) : a = b := by
  refine List.ext_getElem hl fun j h1 h2 => ?_
  have := h j h1
  rwa [getD_at _ h1, getD_at _ h2] at this
theorem LikeE.step {a b : List Ent} {k : Nat} (h : LikeE a b k) (he : a.getD k Ent.zero = b.getD k Ent.zero) : LikeE a b (k + 1) := fun j hj => by
  rcases Nat.lt_succ_iff_lt_or_eq.1 hj with hj | rfl
  · exact h j hj
  · exact he
set_option maxHeartbeats 2000000 in
set_option maxRecDepth 1000000 in
theorem spEq_any (w : World) (va vb : Value) (a b : CtxL) (ha : CtxAt w va a) (hb : CtxAt w vb b) (la : a.length ≤ 100000) (lb : b.length ≤ 100000) :
    Calls Tryz.prog 129 #[va, vb] w fun e w' => e = .returned (.bool (decide (a = b))) ∧ Frm NoS w w' := by
  obtain ⟨aA, cA, rfl⟩ := ha.sl
  obtain ⟨aB, cB, rfl⟩ := hb.sl
  by_cases hab : a.length = b.length
  rotate_left 1
  · have hne : decide (a = b) = false := by rw [decide_eq_false_iff_not]; intro h; exact hab (by rw [h])
    rw [hne]
    clear hne ha hb
    generalize a.length = n at *
    generalize b.length = m at *
    have hz : ((n : Int) == (m : Int)) = false := by simp; omega
    go_enter Tryz.func129, Tryz.ntmps129
    go_wp2
    go_ret
    exact ⟨rfl, Frm.refl _ _⟩
  have HAB := Lib.hid hab
  rw [← hab] at lb
  have hb2 : CtxAt w (.slice aB a.length cB) b := by rw [hab]; exact hb
  have HA := Lib.hid ha; clear ha
  have HB := Lib.hid hb2; clear hb hb2
  clear hab lb
  have hbl : b.length = a.length := HAB.out.symm
  rw [hbl]
  clear hbl
  generalize hn : a.length = n at *
  have HN := Lib.hid hn; clear hn
  go_enter Tryz.func129, Tryz.ntmps129
  go_wp2
  go_loopw [13] (fun i ww => ∃ k : Nat, k ≤ n ∧ i = .int .i64 k ∧ LikeC a b k ∧ Frm NoS w ww) (fun i _ => n - (intOf i).toNat)
  case atStart => exact ⟨0, Nat.zero_le _, rfl, (fun j hj => absurd hj (Nat.not_lt_zero _)), Frm.refl _ _⟩
  case round =>
    obtain ⟨k, hk, rfl, hlk, hf⟩ := hrel
    have HLK := Lib.hid hlk; clear hlk
    have HF := Lib.hid hf; clear hf
    by_cases hlt : k < n
    · have hka : k < a.length := by rw [HN.out]; exact hlt
      have hkb : k < b.length := by rw [← HAB.out]; exact hlt
      rcases Rd.shape HA.out with ⟨ad, he, h0⟩ | ⟨o1, off1, cc1, he, hmax⟩
      · exfalso; have := HN.out; omega
      rcases Rd.shape HB.out with ⟨ad, he2, h0⟩ | ⟨o2, off2, cc2, he2, hmax2⟩
      · exfalso; have := HN.out; have := HAB.out; omega
      injection he with e1 e2 e3
      injection he2 with e4 e5 e6
      subst e1 e3 e4 e6
      clear e2 e5
      obtain ⟨p0, p1, p2⟩ := spn_at HA.out (by rw [HN.out]) k hka
      obtain ⟨q0, q1, q2⟩ := spn_at HB.out HAB.out k hkb
      have p0 := HF.out.cell' p0 id
      have p1 := HF.out.cell' p1 id
      have p2 := HF.out.cell' p2 id
      have q0 := HF.out.cell' q0 id
      have q1 := HF.out.cell' q1 id
      have q2 := HF.out.cell' q2 id
      have hst : a.getD k (0, 0, 0) = b.getD k (0, 0, 0) → LikeC a b (k + 1) := HLK.out.step
      have HST := Lib.hid hst; clear hst
      have hno : a.getD k (0, 0, 0) ≠ b.getD k (0, 0, 0) → a ≠ b := fun h e => h (by rw [e])
      have HNO := Lib.hid hno; clear hno
      generalize a.getD k (0, 0, 0) = s at *
      generalize b.getD k (0, 0, 0) = t at *
      by_cases hst : s = t
      · subst hst
        go_wp2_with fail
        go_quiet (fail)
        go_wp2
        go_roundw
        case rel => exact ⟨k + 1, by omega, by go_num, HST.out (by trivial), HF.out.drewN1⟩
        case measure => simp [intOf]; omega
      · have HNE := Lib.hid (show false = decide (a = b) from by symm; rw [decide_eq_false_iff_not]; exact HNO.out hst)
        obtain ⟨s0, s1, s2⟩ := s
        obtain ⟨t0, t1, t2⟩ := t
        clear HST HNO
        dsimp only at p0 p1 p2 q0 q1 q2
        by_cases g0 : s0 = t0
        · subst g0
          by_cases g1 : s1 = t1
          · subst g1
            have g2 : s2 ≠ t2 := fun h => hst (by rw [h])
            clear hst
            have gb : ((s2 : Int) == t2) = false := by simpa using g2
            go_wp2_with fail
            go_quiet (fail)
            go_wp2
            go_ret
            exact ⟨ret_bool HNE.out, HF.out.drewN1⟩
          · clear hst
            have gb : ((s1 : Int) == t1) = false := by simpa using g1
            go_wp2_with fail
            go_quiet (fail)
            go_wp2
            go_ret
            exact ⟨ret_bool HNE.out, HF.out.drewN1⟩
        · clear hst
          have gb : ((s0 : Int) == t0) = false := by simpa using g0
          go_wp2_with fail
          go_quiet (fail)
          go_wp2
          go_ret
          exact ⟨ret_bool HNE.out, HF.out.drewN1⟩
    · obtain rfl : n = k := by omega
      have heq : decide (a = b) = true := by rw [decide_eq_true_iff]; exact LikeC.all (HN.out.trans HAB.out) (by rw [HN.out]; exact HLK.out)
      have HEQ := Lib.hid heq; clear heq
      go_wp2
      go_ret
      exact ⟨ret_bool HEQ.out.symm, HF.out⟩
set_option maxHeartbeats 2000000 in
set_option maxRecDepth 1000000 in
theorem enEq_any (w : World) (va vb : Value) (a b : List Ent) (ha : Rd w va a.length (entC a)) (hb : Rd w vb b.length (entC b)) (la : a.length ≤ 100000) (lb : b.length ≤ 100000) :
    Calls Tryz.prog 159 #[va, vb] w fun e w' => e = .returned (.bool (tf (a = b))) ∧ Frm NoS w w' := by
  obtain ⟨aA, cA, rfl⟩ := ha.sl
  obtain ⟨aB, cB, rfl⟩ := hb.sl
  by_cases hab : a.length = b.length
  rotate_left 1
  · have hne : tf (a = b) = false := by exact tf_false fun h => hab (by rw [h])
    rw [hne]
    clear hne ha hb
    generalize a.length = n at *
    generalize b.length = m at *
    have hz : ((n : Int) == (m : Int)) = false := by simp; omega
    go_enter Tryz.func159, Tryz.ntmps159
    go_wp2
    go_ret
    exact ⟨rfl, Frm.refl _ _⟩
  have HAB := Lib.hid hab
  rw [← hab] at lb
  have hb2 : Rd w (.slice aB a.length cB) a.length (entC b) := by rw [hab]; exact hb
  have HA := Lib.hid ha; clear ha
  have HB := Lib.hid hb2; clear hb hb2
  clear hab lb
  have hbl : b.length = a.length := HAB.out.symm
  rw [hbl]
  clear hbl
  generalize hn : a.length = n at *
  have HN := Lib.hid hn; clear hn
  go_enter Tryz.func159, Tryz.ntmps159
  go_wp2
  go_loopw [13] (fun i ww => ∃ k : Nat, k ≤ n ∧ i = .int .i64 k ∧ LikeE a b k ∧ Frm NoS w ww) (fun i _ => n - (intOf i).toNat)
  case atStart => exact ⟨0, Nat.zero_le _, rfl, (fun j hj => absurd hj (Nat.not_lt_zero _)), Frm.refl _ _⟩
  case round =>
    obtain ⟨k, hk, rfl, hlk, hf⟩ := hrel
    have HLK := Lib.hid hlk; clear hlk
    have HF := Lib.hid hf; clear hf
    by_cases hlt : k < n
    · have hka : k < a.length := by rw [HN.out]; exact hlt
      have hkb : k < b.length := by rw [← HAB.out]; exact hlt
      rcases Rd.shape HA.out with ⟨ad, he, h0⟩ | ⟨o1, off1, cc1, he, hmax⟩
      · exfalso; have := HN.out; omega
      rcases Rd.shape HB.out with ⟨ad, he2, h0⟩ | ⟨o2, off2, cc2, he2, hmax2⟩
      · exfalso; have := HN.out; have := HAB.out; omega
      injection he with e1 e2 e3
      injection he2 with e4 e5 e6
      subst e1 e3 e4 e6
      clear e2 e5
      obtain ⟨p0, p1, p2, p3⟩ := ent_at HA.out k hka
      obtain ⟨q0, q1, q2, q3⟩ := ent_at HB.out k hkb
      have p0 := HF.out.cell' p0 id
      have p1 := HF.out.cell' p1 id
      have p2 := HF.out.cell' p2 id
      have p3 := HF.out.cell' p3 id
      have q0 := HF.out.cell' q0 id
      have q1 := HF.out.cell' q1 id
      have q2 := HF.out.cell' q2 id
      have q3 := HF.out.cell' q3 id
      have hst : a.getD k Ent.zero = b.getD k Ent.zero → LikeE a b (k + 1) := HLK.out.step
      have HST := Lib.hid hst; clear hst
      have hno : a.getD k Ent.zero ≠ b.getD k Ent.zero → a ≠ b := fun h e => h (by rw [e])
      have HNO := Lib.hid hno; clear hno
      generalize a.getD k Ent.zero = s at *
      generalize b.getD k Ent.zero = t at *
      by_cases hst : s = t
      · subst hst
        go_wp2_with fail
        go_quiet (fail)
        go_wp2
        go_roundw
        case rel => exact ⟨k + 1, by omega, by go_num, HST.out (by trivial), HF.out.drewN1⟩
        case measure => simp [intOf]; omega
      · have HNE := Lib.hid (show false = tf (a = b) from (tf_false (HNO.out hst)).symm)
        obtain ⟨s0, s1, s2, s3⟩ := s
        obtain ⟨t0, t1, t2, t3⟩ := t
        clear HST HNO
        dsimp only at p0 p1 p2 p3 q0 q1 q2 q3
        by_cases g0 : s0 = t0
        · subst g0
          by_cases g1 : s1 = t1
          · subst g1
            by_cases g2 : s2 = t2
            · subst g2
              have g3 : s3 ≠ t3 := fun h => hst (by rw [h])
              clear hst
              have gb : ((s3 : Int) == t3) = false := by simpa using g3
              go_wp2_with fail
              go_quiet (fail)
              go_wp2
              go_ret
              exact ⟨ret_bool HNE.out, HF.out.drewN1⟩
            · clear hst
              have gb : ¬ s2.toList = t2.toList := fun h => g2 (by rw [ByteArray.toList_eq, ByteArray.toList_eq] at h; exact ByteArray.ext (Array.toList_inj.1 h))
              go_wp2_with fail
              go_quiet (fail)
              go_wp2
              go_ret
              exact ⟨ret_bool HNE.out, HF.out.drewN1⟩
          · clear hst
            have gb : ((s1 : Int) == t1) = false := by simpa using g1
            go_wp2_with fail
            go_quiet (fail)
            go_wp2
            go_ret
            exact ⟨ret_bool HNE.out, HF.out.drewN1⟩
        · clear hst
          have gb : ((s0 : Int) == t0) = false := by simpa using g0
          go_wp2_with fail
          go_quiet (fail)
          go_wp2
          go_ret
          exact ⟨ret_bool HNE.out, HF.out.drewN1⟩
    · obtain rfl : n = k := by omega
      have heq : tf (a = b) = true := tf_true (LikeE.all (HN.out.trans HAB.out) (by rw [HN.out]; exact HLK.out))
      have HEQ := Lib.hid heq; clear heq
      go_wp2
      go_ret
      exact ⟨ret_bool HEQ.out.symm, HF.out⟩
end Go.Proofs.YtafdclkpeomomaaGreat

/- tree: same: the walk, with slices.EqualFunc and the function that it is handed. -/
namespace Go.Proofs.YtafdclkpeomomaaGreat
open Go.RowKit

theorem ne_text {s t : ByteArray} (h : ¬ s = t) : ¬ s.toList = t.toList := fun e => h (by rw [ByteArray.toList_eq, ByteArray.toList_eq] at e; exact ByteArray.ext (Array.toList_inj.1 e))
/-- Two blocks of two cells, of three. -/
theorem pair2 (w : World) (a0 a1 b0 b1 : Value) (T : TypeId) (W : World) (f : Frm NoS ((w.alloc (.cells #[a0, a1] T)).alloc (.cells #[b0, b1] T)) W) :
    W.cell? ⟨w.heap.size, 0, none⟩ = some a0 ∧ W.cell? ⟨w.heap.size, 1, none⟩ = some a1 ∧ W.cell? ⟨w.heap.size + 1, 0, none⟩ = some b0 ∧ W.cell? ⟨w.heap.size + 1, 1, none⟩ = some b1 := by
  obtain ⟨h1, _, _⟩ := two_blocks w (.cells #[a0, a1] T) #[b0, b1] T
  have h0 : ((w.alloc (.cells #[a0, a1] T)).alloc (.cells #[b0, b1] T)).heap[w.heap.size]? = some (.cells #[a0, a1] T (0, 0)) := (Frm.alloc NoS _ _).blk (heap_alloc_new w _) id
  exact ⟨f.cell' (cell_at' h0 0 rfl) id, f.cell' (cell_at' h0 1 rfl) id, f.cell' (cell_at' h1 0 rfl) id, f.cell' (cell_at' h1 1 rfl) id⟩
theorem pair3 (w : World) (a0 a1 a2 b0 b1 b2 : Value) (T : TypeId) (W : World) (f : Frm NoS ((w.alloc (.cells #[a0, a1, a2] T)).alloc (.cells #[b0, b1, b2] T)) W) :
    W.cell? ⟨w.heap.size, 0, none⟩ = some a0 ∧ W.cell? ⟨w.heap.size, 1, none⟩ = some a1 ∧ W.cell? ⟨w.heap.size, 2, none⟩ = some a2 ∧ W.cell? ⟨w.heap.size + 1, 0, none⟩ = some b0 ∧ W.cell? ⟨w.heap.size + 1, 1, none⟩ = some b1 ∧ W.cell? ⟨w.heap.size + 1, 2, none⟩ = some b2 := by
  obtain ⟨h1, _, _⟩ := two_blocks w (.cells #[a0, a1, a2] T) #[b0, b1, b2] T
  have h0 : ((w.alloc (.cells #[a0, a1, a2] T)).alloc (.cells #[b0, b1, b2] T)).heap[w.heap.size]? = some (.cells #[a0, a1, a2] T (0, 0)) := (Frm.alloc NoS _ _).blk (heap_alloc_new w _) id
  exact ⟨f.cell' (cell_at' h0 0 rfl) id, f.cell' (cell_at' h0 1 rfl) id, f.cell' (cell_at' h0 2 rfl) id, f.cell' (cell_at' h1 0 rfl) id, f.cell' (cell_at' h1 1 rfl) id, f.cell' (cell_at' h1 2 rfl) id⟩
set_option maxHeartbeats 2000000 in
set_option maxRecDepth 1000000 in
theorem tsame1_of (key key' : ByteArray) (b : Bool) (W : World) (a0 a1 b0 b1 : Option Addr) (n m n' m' c0 c1 d0 d1 : Nat)
    (HT : ∀ W', Frm NoS W W' → Calls Tryz.prog 128 #[.agg #[.slice a0 n c0, .slice a1 m c1], .agg #[.slice b0 n' d0, .slice b1 m' d1]] W' fun e w' => e = .returned (.bool b) ∧ Frm NoS W' w') :
    Calls Tryz.prog 161 #[.agg #[.string key, .slice a0 n c0, .slice a1 m c1], .agg #[.string key', .slice b0 n' d0, .slice b1 m' d1]] W fun e w' => e = .returned (.bool (tf (key = key') && b)) ∧ Frm NoS W w' := by
  have HTT := Lib.hid HT; clear HT
  have HF := Lib.hid ((Frm.alloc NoS W (.cells #[.string key, .slice a0 n c0, .slice a1 m c1] 138)).alloc1 (o := .cells #[.string key', .slice b0 n' d0, .slice b1 m' d1] 138))
  by_cases hk : key = key'
  · subst hk
    rw [tf_true rfl, Bool.true_and]
    go_enter Tryz.func161, Tryz.ntmps161
    go_wp2_with (go_at_call 128; go_loud (refine (HTT.out _ HF.out).mono ?_); rintro e w1 ⟨rfl, hw1⟩; have HW1 := Lib.hid (HF.out.then1 hw1); clear hw1)
    go_ret
    exact ⟨rfl, HW1.out⟩
  · rw [tf_false hk, Bool.false_and]
    have hne := ne_text hk
    clear hk
    go_enter Tryz.func161, Tryz.ntmps161
    go_wp2
    go_ret
    exact ⟨rfl, HF.out⟩
theorem kids_step {ks ks' : KidsL} {k : Nat} {key key' : ByteArray} {es es' : List Ent} {sub sub' rest rest' : KidsL} (h : ks.drop k = .cons key es sub rest) (h' : ks'.drop k = .cons key' es' sub' rest') :
    (ks.drop k = ks'.drop k) ↔ ((key = key' ∧ es = es' ∧ sub = sub') ∧ ks.drop (k + 1) = ks'.drop (k + 1)) := by
  rw [KidsL.drop_succ k ks h, KidsL.drop_succ k ks' h', h, h']
  constructor
  · intro e
    injection e with e1 e2 e3 e4
    exact ⟨⟨e1, e2, e3⟩, e4⟩
  · rintro ⟨⟨rfl, rfl, rfl⟩, rfl⟩
    rfl
set_option maxHeartbeats 4000000 in
set_option maxRecDepth 1000000 in
theorem kidEq_any (Q Q' : Nat → Prop) (ks ks' : KidsL) (w : World) (kv kv' : Value) (os os' : List (Value × Value)) (h : Rd w kv ks.len (kidC ks os)) (hf : ForAt Q w ks os) (h' : Rd w kv' ks'.len (kidC ks' os')) (hf' : ForAt Q' w ks' os') (hl : ks.len ≤ 100000) (hl' : ks'.len ≤ 100000)
    (HG : ∀ n key es sub rest key' es' sub' rest', ks.drop n = .cons key es sub rest → ks'.drop n = .cons key' es' sub' rest' → ∀ W ev kv ev' kv', TreeAt Q W ev kv es sub → TreeAt Q' W ev' kv' es' sub' →
      Calls Tryz.prog 161 #[.agg #[.string key, ev, kv], .agg #[.string key', ev', kv']] W fun e w' => e = .returned (.bool (tf (key = key' ∧ es = es' ∧ sub = sub'))) ∧ Frm NoS W w') :
    Calls Tryz.prog 160 #[kv, kv', .func (.func 161) #[] #[]] w fun e w' => e = .returned (.bool (tf (ks = ks'))) ∧ Frm NoS w w' := by
  have eg : ∀ args w, (callFunc 161 args).run Tryz.prog w = .ok (.enter 161 args) w := enters_of Tryz.func161 (by kernel_rfl) rfl
  obtain ⟨a0, c0, rfl⟩ := h.sl
  obtain ⟨a1, c1, rfl⟩ := h'.sl
  have HKR := Lib.hid h; clear h
  have HFOR := Lib.hid hf; clear hf
  have HKR' := Lib.hid h'; clear h'
  have HFOR' := Lib.hid hf'; clear hf'
  have HGG := Lib.hid HG; clear HG
  by_cases hlen : ks.len = ks'.len
  rotate_left 1
  · rw [tf_false fun e => hlen (by rw [e])]
    clear HKR HFOR HKR' HFOR' HGG eg
    generalize ks.len = n at *
    generalize ks'.len = m at *
    have hz : ((n : Int) == (m : Int)) = false := by simp; omega
    go_enter Tryz.func160, Tryz.ntmps160
    go_wp2
    go_ret
    exact ⟨rfl, Frm.refl _ _⟩
  have HLEN := Lib.hid hlen.symm
  rw [← hlen] at HKR' ⊢
  clear hlen hl'
  generalize hkl : ks.len = m at *
  have HM := Lib.hid hkl; clear hkl
  go_enter Tryz.func160, Tryz.ntmps160
  go_wp2
  go_loopw [17] (fun i ww => ∃ k : Nat, k ≤ m ∧ i = .int .i64 k ∧ (ks = ks' ↔ ks.drop k = ks'.drop k) ∧ Frm NoS w ww) (fun i _ => m - (intOf i).toNat)
  case atStart => exact ⟨0, Nat.zero_le _, rfl, Iff.rfl, Frm.refl _ _⟩
  case round =>
    obtain ⟨k, hk, rfl, he, hw⟩ := hrel
    have HE := Lib.hid he; clear he
    have HW := Lib.hid hw; clear hw
    by_cases hlt : k < m
    · obtain ⟨key, es, sub, rest, hdr⟩ := KidsL.drop_some (n := k) (ks := ks) (by rw [HM.out]; exact hlt)
      obtain ⟨key', es', sub', rest', hdr'⟩ := KidsL.drop_some (n := k) (ks := ks') (by rw [HLEN.out]; exact hlt)
      rcases Rd.shape HKR.out with ⟨ad, he, h0⟩ | ⟨b, off, cc, he, hmax⟩
      · exfalso; omega
      rcases Rd.shape HKR'.out with ⟨ad, he2, h0⟩ | ⟨b2, off2, cc2, he2, hmax2⟩
      · exfalso; omega
      injection he with e1 e2 e3
      injection he2 with e4 e5 e6
      subst e1 e3 e4 e6
      clear e2 e5
      obtain ⟨ev, kv, p0, p1, p2, hta⟩ := kid_at (HKR.out.keep0 HW.out) (HFOR.out.keep0 HW.out) hdr
      obtain ⟨ev', kv', q0, q1, q2, htb⟩ := kid_at (HKR'.out.keep0 HW.out) (HFOR'.out.keep0 HW.out) hdr'
      have HC := Lib.hid (fun W (f : Frm NoS wr W) => HGG.out k key es sub rest key' es' sub' rest' hdr hdr' W ev kv ev' kv' (hta.keep0 f) (htb.keep0 f))
      have HST := Lib.hid (kids_step hdr hdr')
      obtain ⟨ae, ce, rfl⟩ := hta.ents.rd.sl
      obtain ⟨o3, hk3, -⟩ := hta.kids
      obtain ⟨ak, ck, rfl⟩ := hk3.rd.sl
      obtain ⟨ae', ce', rfl⟩ := htb.ents.rd.sl
      obtain ⟨o4, hk4, -⟩ := htb.kids
      obtain ⟨ak', ck', rfl⟩ := hk4.rd.sl
      clear hk3 hk4 hta htb hdr hdr'
      generalize es.length = n0 at *
      generalize sub.len = m0 at *
      generalize es'.length = n1 at *
      generalize sub'.len = m1 at *
      have HFB := Lib.hid ((Frm.alloc NoS wr (.cells #[.string key, .slice ae n0 ce, .slice ak m0 ck] 138)).alloc1 (o := .cells #[.string key', .slice ae' n1 ce', .slice ak' m1 ck'] 138))
      have hbl1 : b < wr.heap.size := World.block_lt_of_cell? _ _ p0
      have hbl2 : b2 < wr.heap.size := World.block_lt_of_cell? _ _ q0
      by_cases hy : key = key' ∧ es = es' ∧ sub = sub'
      · rw [tf_true hy] at HC
        have HY := Lib.hid hy; clear hy
        go_wp2_with (go_at_call 161; go_loud (refine (HC.out _ HFB.out).mono ?_); rintro e w1 ⟨rfl, hw1⟩; have HW1 := Lib.hid (HFB.out.then1 hw1); clear hw1)
        go_roundw
        case rel => exact ⟨k + 1, by omega, by go_num, HE.out.trans (HST.out.trans ⟨fun h => h.2, fun h => ⟨HY.out, h⟩⟩), HW.out.then1 HW1.out⟩
        case measure => simp [intOf]; omega
      · rw [tf_false hy] at HC
        have HY := Lib.hid hy; clear hy
        go_wp2_with (go_at_call 161; go_loud (refine (HC.out _ HFB.out).mono ?_); rintro e w1 ⟨rfl, hw1⟩; have HW1 := Lib.hid (HFB.out.then1 hw1); clear hw1)
        go_ret
        exact ⟨ret_bool (tf_false fun h => HY.out (HST.out.1 (HE.out.1 h)).1).symm, HW.out.then1 HW1.out⟩
    · obtain rfl : m = k := by omega
      have hend : ks = ks' := HE.out.2 (by rw [KidsL.drop_none (by rw [HM.out]; exact Nat.le_refl _), KidsL.drop_none (by rw [HLEN.out]; exact Nat.le_refl _)])
      have HEND := Lib.hid hend; clear hend
      go_wp2
      go_ret
      exact ⟨ret_bool (tf_true HEND.out).symm, HW.out⟩
set_option maxHeartbeats 4000000 in
set_option maxRecDepth 1000000 in
theorem tsame_any (Q Q' : Nat → Prop) : ∀ (N : Nat) (es : List Ent) (ks : KidsL) (es' : List Ent) (ks' : KidsL) (w : World) (ev kv ev' kv' : Value), sizeK ks < N → TreeAt Q w ev kv es ks → TreeAt Q' w ev' kv' es' ks' → sizeT es ks ≤ 100000 → sizeT es' ks' ≤ 100000 →
    Calls Tryz.prog 128 #[.agg #[ev, kv], .agg #[ev', kv']] w fun e w' => e = .returned (.bool (tf (es = es' ∧ ks = ks'))) ∧ Frm NoS w w' := by
  intro N
  induction N with
  | zero => intros; exfalso; omega
  | succ N IHN =>
    intro es ks es' ks' w ev kv ev' kv' hN ht ht' hsz hsz'
    obtain ⟨ae, ce, rfl⟩ := ht.ents.rd.sl
    obtain ⟨os, hkr, hfor⟩ := ht.kids
    obtain ⟨ak, ck, rfl⟩ := hkr.rd.sl
    obtain ⟨ae', ce', rfl⟩ := ht'.ents.rd.sl
    obtain ⟨os', hkr', hfor'⟩ := ht'.kids
    obtain ⟨ak', ck', rfl⟩ := hkr'.rd.sl
    have h1 : es.length ≤ 100000 := by unfold sizeT at hsz; omega
    have h2 : es'.length ≤ 100000 := by unfold sizeT at hsz'; omega
    have h3 : ks.len ≤ 100000 := by have := len_le_sizeK ks; unfold sizeT at hsz; omega
    have h4 : ks'.len ≤ 100000 := by have := len_le_sizeK ks'; unfold sizeT at hsz'; omega
    have HEN := Lib.hid (fun W (f : Frm NoS w W) => enEq_any W _ _ es es' (ht.ents.rd.keep0 f) (ht'.ents.rd.keep0 f) h1 h2)
    have HKE := Lib.hid (fun W (f : Frm NoS w W) => kidEq_any Q Q' ks ks' W _ _ os os' (hkr.rd.keep0 f) (hfor.keep0 f) (hkr'.rd.keep0 f) (hfor'.keep0 f) h3 h4 (fun n key es0 sub rest key' es0' sub' rest' hd hd' W ev kv ev' kv' hta htb => by
      obtain ⟨a0, c0, rfl⟩ := hta.ents.rd.sl
      obtain ⟨o3, hk3, _⟩ := hta.kids
      obtain ⟨a1, c1, rfl⟩ := hk3.rd.sl
      obtain ⟨b0, d0, rfl⟩ := htb.ents.rd.sl
      obtain ⟨o4, hk4, _⟩ := htb.kids
      obtain ⟨b1, d1, rfl⟩ := hk4.rd.sl
      have hss := size_sub n hd
      have hst := sizeT_sub n hd
      have hst' := sizeT_sub n hd'
      have := tsame1_of key key' (tf (es0 = es0' ∧ sub = sub')) W _ _ _ _ _ _ _ _ _ _ _ _ fun W' f => IHN es0 sub es0' sub' W' _ _ _ _ (by omega) (hta.keep0 f) (htb.keep0 f) (by unfold sizeT at *; omega) (by unfold sizeT at *; omega)
      have he : (tf (key = key') && tf (es0 = es0' ∧ sub = sub')) = tf (key = key' ∧ es0 = es0' ∧ sub = sub') := by
        rw [Bool.eq_iff_iff]; simp only [Bool.and_eq_true, tf_iff]
      rw [he] at this
      exact this))
    clear hkr hkr' hfor hfor' ht ht' IHN hN hsz hsz' h1 h2 h3 h4
    have HFB := Lib.hid ((Frm.alloc NoS w (.cells #[.slice ae es.length ce, .slice ak ks.len ck] 25)).alloc1 (o := .cells #[.slice ae' es'.length ce', .slice ak' ks'.len ck'] 25))
    have HBX := Lib.hid (pair2 w (.slice ae es.length ce) (.slice ak ks.len ck) (.slice ae' es'.length ce') (.slice ak' ks'.len ck') 25)
    by_cases hy : es = es'
    · rw [tf_true hy] at HEN
      have hall : tf (es = es' ∧ ks = ks') = tf (ks = ks') := tf_congr ⟨fun h => h.2, fun h => ⟨hy, h⟩⟩
      rw [hall]
      clear hall hy
      generalize tf (ks = ks') = b at *
      generalize es.length = n at *
      generalize ks.len = m at *
      generalize es'.length = n' at *
      generalize ks'.len = m' at *
      go_enter Tryz.func128, Tryz.ntmps128
      go_wp2_with (first
        | (go_at_call 159; go_loud (refine (HEN.out _ HFB.out).mono ?_); rintro e w1 ⟨rfl, hw1⟩; obtain ⟨y0, y1, y2, y3⟩ := HBX.out w1 hw1; have HW1 := Lib.hid (HFB.out.then1 hw1); clear hw1)
        | (go_at_call 160; go_loud (refine (HKE.out _ HW1.out).mono ?_); rintro e w2 ⟨rfl, hw2⟩; have HW2 := Lib.hid (HW1.out.then1 hw2); clear hw2))
      go_ret
      exact ⟨rfl, HW2.out⟩
    · rw [tf_false hy] at HEN
      rw [tf_false fun h => hy h.1]
      clear hy HKE
      generalize es.length = n at *
      generalize ks.len = m at *
      generalize es'.length = n' at *
      generalize ks'.len = m' at *
      go_enter Tryz.func128, Tryz.ntmps128
      go_wp2_with (go_at_call 159; go_loud (refine (HEN.out _ HFB.out).mono ?_); rintro e w1 ⟨rfl, hw1⟩; have HW1 := Lib.hid (HFB.out.then1 hw1); clear hw1)
      go_ret
      exact ⟨rfl, HW1.out⟩
end Go.Proofs.YtafdclkpeomomaaGreat

/- tributaryref08: Same: the walk. Printed by wip/r8samegen.py. -/
namespace Go.Proofs.YtafdclkpeomomaaGreat
open Go.RowKit

set_option maxHeartbeats 8000000 in
set_option maxRecDepth 1000000 in
theorem r8Same_any (Q Q' : Nat → Prop) : ∀ (N : Nat) (es : List Ent) (ks : KidsL) (es' : List Ent) (ks' : KidsL) (w : World) (ev kv ev' kv' : Value), sizeK ks < N → TreeAt Q w ev kv es ks → TreeAt Q' w ev' kv' es' ks' → sizeT es ks ≤ 100000 → sizeT es' ks' ≤ 100000 →
    Calls Tryz.prog 37 #[.agg #[ev, kv], .agg #[ev', kv']] w fun e w' => e = .returned (.bool (tf (es = es' ∧ ks = ks'))) ∧ Frm NoS w w' := by
  intro N
  induction N with
  | zero => intros; exfalso; omega
  | succ N IHN =>
    intro es ks es' ks' w ev kv ev' kv' hN ht ht' hsz hsz'
    obtain ⟨ae, ce, rfl⟩ := ht.ents.rd.sl
    obtain ⟨os, hkr, hfor⟩ := ht.kids
    obtain ⟨ak, ck, rfl⟩ := hkr.rd.sl
    obtain ⟨ae', ce', rfl⟩ := ht'.ents.rd.sl
    obtain ⟨os', hkr', hfor'⟩ := ht'.kids
    obtain ⟨ak', ck', rfl⟩ := hkr'.rd.sl
    have h1 : es.length ≤ 100000 := by unfold sizeT at hsz; omega
    have h2 : es'.length ≤ 100000 := by unfold sizeT at hsz'; omega
    have h3 : ks.len ≤ 100000 := by have := len_le_sizeK ks; unfold sizeT at hsz; omega
    have h4 : ks'.len ≤ 100000 := by have := len_le_sizeK ks'; unfold sizeT at hsz'; omega
    by_cases hle : es.length = es'.length
    rotate_left 1
    · rw [tf_false fun h => hle (by rw [h.1])]
      clear ht ht' hkr hkr' hfor hfor' IHN hN hsz hsz'
      generalize es.length = n at *
      generalize ks.len = m at *
      generalize es'.length = n' at *
      generalize ks'.len = m' at *
      have hz : ((n : Int) == (n' : Int)) = false := by simp; omega
      have HFB := Lib.hid ((Frm.alloc NoS w (.cells #[.slice ae n ce, .slice ak m ck] 25)).alloc1 (o := .cells #[.slice ae' n' ce', .slice ak' m' ck'] 25))
      go_enter Tryz.func37, Tryz.ntmps37
      go_wp2
      go_ret
      exact ⟨rfl, HFB.out⟩
    by_cases hlk : ks.len = ks'.len
    rotate_left 1
    · rw [tf_false fun h => hlk (by rw [h.2])]
      rw [← hle]
      clear ht ht' hkr hkr' hfor hfor' IHN hN hsz hsz' h2 hle
      generalize es.length = n at *
      generalize ks.len = m at *
      generalize ks'.len = m' at *
      have hz : ((m : Int) == (m' : Int)) = false := by simp; omega
      have HFB := Lib.hid ((Frm.alloc NoS w (.cells #[.slice ae n ce, .slice ak m ck] 25)).alloc1 (o := .cells #[.slice ae' n ce', .slice ak' m' ck'] 25))
      go_enter Tryz.func37, Tryz.ntmps37
      go_wp2
      go_ret
      exact ⟨rfl, HFB.out⟩
    have HE := Lib.hid ht.ents.rd
    have hE' := ht'.ents.rd
    have hK' := hkr'.rd
    rw [← hle] at hE' ⊢
    rw [← hlk] at hK' ⊢
    have HE' := Lib.hid hE'; clear hE'
    have HKR := Lib.hid hkr.rd
    have HKR' := Lib.hid hK'; clear hK'
    have HFOR := Lib.hid hfor; clear hfor
    have HFOR' := Lib.hid hfor'; clear hfor'
    have HLE := Lib.hid hle.symm; clear hle
    have HLK := Lib.hid hlk.symm; clear hlk
    have IH := Lib.hid IHN; clear IHN
    have HSZ := Lib.hid hsz; clear hsz
    have HSZ' := Lib.hid hsz'; clear hsz'
    have HNN := Lib.hid hN; clear hN
    clear ht ht' hkr hkr' h2 h4
    generalize hes : es.length = n at *
    have HN := Lib.hid hes; clear hes
    generalize hkl : ks.len = m at *
    have HM := Lib.hid hkl; clear hkl
    have HFB := Lib.hid ((Frm.alloc NoS w (.cells #[.slice ae n ce, .slice ak m ck] 25)).alloc1 (o := .cells #[.slice ae' n ce', .slice ak' m ck'] 25))
    have HBX := Lib.hid (pair2 w (.slice ae n ce) (.slice ak m ck) (.slice ae' n ce') (.slice ak' m ck') 25)
    go_enter Tryz.func37, Tryz.ntmps37
    go_wp2
    go_loopw [26] (fun i ww => ∃ k : Nat, k ≤ n ∧ i = .int .i64 k ∧ LikeE es es' k ∧ Frm NoS ((w.alloc (.cells #[.slice ae n ce, .slice ak m ck] 25)).alloc (.cells #[.slice ae' n ce', .slice ak' m ck'] 25)) ww) (fun i _ => n - (intOf i).toNat)
    case atStart => exact ⟨0, Nat.zero_le _, rfl, (fun j hj => absurd hj (Nat.not_lt_zero _)), Frm.refl _ _⟩
    case round =>
      obtain ⟨k, hk, rfl, hlk, hw⟩ := hrel
      have HLI := Lib.hid hlk; clear hlk
      have HW := Lib.hid hw; clear hw
      obtain ⟨b0, b1, b2, b3⟩ := HBX.out wr HW.out
      by_cases hlt : k < n
      · rcases Rd.shape HE.out with ⟨ad, he, h0⟩ | ⟨e1, off1, cc1, he, hmax⟩
        · exfalso; omega
        rcases Rd.shape HE'.out with ⟨ad, he2, h0⟩ | ⟨e2, off2, cc2, he2, hmax2⟩
        · exfalso; omega
        injection he with g1 g2 g3
        injection he2 with g4 g5 g6
        subst g1 g3 g4 g6
        clear g2 g5
        obtain ⟨p0, p1, p2, p3⟩ := ent_at HE.out k (by rw [HN.out]; exact hlt)
        obtain ⟨q0, q1, q2, q3⟩ := ent_at HE'.out k (by rw [HLE.out]; exact hlt)
        have hfw := HFB.out.then1 HW.out
        have p0 := hfw.cell' p0 id
        have p1 := hfw.cell' p1 id
        have p2 := hfw.cell' p2 id
        have p3 := hfw.cell' p3 id
        have q0 := hfw.cell' q0 id
        have q1 := hfw.cell' q1 id
        have q2 := hfw.cell' q2 id
        have q3 := hfw.cell' q3 id
        clear hfw
        have HST := Lib.hid (show es.getD k Ent.zero = es'.getD k Ent.zero → LikeE es es' (k + 1) from HLI.out.step)
        have HNO := Lib.hid (show es.getD k Ent.zero ≠ es'.getD k Ent.zero → ¬ (es = es' ∧ ks = ks') from fun h e => h (by rw [e.1]))
        generalize es.getD k Ent.zero = s at *
        generalize es'.getD k Ent.zero = t at *
        by_cases hst : s = t
        · subst hst
          go_wp2_with fail
          go_quiet (fail)
          go_wp2
          go_roundw
          case rel => exact ⟨k + 1, by omega, by go_num, HST.out (by trivial), HW.out.drewN1⟩
          case measure => simp [intOf]; omega
        · have HNE := Lib.hid (show false = tf (es = es' ∧ ks = ks') from (tf_false (HNO.out hst)).symm)
          obtain ⟨s0, s1, s2, s3⟩ := s
          obtain ⟨t0, t1, t2, t3⟩ := t
          clear HST HNO
          dsimp only at p0 p1 p2 p3 q0 q1 q2 q3
          by_cases g0 : s0 = t0
          · subst g0
            by_cases g1 : s1 = t1
            · subst g1
              by_cases g2 : s2 = t2
              · subst g2
                have g3 : s3 ≠ t3 := fun h => hst (by rw [h])
                clear hst
                have gb : ((s3 : Int) == t3) = false := by simpa using g3
                go_wp2_with fail
                go_quiet (fail)
                go_wp2
                go_ret
                exact ⟨ret_bool HNE.out, HFB.out.then1 HW.out.drewN1⟩
              · clear hst
                have gb := ne_text g2
                go_wp2_with fail
                go_quiet (fail)
                go_wp2
                go_ret
                exact ⟨ret_bool HNE.out, HFB.out.then1 HW.out.drewN1⟩
            · clear hst
              have gb : ((s1 : Int) == t1) = false := by simpa using g1
              go_wp2_with fail
              go_quiet (fail)
              go_wp2
              go_ret
              exact ⟨ret_bool HNE.out, HFB.out.then1 HW.out.drewN1⟩
          · clear hst
            have gb : ((s0 : Int) == t0) = false := by simpa using g0
            go_wp2_with fail
            go_quiet (fail)
            go_wp2
            go_ret
            exact ⟨ret_bool HNE.out, HFB.out.then1 HW.out.drewN1⟩
      · obtain rfl : n = k := by omega
        have hee : es = es' := LikeE.all (HN.out.trans HLE.out.symm) (by rw [HN.out]; exact HLI.out)
        have HEE := Lib.hid hee; clear hee
        go_wp2
        clear b0 b1 b2 b3
        go_loopw [44] (fun i ww => ∃ k : Nat, k ≤ m ∧ i = .int .i64 k ∧ (ks = ks' ↔ ks.drop k = ks'.drop k) ∧ Frm NoS ((w.alloc (.cells #[.slice ae n ce, .slice ak m ck] 25)).alloc (.cells #[.slice ae' n ce', .slice ak' m ck'] 25)) ww) (fun i _ => m - (intOf i).toNat)
        case atStart => exact ⟨0, Nat.zero_le _, rfl, Iff.rfl, HW.out⟩
        case round =>
          obtain ⟨k, hk, rfl, hiff, hwk⟩ := hrel
          have HIF := Lib.hid hiff; clear hiff
          have HWK := Lib.hid hwk; clear hwk
          by_cases hlt : k < m
          · obtain ⟨key, es0, sub, rest, hdr⟩ := KidsL.drop_some (n := k) (ks := ks) (by rw [HM.out]; exact hlt)
            obtain ⟨key', es0', sub', rest', hdr'⟩ := KidsL.drop_some (n := k) (ks := ks') (by rw [HLK.out]; exact hlt)
            rcases Rd.shape HKR.out with ⟨ad, he, h0⟩ | ⟨e1, off1, cc1, he, hmax⟩
            · exfalso; omega
            rcases Rd.shape HKR'.out with ⟨ad, he2, h0⟩ | ⟨e2, off2, cc2, he2, hmax2⟩
            · exfalso; omega
            injection he with g1 g2 g3
            injection he2 with g4 g5 g6
            subst g1 g3 g4 g6
            clear g2 g5
            have hfw := HFB.out.then1 HWK.out
            obtain ⟨ev0, kv0, p0, p1, p2, hta⟩ := kid_at (HKR.out.keep0 hfw) (HFOR.out.keep0 hfw) hdr
            obtain ⟨ev1, kv1, q0, q1, q2, htb⟩ := kid_at (HKR'.out.keep0 hfw) (HFOR'.out.keep0 hfw) hdr'
            clear hfw
            have hss := size_sub k hdr
            have hst1 := sizeT_sub k hdr
            have hst2 := sizeT_sub k hdr'
            have HC := Lib.hid (fun W (f : Frm NoS wr W) => IH.out es0 sub es0' sub' W ev0 kv0 ev1 kv1 (by have := HNN.out; omega) (hta.keep0 f) (htb.keep0 f) (by have := HSZ.out; unfold sizeT at *; omega) (by have := HSZ'.out; unfold sizeT at *; omega))
            have HST := Lib.hid (kids_step hdr hdr')
            obtain ⟨a0, c0, rfl⟩ := hta.ents.rd.sl
            obtain ⟨o3, hk3, -⟩ := hta.kids
            obtain ⟨a1, c1, rfl⟩ := hk3.rd.sl
            obtain ⟨a0', c0', rfl⟩ := htb.ents.rd.sl
            obtain ⟨o4, hk4, -⟩ := htb.kids
            obtain ⟨a1', c1', rfl⟩ := hk4.rd.sl
            clear hk3 hk4 hta htb hdr hdr' hss hst1 hst2
            generalize es0.length = n0 at *
            generalize sub.len = m0 at *
            generalize es0'.length = n1 at *
            generalize sub'.len = m1 at *
            obtain ⟨α, hne, K, hK1, hK0, hK2⟩ := worlds wr
            have kb := fun s => HBX.out (K s) (HWK.out.then1 (hK1 s))
            have k0 := fun s => (kb s).1
            have k1 := fun s => (kb s).2.1
            have k2 := fun s => (kb s).2.2.1
            have k3 := fun s => (kb s).2.2.2
            have r0 := fun s => (hK1 s).cell' p0 id
            have r1 := fun s => (hK1 s).cell' p1 id
            have r2 := fun s => (hK1 s).cell' p2 id
            have t0 := fun s => (hK1 s).cell' q0 id
            have t1 := fun s => (hK1 s).cell' q1 id
            have t2 := fun s => (hK1 s).cell' q2 id
            clear kb p0 p1 p2 q0 q1 q2
            have HFK := Lib.hid (fun s => HWK.out.then1 (hK1 s))
            have HK1 := Lib.hid hK1
            by_cases hkey : key = key'
            · by_cases hsub : es0 = es0' ∧ sub = sub'
              · rw [tf_true hsub] at HC
                have HY := Lib.hid (show key = key' ∧ es0 = es0' ∧ sub = sub' from ⟨hkey, hsub⟩)
                subst hkey
                clear hsub
                go_wp2_with fail
                refine wp_region_new K (by kernel_rfl) (by kernel_rfl) hK0 ?_
                repeat (go_big_quiet_step ((go_at_call 37; exact Calls.in_class hK2 (HC.out _ (HK1.out _)))))
                refine wpQuiet_nil ?_
                intro w' hw'
                obtain ⟨s, rfl⟩ := hw'
                go_wp2
                go_roundw
                case rel => exact ⟨k + 1, by omega, by go_num, HIF.out.trans (HST.out.trans ⟨fun h => h.2, fun h => ⟨⟨by trivial, HY.out.2⟩, h⟩⟩), HFK.out s⟩
                case measure => simp [intOf]; omega
              · rw [tf_false hsub] at HC
                have HY := Lib.hid (show ¬ (es = es' ∧ ks = ks') from fun h => hsub (HST.out.1 (HIF.out.1 h.2)).1.2)
                subst hkey
                clear hsub
                go_wp2_with fail
                refine wp_region_new K (by kernel_rfl) (by kernel_rfl) hK0 ?_
                repeat (go_big_quiet_step ((go_at_call 37; exact Calls.in_class hK2 (HC.out _ (HK1.out _)))))
                refine wpQuiet_nil ?_
                intro w' hw'
                obtain ⟨s, rfl⟩ := hw'
                go_wp2
                go_ret
                exact ⟨ret_bool (tf_false HY.out).symm, HFB.out.then1 (HFK.out s)⟩
            · have HY := Lib.hid (show ¬ (es = es' ∧ ks = ks') from fun h => hkey (HST.out.1 (HIF.out.1 h.2)).1.1)
              have gb := ne_text hkey
              have gc : (key.toList == key'.toList) = false := by simpa using gb
              go_wp2_with fail
              refine wp_region_new K (by kernel_rfl) (by kernel_rfl) hK0 ?_
              repeat (go_big_quiet_step ((go_at_call 37; exact Calls.in_class hK2 (HC.out _ (HK1.out _)))))
              refine wpQuiet_nil ?_
              intro w' hw'
              obtain ⟨s, rfl⟩ := hw'
              go_wp2
              go_ret
              exact ⟨ret_bool (tf_false HY.out).symm, HFB.out.then1 (HFK.out s)⟩
          · obtain rfl : m = k := by omega
            have hkk : ks = ks' := HIF.out.2 (by rw [KidsL.drop_none (by rw [HM.out]; exact Nat.le_refl _), KidsL.drop_none (by rw [HLK.out]; exact Nat.le_refl _)])
            have HKK := Lib.hid hkk; clear hkk
            go_wp2
            go_ret
            exact ⟨ret_bool (tf_true ⟨HEE.out, HKK.out⟩).symm, HFB.out.then1 HWK.out⟩
end Go.Proofs.YtafdclkpeomomaaGreat

/- tributaryref09: Same: the walk. -/
namespace Go.Proofs.YtafdclkpeomomaaGreat
open Go.RowKit

set_option maxHeartbeats 4000000 in
set_option maxRecDepth 1000000 in
theorem r9Same_any (Q Q' : Nat → Prop) (es : List Ent) (ks : KidsL) (c : CtxL) (es' : List Ent) (ks' : KidsL) (c' : CtxL) (w : World) (ev kv cv ev' kv' cv' : Value) (h : CauAt Q w ev kv cv es ks c) (hok : CauOk es ks c) (h' : CauAt Q' w ev' kv' cv' es' ks' c') (hok' : CauOk es' ks' c') :
    Calls Tryz.prog 17 #[.agg #[ev, kv, cv], .agg #[ev', kv', cv']] w fun e w' => e = .returned (.bool (tf ((es = es' ∧ ks = ks') ∧ c = c'))) ∧ Frm NoS w w' := by
  obtain ⟨a0, c0, a1, c1, a2, c2, rfl, rfl, rfl⟩ := h.shape
  obtain ⟨b0, d0, b1, d1, b2, d2, rfl, rfl, rfl⟩ := h'.shape
  have HT := Lib.hid (fun W (f : Frm NoS w W) => r8Same_any Q Q' _ es ks es' ks' W _ _ _ _ (Nat.lt_succ_self _) (h.tree.keep0 f) (h'.tree.keep0 f) (Nat.le_trans hok.small (by decide)) (Nat.le_trans hok'.small (by decide)))
  have hde : decide (c = c') = tf (c = c') := tf_bool (by rw [decide_eq_true_iff])
  have HC := Lib.hid (fun W (f : Frm NoS w W) => hde ▸ r7Same_any W _ _ c c' (Rd.keep0 h.ctx f) (Rd.keep0 h'.ctx f) (Nat.le_trans hok.len (by decide)) (Nat.le_trans hok'.len (by decide)))
  clear h hok h' hok' hde
  by_cases r3 : es = es' ∧ ks = ks'
  rotate_left 1
  · rw [tf_false r3] at HT
    rw [tf_false fun h => r3 h.1]
    clear r3 HC
    generalize es.length = n at *
    generalize ks.len = m at *
    generalize c.length = k at *
    generalize es'.length = n' at *
    generalize ks'.len = m' at *
    generalize c'.length = k' at *
    have HFB := Lib.hid ((Frm.alloc NoS w (.cells #[.slice a0 n c0, .slice a1 m c1, .slice a2 k c2] 29)).alloc1 (o := .cells #[.slice b0 n' d0, .slice b1 m' d1, .slice b2 k' d2] 29))
    have HBX := Lib.hid (pair3 w (.slice a0 n c0) (.slice a1 m c1) (.slice a2 k c2) (.slice b0 n' d0) (.slice b1 m' d1) (.slice b2 k' d2) 29)
    go_enter Tryz.func17, Tryz.ntmps17
    go_wp2_with (first
      | (go_at_call 37; go_loud (refine (HT.out _ HFB.out).mono ?_; rintro e w1 ⟨rfl, hw1⟩; obtain ⟨y0, y1, y2, y3, y4, y5⟩ := HBX.out w1 hw1; have HW1 := Lib.hid hw1; clear hw1)))
    go_ret
    exact ⟨rfl, HFB.out.then1 HW1.out⟩
  rw [tf_true r3] at HT
  have hall : tf ((es = es' ∧ ks = ks') ∧ c = c') = tf (c = c') := tf_congr ⟨fun h => h.2, fun h => ⟨r3, h⟩⟩
  rw [hall]
  clear hall r3
  generalize tf (c = c') = y at *
  generalize es.length = n at *
  generalize ks.len = m at *
  generalize c.length = k at *
  generalize es'.length = n' at *
  generalize ks'.len = m' at *
  generalize c'.length = k' at *
  have HFB := Lib.hid ((Frm.alloc NoS w (.cells #[.slice a0 n c0, .slice a1 m c1, .slice a2 k c2] 29)).alloc1 (o := .cells #[.slice b0 n' d0, .slice b1 m' d1, .slice b2 k' d2] 29))
  have HBX := Lib.hid (pair3 w (.slice a0 n c0) (.slice a1 m c1) (.slice a2 k c2) (.slice b0 n' d0) (.slice b1 m' d1) (.slice b2 k' d2) 29)
  go_enter Tryz.func17, Tryz.ntmps17
  go_wp2_with (first
    | (go_at_call 37; go_loud (refine (HT.out _ HFB.out).mono ?_; rintro e w1 ⟨rfl, hw1⟩; obtain ⟨y0, y1, y2, y3, y4, y5⟩ := HBX.out w1 hw1; have HW1 := Lib.hid hw1; clear hw1))
    | (go_at_call 35; go_loud (refine (HC.out _ (HFB.out.then1 HW1.out)).mono ?_; rintro e w2 ⟨rfl, hw2⟩; have HW2 := Lib.hid (HW1.out.then1 hw2); clear hw2)))
  go_ret
  exact ⟨rfl, HFB.out.then1 HW2.out⟩
end Go.Proofs.YtafdclkpeomomaaGreat

/- tributarylaw16: awake: the walk. -/
namespace Go.Proofs.YtafdclkpeomomaaGreat
open Go.RowKit

theorem kbytes_any (w : World) (ev kv cv : Value) (h : CauAt (fun _ => True) w ev kv cv kEs kKs kC) :
    Calls Tryz.prog 13 #[.agg #[ev, kv, cv]] w fun e w' => ∃ a c, e = .returned (.tuple #[.slice a kB.length c, .int .i64 0]) ∧ Copy w (.slice a kB.length c) kB w' :=
  (pBytes_any (fun _ => True) kEs kKs kC w ev kv cv h kOk).mono fun e w' ⟨h1, _, _⟩ => by
    obtain ⟨v, k, he, hend⟩ := h1 kRight
    rw [kBytes] at hend
    unfold EndIs at hend
    rw [if_pos (by decide)] at hend
    obtain ⟨rfl, hcp⟩ := hend
    obtain ⟨a, c, rfl⟩ := hcp.shape
    exact ⟨a, c, he, hcp⟩
theorem kread_any (w : World) (v : Value) (h : Rd w v kB.length (bV kB)) :
    Calls Tryz.prog 16 #[v] w fun e w' => ∃ ev kv cv, e = .returned (.tuple #[.agg #[ev, kv, cv], .int .i64 0]) ∧ CauAt (fun _ => True) w' ev kv cv kEs kKs kC ∧ Frm NoS w w' :=
  (pRead_any v kB kEs kKs kC (some []) w h (by have h0 := CauRes.make [] kRight; rw [List.append_nil, kBytes] at h0; exact h0) (by decide)).mono fun e w' hp => by
    obtain ⟨ev, kv, cv, he, ht, hc⟩ := hp.yes rfl
    exact ⟨ev, kv, cv, he, ⟨ht.turn fun b _ _ => ⟨rfl, trivial⟩, hc.at_⟩, hp.frm⟩
set_option maxHeartbeats 4000000 in
set_option maxRecDepth 1000000 in
theorem awake16_any (w : World) : Calls Tryz.prog 11 #[] w fun e w' => e = .returned (.bool true) ∧ Frm NoS w w' := by
  have HSM := Lib.hid (fun W ev kv cv ev' kv' cv' (h : CauAt (fun _ => True) W ev kv cv kEs kKs kC) (h' : CauAt (fun _ => True) W ev' kv' cv' kEs kKs kC) => tf_true (⟨⟨rfl, rfl⟩, rfl⟩ : (kEs = kEs ∧ kKs = kKs) ∧ kC = kC) ▸ r9Same_any (fun _ => True) (fun _ => True) kEs kKs kC kEs kKs kC W ev kv cv ev' kv' cv' h kOk h' kOk)
  go_enter Tryz.func11, Tryz.ntmps11
  go_wp2_with (first
    | (go_at_call 50; go_loud (refine (known16_any _).mono ?_); rintro e w1 ⟨ev1, kv1, cv1, rfl, hc1, hf1⟩; obtain ⟨a0, c0, a1, c1, a2, c2, rfl, rfl, rfl⟩ := hc1.shape; have HC1 := Lib.hid hc1; clear hc1; have HF1 := Lib.hid hf1; clear hf1)
    | (go_at_call 13; go_loud (refine (kbytes_any _ _ _ _ HC1.out).mono ?_); rintro e w2 ⟨a3, c3, rfl, cp2⟩; have HF2 := Lib.hid (HF1.out.then1 cp2.frm); have HP2 := Lib.hid cp2; clear cp2)
    | (go_at_call 16; go_loud (refine (kread_any _ _ HP2.out.rd).mono ?_); rintro e w3 ⟨ev3, kv3, cv3, rfl, hc3, hf3⟩; obtain ⟨b0, d0, b1, d1, b2, d2, rfl, rfl, rfl⟩ := hc3.shape; have HC3 := Lib.hid hc3; clear hc3; have HF3 := Lib.hid (HF2.out.then1 hf3); have HP3 := Lib.hid (HP2.out.step hf3); clear hf3))
  have hx := heap_alloc_new w3 (.cells #[.slice b0 kEs.length d0, .slice b1 kKs.len d1, .slice b2 kC.length d2] 29)
  have hwa : Frm NoS w3 (w3.alloc (.cells #[.slice b0 kEs.length d0, .slice b1 kKs.len d1, .slice b2 kC.length d2] 29)) := Frm.alloc _ _ _
  generalize w3.alloc (.cells #[.slice b0 kEs.length d0, .slice b1 kKs.len d1, .slice b2 kC.length d2] 29) = WA at *
  have hlb := lt_of_block hx
  refine wp_region_G (S := fun w' => Frm NoS WA w' ∧ w'.cell? ⟨w3.heap.size, 0, none⟩ = some (.slice b0 kEs.length d0) ∧ w'.cell? ⟨w3.heap.size, 1, none⟩ = some (.slice b1 kKs.len d1) ∧ w'.cell? ⟨w3.heap.size, 2, none⟩ = some (.slice b2 kC.length d2)) 16 (by kernel_rfl) ⟨Frm.drew NoS WA, cell_at' hx 0 rfl, cell_at' hx 1 rfl, cell_at' hx 2 rfl⟩ ?_
  intro hS
  have HWA := Lib.hid hwa; clear hwa hx
  generalize WA.drew = Y0 at *
  have hcv : (convert 32 9 (.slice a3 kB.length c3)).run Tryz.prog Y0 = .ok (.string ⟨#[2, 2, 2, 2, 97, 6, 0, 2, 2, 2, 2]⟩) Y0 := conv_str ((HP3.out.step HWA.out).step hS.1).rd
  refine take_opG 0 15 (v := ?_) rfl rfl (by kernel_rfl) (by kernel_rfl) (by decide) (by kernel_rfl) (by kernel_rfl) (fun _ _ _ h => h) (Or.inl ⟨by rfl, ?_⟩) (by assumption) ?_
  rotate_left 1
  · (intro w hSw; (try dsimp only at hSw); go_simp; (try with_reducible rfl))
  try simp only [Act.put, List.setIfInBounds_toArray, List.set_cons_zero, List.set_cons_succ]
  refine take_opG 1 16 (v := ?_) rfl rfl (by kernel_rfl) (by kernel_rfl) (by decide) (by kernel_rfl) (by kernel_rfl) (fun _ _ _ h => h) (Or.inl ⟨by rfl, ?_⟩) (by assumption) ?_
  rotate_left 1
  · (intro w hSw; (try dsimp only at hSw); go_simp; (try with_reducible rfl))
  try simp only [Act.put, List.setIfInBounds_toArray, List.set_cons_zero, List.set_cons_succ]
  refine take_opG 2 17 (v := ?_) rfl rfl (by kernel_rfl) (by kernel_rfl) (by decide) (by kernel_rfl) (by kernel_rfl) (fun _ _ _ h => h) (Or.inl ⟨by rfl, ?_⟩) (by assumption) ?_
  rotate_left 1
  · (intro w hSw; (try dsimp only at hSw); go_simp; (try with_reducible rfl))
  try simp only [Act.put, List.setIfInBounds_toArray, List.set_cons_zero, List.set_cons_succ]
  refine take_opG 3 18 (v := ?_) rfl rfl (by kernel_rfl) (by kernel_rfl) (by decide) (by kernel_rfl) (by kernel_rfl) (fun _ _ _ h => h) (Or.inl ⟨by rfl, ?_⟩) (by assumption) ?_
  rotate_left 1
  · (intro w hSw; (try dsimp only at hSw); go_simp; (try with_reducible rfl))
  try simp only [Act.put, List.setIfInBounds_toArray, List.set_cons_zero, List.set_cons_succ]
  refine take_opG 4 19 (v := ?_) rfl rfl (by kernel_rfl) (by kernel_rfl) (by decide) (by kernel_rfl) (by kernel_rfl) (fun _ _ _ h => h) (Or.inl ⟨by rfl, ?_⟩) (by assumption) ?_
  rotate_left 1
  · (intro w hSw; (try dsimp only at hSw); go_simp; (try with_reducible rfl))
  try simp only [Act.put, List.setIfInBounds_toArray, List.set_cons_zero, List.set_cons_succ]
  refine take_opG 5 20 (v := ?_) rfl rfl (by kernel_rfl) (by kernel_rfl) (by decide) (by kernel_rfl) (by kernel_rfl) (fun _ _ _ h => h) (Or.inl ⟨by rfl, ?_⟩) (by assumption) ?_
  rotate_left 1
  · (intro w hSw; (try dsimp only at hSw); go_simp; (try with_reducible rfl))
  try simp only [Act.put, List.setIfInBounds_toArray, List.set_cons_zero, List.set_cons_succ]
  refine take_opG 6 21 (v := ?_) rfl rfl (by kernel_rfl) (by kernel_rfl) (by decide) (by kernel_rfl) (by kernel_rfl) (fun _ _ _ h => h) (Or.inl ⟨by rfl, ?_⟩) (by assumption) ?_
  rotate_left 1
  · (intro w hSw; (try dsimp only at hSw); go_simp; (try with_reducible rfl))
  try simp only [Act.put, List.setIfInBounds_toArray, List.set_cons_zero, List.set_cons_succ]
  refine take_opG 7 22 (v := ?_) rfl rfl (by kernel_rfl) (by kernel_rfl) (by decide) (by kernel_rfl) (by kernel_rfl) (fun _ _ _ h => h) (Or.inl ⟨by rfl, ?_⟩) (by assumption) ?_
  rotate_left 1
  · (intro w hSw; (try dsimp only at hSw); go_simp; (try with_reducible rfl))
  try simp only [Act.put, List.setIfInBounds_toArray, List.set_cons_zero, List.set_cons_succ]
  refine one_opG (i := 8) (by kernel_rfl) rfl (fun K hK => ?_)
  go_simp
  refine hK.out _ _ hS ?_
  clear hK K hcv
  try simp only [Act.put, List.setIfInBounds_toArray, List.set_cons_zero, List.set_cons_succ]
  refine take_opG 9 24 (v := ?_) rfl rfl (by kernel_rfl) (by kernel_rfl) (by decide) (by kernel_rfl) (by kernel_rfl) (fun _ _ _ h => h) (Or.inl ⟨by rfl, ?_⟩) (by assumption) ?_
  rotate_left 1
  · (intro w hSw; (try dsimp only at hSw); go_simp; (try with_reducible rfl))
  try simp only [Act.put, List.setIfInBounds_toArray, List.set_cons_zero, List.set_cons_succ]
  refine take_opG 10 25 (v := ?_) rfl rfl (by kernel_rfl) (by kernel_rfl) (by decide) (by kernel_rfl) (by kernel_rfl) (fun _ _ _ h => h) (Or.inl ⟨by rfl, ?_⟩) (by assumption) ?_
  rotate_left 1
  · (intro w hSw; (try dsimp only at hSw); go_simp; (try with_reducible rfl))
  try simp only [Act.put, List.setIfInBounds_toArray, List.set_cons_zero, List.set_cons_succ]
  refine take_opG 11 26 (v := ?_) rfl rfl (by kernel_rfl) (by kernel_rfl) (by decide) (by kernel_rfl) (by kernel_rfl) (fun _ _ _ h => h) (Or.inl ⟨by rfl, ?_⟩) (by assumption) ?_
  rotate_left 1
  · (intro w hSw; (try dsimp only at hSw); go_simp; (try with_reducible rfl))
  try simp only [Act.put, List.setIfInBounds_toArray, List.set_cons_zero, List.set_cons_succ]
  refine take_opG 12 27 (v := ?_) rfl rfl (by kernel_rfl) (by kernel_rfl) (by decide) (by kernel_rfl) (by kernel_rfl) (fun _ _ _ h => h) (Or.inl ⟨by rfl, ?_⟩) (by assumption) ?_
  rotate_left 1
  · (intro w hSw; (try dsimp only at hSw); go_simp; (try with_reducible rfl))
  try simp only [Act.put, List.setIfInBounds_toArray, List.set_cons_zero, List.set_cons_succ]
  refine one_opG (i := 13) (by kernel_rfl) rfl (fun K hK => ?_)
  go_simp
  refine (known16_any _).mono ?_
  rintro e1 Y1 ⟨ev4, kv4, cv4, rfl, hc4, hf4⟩
  obtain ⟨g0, j0, g1, j1, g2, j2, rfl, rfl, rfl⟩ := hc4.shape
  have hS1 : Frm NoS WA Y1 ∧ Y1.cell? ⟨w3.heap.size, 0, none⟩ = some (.slice b0 kEs.length d0) ∧ Y1.cell? ⟨w3.heap.size, 1, none⟩ = some (.slice b1 kKs.len d1) ∧ Y1.cell? ⟨w3.heap.size, 2, none⟩ = some (.slice b2 kC.length d2) := ⟨hS.1.then1 hf4, hf4.cell' hS.2.1 id, hf4.cell' hS.2.2.1 id, hf4.cell' hS.2.2.2 id⟩
  refine hK.out _ _ hS1 ?_
  clear hK K hS hf4
  have HC4 := Lib.hid hc4; clear hc4
  try simp only [Act.put, List.setIfInBounds_toArray, List.set_cons_zero, List.set_cons_succ]
  refine one_opG (i := 14) (by kernel_rfl) rfl (fun K hK => ?_)
  go_simp
  refine (HSM.out _ _ _ _ _ _ _ (HC3.out.keep0 (HWA.out.then1 hS1.1)) HC4.out).mono ?_
  rintro e2 Y2 ⟨rfl, hf5⟩
  have hS2 : Frm NoS WA Y2 ∧ Y2.cell? ⟨w3.heap.size, 0, none⟩ = some (.slice b0 kEs.length d0) ∧ Y2.cell? ⟨w3.heap.size, 1, none⟩ = some (.slice b1 kKs.len d1) ∧ Y2.cell? ⟨w3.heap.size, 2, none⟩ = some (.slice b2 kC.length d2) := ⟨hS1.1.then1 hf5, hf5.cell' hS1.2.1 id, hf5.cell' hS1.2.2.1 id, hf5.cell' hS1.2.2.2 id⟩
  refine hK.out _ _ hS2 ?_
  clear hK K hS1 hf5
  try simp only [Act.put, List.setIfInBounds_toArray, List.set_cons_zero, List.set_cons_succ]
  refine take_opG 15 30 (v := ?_) rfl rfl (by kernel_rfl) (by kernel_rfl) (by decide) (by kernel_rfl) (by kernel_rfl) (fun _ _ _ h => h) (Or.inl ⟨by rfl, ?_⟩) (by assumption) ?_
  rotate_left 1
  · (intro w hSw; (try dsimp only at hSw); go_simp; (try with_reducible rfl))
  try simp only [Act.put, List.setIfInBounds_toArray, List.set_cons_zero, List.set_cons_succ]
  refine last_opG (by kernel_rfl) (by kernel_rfl) rfl (fun K hK => ?_)
  go_simp
  refine hK.out _ _ ?_
  clear hK K
  go_wp2
  go_ret
  exact ⟨rfl, (HF3.out.then1 HWA.out).then1 hS2.1⟩
end Go.Proofs.YtafdclkpeomomaaGreat

/- tributaryref16: nums; what is put onto one's own bytes. -/
namespace Go.Proofs.YtafdclkpeomomaaGreat
open Go.RowKit

/-- append of bytes that lie somewhere onto one's own. -/
theorem app_cp {ops : Array Oper} {rest : List Oper} {o : Oper} {a : Act} {Q : Exit → Act → World → Prop} (w0 W : World) (hgd : o.guard = none) (s x : Operand)
    (ho : o.op = .call { callee := .builtin .append, args := #[s, x], argTypes := #[32, 32] }) (v : Value) (bs : List UInt8) (hp : Copy w0 v bs W) (xv : Value) (cs : List UInt8)
    (hv : a.eval s = v) (hx : a.eval x = xv) (hc : Rd W xv cs.length (bV cs)) (hl : bs.length + cs.length ≤ 140737488355328)
    (h : ∀ ad c w' t, Hid (t = bs ++ cs) → Copy w0 (.slice ad t.length c) t w' → Frm (RowS v) W w' → Fresh W v (.slice ad t.length c) → wpList Tryz.prog ops Q rest (a.put o.dst (.slice ad t.length c)) w') :
    wpList Tryz.prog ops Q (o :: rest) a W :=
  app_u8 W hgd s x 32 ho v bs hp.own xv cs hv hx (hc.src Tryz.underlying32 (by simp) (bV_oneCell _)) hl fun ad c w' own fm fr _ => by
    have hh := h ad c w' (bs ++ cs) (Lib.hid rfl)
    rw [List.length_append] at hh
    exact hh (hp.app own rfl fm fr) fm fr
theorem fresh_ne {W : World} {v v' : Value} {b : Nat} (h : v.ownBlock ≠ some b) (f : Fresh W v v') (hb : b < W.heap.size) : v'.ownBlock ≠ some b := fun e => by
  rcases f b e with h1 | h1
  · exact h h1
  · omega
/-- Bytes that were made since W. -/
def Ret (W : World) (bs : List UInt8) (e : Ending) (w' : World) : Prop := ∃ a c t, t = bs ∧ e = .returned (.slice a t.length c) ∧ Copy W (.slice a t.length c) t w'
theorem Ret.of {W : World} {bs : List UInt8} {e : Ending} {w' : World} (h : ∃ v', e = .returned v' ∧ Copy W v' bs w') : Ret W bs e w' := by
  obtain ⟨v, rfl, h⟩ := h
  obtain ⟨a, c, rfl⟩ := h.shape
  exact ⟨a, c, bs, rfl, rfl, h⟩
theorem Ret.base {w W : World} {bs : List UInt8} {e : Ending} {w' : World} (h : Ret W bs e w') (f : Frm NoS w W) : Ret w bs e w' := by
  obtain ⟨a, c, t, h1, h2, h3⟩ := h
  exact ⟨a, c, t, h1, h2, h3.weaken f⟩
theorem Ret.cast {W : World} {bs cs : List UInt8} {e : Ending} {w' : World} (h : Ret W bs e w') (e0 : bs = cs) : Ret W cs e w' := e0 ▸ h
theorem nums_at {w : World} {b off c n : Nat} {l : List Int} (h : Rd w (.slice (some ⟨b, off, none⟩) n c) n (l.map (Value.int .i64 ·))) (k : Nat) (hk : k < l.length) : w.cell? ⟨b, off + k, none⟩ = some (.int .i64 (l.getD k 0)) := by
  rcases h with ⟨ad, h1, h2, h3⟩ | ⟨b', off', c', h1, h2, h3, h4⟩
  · have : l = [] := by simpa using h3
    subst this
    cases hk
  · injection h1 with e1 e2 e3
    injection e1 with e1
    injection e1 with e1 e4
    subst e1 e4
    refine h4 k _ ?_
    simp [List.getD_eq_getElem?_getD, hk]
theorem nums_snoc {l : List Int} {k : Nat} (h : k < l.length) : (l.take (k + 1)).flatMap numB = (l.take k).flatMap numB ++ numB (l.getD k 0) := by
  rw [take_succ 0 h, List.flatMap_append]
  simp
theorem nums_le {l : List Int} (hf : ∀ x ∈ l, inR x) (k : Nat) : ((l.take k).flatMap numB).length ≤ 10 * k := by
  have h : ((l.take k).flatMap numB).length ≤ 10 * (l.take k).length := flat_le fun s hs => by
    have hb := hf s (List.mem_of_mem_take hs)
    exact numB_le10 hb.1 hb.2
  have := List.length_take_le k l
  exact Nat.le_trans h (Nat.mul_le_mul_left _ this)
set_option maxHeartbeats 1000000 in
set_option maxRecDepth 1000000 in
theorem nums_go (l : List Int) (v : Value) (w : World) (h : Rd w v l.length (l.map (Value.int .i64 ·))) (hf : ∀ x ∈ l, inR x) (h0 : 0 < l.length) (hl : l.length ≤ 1000) :
    Calls Tryz.prog 107 #[v] w (Ret w (l.flatMap numB)) := by
  rcases Rd.shape h with ⟨ad, rfl, hz⟩ | ⟨b, off, c, rfl, hc1⟩
  · omega
  · have HI := Lib.hid h; clear h
    have HF := Lib.hid hf; clear hf
    have HT := Lib.hid (show (l.take l.length).flatMap numB = l.flatMap numB by rw [List.take_length])
    generalize hn : l.length = n at *
    have HN := Lib.hid hn; clear hn
    go_enter Tryz.func107, Tryz.ntmps107
    go_wp2
    go_loopw [3, 7] (fun o u wr => ∃ (k : Nat) (a : Option Addr) (c : Nat) (t : List UInt8), k ≤ n ∧ u = .int .i64 k ∧ o = .slice a t.length c ∧ t = (l.take k).flatMap numB ∧ Copy w o t wr) (fun _ u _ => n - (intOf u).toNat)
    case atStart => exact ⟨0, none, 0, [], Nat.zero_le _, rfl, rfl, by simp, Copy.nil w⟩
    case round =>
      obtain ⟨k, a0, c0, t0, hk, rfl, rfl, ht0, hp⟩ := hrel
      have HP := Lib.hid hp
      have HT0 := Lib.hid ht0
      by_cases hlt : k < n
      · have hkl : k < l.length := by rw [HN.out]; exact hlt
        have q0 := nums_at (HI.out.keep hp.frm fun _ _ h => h) k hkl
        have hb := HF.out _ (getD_mem 0 hkl)
        have HS := Lib.hid (nums_snoc hkl)
        have HLE := Lib.hid (show t0.length ≤ 10 * k by rw [ht0]; exact nums_le HF.out k)
        clear hp ht0
        generalize l.getD k 0 = x at *
        have HL10 := Lib.hid (numB_le10 hb.1 hb.2)
        have HC := Lib.hid (Calls.mono (rnum x wr hb.1 hb.2) fun _ _ h => Ret.of h)
        clear hb
        go_wp2_with (first
          | (go_at_call 138; refine HC.out.mono ?_; rintro e w1 ⟨a1, c1, t1, ht1, rfl, cp1⟩; have HT1 := Lib.hid ht1; clear ht1; have HP1 := Lib.hid (HP.out.step cp1.frm); have HC1 := Lib.hid cp1; clear cp1)
          | (at_builtin; go_loud (refine app_cp w w1 rfl (.tmp 10) (.tmp 15) rfl _ t0 HP1.out _ t1 rfl rfl HC1.out.rd ?c1 ?_)))
        case c1 =>
          have := HLE.out
          have := HL10.out
          have := congrArg List.length HT1.out
          omega
        intro ad c2 w2 t2 HT2 e2 _ _
        have E2 := Lib.hid e2; clear e2
        go_wp2
        go_roundw
        case rel => exact ⟨k + 1, ad, c2, t2, by omega, by go_num, rfl, by rw [HT2.out, HT0.out, HT1.out, HS.out], E2.out⟩
        case measure => simp [intOf]; omega
      · obtain rfl : n = k := by omega
        clear hp ht0
        go_wp2
        go_ret
        exact ⟨a0, c0, t0, by rw [HT0.out, HT.out], rfl, HP.out⟩
theorem nums_new (l : List Int) (T : TypeId) (W : World) (hf : ∀ x ∈ l, inR x) (h0 : 0 < l.length) (hl : l.length ≤ 1000) :
    Calls Tryz.prog 107 #[.slice (some ⟨W.heap.size, 0, none⟩) l.length l.length] (W.alloc (.cells (l.map (Value.int .i64 ·)).toArray T)) (Ret W (l.flatMap numB)) := by
  refine Calls.mono (nums_go l _ _ (.inr ⟨W.heap.size, 0, l.length, rfl, Nat.le_refl _, by simp only [maxLen]; omega, fun j u hu => ?_⟩) hf h0 hl) fun e w' h => h.base (Frm.alloc NoS W _)
  rw [Nat.zero_add]
  exact cell_at' (heap_alloc_new W _) j (by rw [List.getElem?_toArray]; exact hu)
theorem nums1 (x : Int) (T : TypeId) (W : World) (b : Nat) (hb : W.heap.size = b) (hx : inR x) : Calls Tryz.prog 107 #[.slice (some ⟨b, 0, none⟩) 1 1] (W.alloc (.cells #[.int .i64 x] T)) (Ret W (numB x)) :=
  hb ▸ Calls.mono (nums_new [x] T W (by simpa using hx) (by simp) (by simp)) fun e w' h => h.cast (by simp)
theorem nums2 (x y : Int) (T : TypeId) (W : World) (b : Nat) (hb : W.heap.size = b) (hx : inR x) (hy : inR y) : Calls Tryz.prog 107 #[.slice (some ⟨b, 0, none⟩) 2 2] (W.alloc (.cells #[.int .i64 x, .int .i64 y] T)) (Ret W (numB x ++ numB y)) :=
  hb ▸ Calls.mono (nums_new [x, y] T W (by simpa using ⟨hx, hy⟩) (by simp) (by simp)) fun e w' h => h.cast (by simp)
theorem nums3 (x y z : Int) (T : TypeId) (W : World) (b : Nat) (hb : W.heap.size = b) (hx : inR x) (hy : inR y) (hz : inR z) : Calls Tryz.prog 107 #[.slice (some ⟨b, 0, none⟩) 3 3] (W.alloc (.cells #[.int .i64 x, .int .i64 y, .int .i64 z] T)) (Ret W (numB x ++ (numB y ++ numB z))) :=
  hb ▸ Calls.mono (nums_new [x, y, z] T W (by simpa using ⟨hx, hy, hz⟩) (by simp) (by simp)) fun e w' h => h.cast (by simp)
end Go.Proofs.YtafdclkpeomomaaGreat

/- tributaryref16: plain: the walk. -/
namespace Go.Proofs.YtafdclkpeomomaaGreat
open Go.RowKit

theorem Rd.blk {w : World} {b off c n : Nat} {xs : List Value} (h : Rd w (.slice (some ⟨b, off, none⟩) n c) n xs) (hx : xs ≠ []) : b < w.heap.size := by
  rcases h with ⟨ad, h1, h2, h3⟩ | ⟨b', off', c', h1, h2, h3, h4⟩
  · exact absurd h3 hx
  · injection h1 with e1 e2 e3
    injection e1 with e1
    injection e1 with e1 e4
    subst e1
    cases xs with
    | nil => exact absurd rfl hx
    | cons x xs => exact World.block_lt_of_cell? _ _ (h4 0 x rfl)
set_option maxHeartbeats 8000000 in
set_option maxRecDepth 1000000 in
theorem r16plain_any : ∀ (N : Nat) (Q : Nat → Prop) (es : List Ent) (ks : KidsL) (w : World) (ev kv : Value), sizeK ks < N → TreeAt Q w ev kv es ks → TrOk es ks → (encT es ks).length ≤ 1000000 →
    Calls Tryz.prog 106 #[.agg #[ev, kv]] w (Ret w (encT es ks)) := by
  intro N
  induction N with
  | zero => intros; exfalso; omega
  | succ N IHN =>
    intro Q es ks w ev kv hN ht hok hl
    have IH := Lib.hid IHN; clear IHN
    obtain ⟨ae, ce, rfl⟩ := ht.ents.rd.sl
    obtain ⟨os, hkr, hfor⟩ := ht.kids
    obtain ⟨ak, ck, rfl⟩ := hkr.rd.sl
    have hwb : Frm NoS w (w.alloc (.cells #[.slice ae es.length ce, .slice ak ks.len ck] 25)) := Frm.alloc _ _ _
    have HE := Lib.hid (ht.ents.keep hwb fun _ _ s => s.elim)
    have HKR := Lib.hid (hkr.keep hwb fun _ _ s => s.elim); clear hkr
    have HFOR := Lib.hid (hfor.keep hwb fun _ _ s => s.elim); clear hfor ht
    have HOK := Lib.hid hok; clear hok
    have HNN := Lib.hid hN; clear hN
    have HL := Lib.hid hl; clear hl
    have hnb : es.length ≤ 140737488351232 := HOK.out.es.len
    have hmb : ks.len ≤ 140737488351232 := HOK.out.len
    have HUE := Lib.hid (fun (k : Nat) (h : k < es.length) => encT_upE ks h)
    have HUM := Lib.hid (encT_upM es ks)
    have HUK := Lib.hid (fun (k : Nat) (key : ByteArray) (es' : List Ent) (sub rest : KidsL) (h : ks.drop k = .cons key es' sub rest) => encT_upK es h)
    have HFIN := Lib.hid (show numB es.length ++ (encEs es ++ (numB ks.len ++ ks.encTake ks.len)) = encT es ks by rw [encTake_all]; rfl)
    have HTA := Lib.hid (show encEs (es.take es.length) = encEs es by rw [List.take_length])
    have HT00 := Lib.hid (show numB es.length ++ encEs (es.take 0) = numB es.length by simp [encEs])
    have HK00 := Lib.hid (show numB es.length ++ (encEs es ++ (numB ks.len ++ ks.encTake 0)) = (numB es.length ++ encEs es) ++ numB ks.len by simp [KidsL.encTake])
    generalize hes : es.length = n at *
    have HN := Lib.hid hes; clear hes
    generalize hkl : ks.len = m at *
    have HM := Lib.hid hkl; clear hkl
    obtain ⟨WB, hWB⟩ : ∃ WB, WB = w.alloc (.cells #[.slice ae n ce, .slice ak m ck] 25) := ⟨_, rfl⟩
    have hb0 : WB.heap[w.heap.size]? = some (.cells #[.slice ae n ce, .slice ak m ck] 25 (0, 0)) := by rw [hWB]; exact heap_alloc_new w _
    have HB0 := Lib.hid hb0; clear hb0
    rw [← hWB] at hwb HE HKR HFOR
    have HWB := Lib.hid hwb; clear hwb
    have HBW := Lib.hid hWB; clear hWB
    have HBX := Lib.hid (fun W (f : Frm NoS WB W) => (⟨cell_at' (f.blk HB0.out id) 0 rfl, cell_at' (f.blk HB0.out id) 1 rfl⟩ : W.cell? ⟨w.heap.size, 0, none⟩ = some (.slice ae n ce) ∧ W.cell? ⟨w.heap.size, 1, none⟩ = some (.slice ak m ck)))
    go_enter Tryz.func106, Tryz.ntmps106
    go_wp2_with (go_at_call 107; rw [← HBW.out]; refine (nums1 n _ WB _ (by rw [HBW.out]; simp) ⟨by omega, by omega⟩).mono ?_; rintro e w1 ⟨a1, c1, t1, ht1, rfl, cp1⟩; obtain ⟨y0, y1⟩ := HBX.out w1 cp1.frm; have HT1 := Lib.hid ht1; clear ht1; have HC1 := Lib.hid cp1; clear cp1)
    go_loopw [3, 15] (fun o i ww => ∃ (k : Nat) (a : Option Addr) (c : Nat) (t : List UInt8), k ≤ n ∧ i = .int .i64 k ∧ o = .slice a t.length c ∧ t = numB n ++ encEs (es.take k) ∧ Copy WB o t ww) (fun _ i _ => n - (intOf i).toNat)
    case atStart => exact ⟨0, a1, c1, t1, Nat.zero_le _, rfl, rfl, by rw [HT00.out]; exact HT1.out, HC1.out⟩
    case round =>
      clear HC1 HT1 y0 y1
      obtain ⟨k, a0, c0, t0, hk, rfl, rfl, ht0, hp⟩ := hrel
      have HT0 := Lib.hid ht0; clear ht0
      by_cases hlt : k < n
      · have hlk : k < es.length := by rw [HN.out]; exact hlt
        rcases Rd.shape HE.out.rd with ⟨ad, he, h0⟩ | ⟨b, off, cc, he, hmax⟩
        · exfalso; omega
        · injection he with e1 e2 e3
          subst e1 e3
          clear e2
          obtain ⟨q0, q1, q2, q3⟩ := ent_at (es := es) (HE.out.keep hp.frm fun _ _ s => s.elim).rd k hlk
          obtain ⟨y0, y1⟩ := HBX.out wr hp.frm
          have hft := HOK.out.es.fits _ (getD_mem Ent.zero hlk)
          have HST := Lib.hid (encEs_snoc hlk)
          have HUk := Lib.hid (HUE.out k hlt)
          obtain ⟨s, hgd⟩ : ∃ s, s = es.getD k Ent.zero := ⟨_, rfl⟩
          rw [← hgd] at HST q0 q1 q2 q3 hft HUk
          clear hgd
          have HFT := Lib.hid hft; clear hft
          have hbl : t0.length + ((numB s.dc ++ numB s.n).length + ((textB s.s).length + (numB s.k).length)) ≤ 1000000 := by
            have h1 := HUk.out
            have h2 := HL.out
            have h3 := congrArg List.length HT0.out
            unfold encE at h1
            simp only [List.length_append] at h1 h2 h3 ⊢; omega
          have HBL := Lib.hid hbl; clear hbl
          have HSS := Lib.hid (HFT.out.2.2.2)
          have heb : wr.heap.size < (wr.alloc (.cells #[.int .i64 s.dc, .int .i64 s.n, .string s.s, .int .i64 s.k] 136)).heap.size := by simp
          have HEB := Lib.hid heb; clear heb
          have hne0 : (Value.slice a0 t0.length c0).ownBlock ≠ some wr.heap.size := fun h => by have := own_lt hp.own _ h; omega
          have HNE0 := Lib.hid hne0; clear hne0
          have HPA := Lib.hid (hp.step (Frm.alloc NoS wr (.cells #[.int .i64 s.dc, .int .i64 s.n, .string s.s, .int .i64 s.k] 136))); clear hp
          have HXB := Lib.hid (heap_alloc_new wr (.cells #[.int .i64 s.dc, .int .i64 s.n, .string s.s, .int .i64 s.k] 136))
          go_wp2_with (first
            | (go_at_call 107; refine (nums2 s.dc s.n _ _ _ (by first | rfl | simp) HFT.out.1 HFT.out.2.1).mono ?_; rintro e w1 ⟨a1, c1, t1, ht1, rfl, cp1⟩; have HT1 := Lib.hid ht1; clear ht1; have HP1 := Lib.hid (HPA.out.step cp1.frm); have HX1 := Lib.hid (cp1.frm.blk HXB.out id); have hs1 := cp1.frm.size; have HS1 := Lib.hid hs1; clear hs1; have HC1 := Lib.hid cp1; clear cp1)
            | (at_builtin; go_loud (refine app_cp WB w1 rfl (.tmp 23) (.tmp 31) rfl _ t0 HP1.out _ t1 rfl rfl HC1.out.rd ?c1 ?_)))
          case c1 =>
            have h1 := HBL.out
            have h2 := congrArg List.length HT1.out
            omega
          intro ad2 c2 w2 t2 HT2 e2 f2 r2
          have HX2 := Lib.hid (f2.blk HX1.out HNE0.out)
          have hlx2 : wr.heap.size < w1.heap.size := by have := HEB.out; have := HS1.out; omega
          have HNE2 := Lib.hid (fresh_ne HNE0.out r2 hlx2)
          have HS2 := Lib.hid (Nat.lt_of_lt_of_le hlx2 f2.size)
          have HP2 := Lib.hid e2; clear e2 f2 r2 hlx2
          clear y0 y1 q0 q1 q2 q3
          have z1 := cell_at' HX2.out 2 rfl
          have z2 := cell_at' HX2.out 3 rfl
          go_wp2_with (first
            | (go_at_call 120; refine (Calls.mono (rtext s.s w2 (by have := HSS.out; have h := HBL.out; have := textB_size s.s; omega)) fun _ _ h => Ret.of h).mono ?_; rintro e w3 ⟨a3, c3, t3, ht3, rfl, cp3⟩; have HT3 := Lib.hid ht3; clear ht3; have HP3 := Lib.hid (HP2.out.step cp3.frm); have HX3 := Lib.hid (cp3.frm.blk HX2.out id); have hs3 := cp3.frm.size; have HS3 := Lib.hid hs3; clear hs3; have HC3 := Lib.hid cp3; clear cp3)
            | (at_builtin; go_loud (refine app_cp WB w3 rfl (.tmp 33) (.tmp 36) rfl _ t2 HP3.out _ t3 rfl rfl HC3.out.rd ?c1 ?_)))
          case c1 =>
            have h1 := HBL.out
            have h2 := congrArg List.length HT1.out
            have h3 := congrArg List.length HT2.out
            have h4 := congrArg List.length HT3.out
            rw [List.length_append] at h3
            omega
          intro ad4 c4 w4 t4 HT4 e4 f4 r4
          have HX4 := Lib.hid (f4.blk HX3.out HNE2.out)
          have hlx4 : wr.heap.size < w3.heap.size := by have := HS2.out; have := HS3.out; omega
          have HNE4 := Lib.hid (fresh_ne HNE2.out r4 hlx4)
          have HS4 := Lib.hid (Nat.lt_of_lt_of_le hlx4 f4.size)
          have HP4 := Lib.hid e4; clear e4 f4 r4 hlx4
          clear z1 z2
          have z2 := cell_at' HX4.out 3 rfl
          go_wp2_with (first
            | (go_at_call 107; refine (nums1 s.k _ _ _ (by first | rfl | simp) HFT.out.2.2.1).mono ?_; rintro e w5 ⟨a5, c5, t5, ht5, rfl, cp5⟩; have HT5 := Lib.hid ht5; clear ht5; have HP5 := Lib.hid (HP4.out.step cp5.frm); have HC5 := Lib.hid cp5; clear cp5)
            | (at_builtin; go_loud (refine app_cp WB w5 rfl (.tmp 38) (.tmp 42) rfl _ t4 HP5.out _ t5 rfl rfl HC5.out.rd ?c1 ?_)))
          case c1 =>
            have h1 := HBL.out
            have h2 := congrArg List.length HT1.out
            have h3 := congrArg List.length HT2.out
            have h4 := congrArg List.length HT3.out
            have h5 := congrArg List.length HT4.out
            have h6 := congrArg List.length HT5.out
            rw [List.length_append] at h3 h5
            omega
          intro ad6 c6 w6 t6 HT6 e6 f6 r6
          have HP6 := Lib.hid e6; clear e6 f6 r6
          clear z2
          go_wp2
          go_roundw
          case rel => exact ⟨k + 1, ad6, c6, t6, by omega, by go_num, rfl, by rw [HST.out, HT6.out, HT4.out, HT2.out, HT0.out, HT1.out, HT3.out, HT5.out]; unfold encE; simp only [List.append_assoc], HP6.out⟩
          case measure => simp [intOf]; omega
      · obtain rfl : n = k := by omega
        rw [HTA.out] at HT0
        clear hlt hk HUE HE
        obtain ⟨y0, y1⟩ := HBX.out wr hp.frm
        have HP0 := Lib.hid hp; clear hp
        go_wp2_with (first
          | (go_at_call 107; refine (nums1 m _ wr _ rfl ⟨by omega, by omega⟩).mono ?_; rintro e w1 ⟨a1, c1, t1, ht1, rfl, cp1⟩; have HT1 := Lib.hid ht1; clear ht1; have HP1 := Lib.hid (HP0.out.step cp1.frm); have HC1 := Lib.hid cp1; clear cp1)
          | (at_builtin; go_loud (refine app_cp WB w1 rfl (.tmp 45) (.tmp 50) rfl _ t0 HP1.out _ t1 rfl rfl HC1.out.rd ?c1 ?_)))
        case c1 =>
          have h1 := HUM.out
          have h2 := HL.out
          have h3 := congrArg List.length HT0.out
          have h4 := congrArg List.length HT1.out
          omega
        intro ad2 c2 w2 t2 HT2 e2 f2 r2
        clear y0 y1
        obtain ⟨y0, y1⟩ := HBX.out w2 e2.frm
        have HP2 := Lib.hid e2; clear e2 f2 r2
        go_wp2
        go_loopw [3, 55] (fun o i ww => ∃ (k : Nat) (a : Option Addr) (c : Nat) (t : List UInt8), k ≤ m ∧ i = .int .i64 k ∧ o = .slice a t.length c ∧ t = numB n ++ (encEs es ++ (numB m ++ ks.encTake k)) ∧ Copy WB o t ww) (fun _ i _ => m - (intOf i).toNat)
        case atStart => exact ⟨0, ad2, c2, t2, Nat.zero_le _, rfl, rfl, by rw [HK00.out, HT2.out, HT0.out, HT1.out], HP2.out⟩
        case round =>
          clear HP2 HT2 HP1 HC1 HP0 HT1 y0 y1
          obtain ⟨k, a0, c0, t0, hk, rfl, rfl, ht0, hp⟩ := hrel
          have HT0 := Lib.hid ht0; clear ht0
          by_cases hlt : k < m
          · obtain ⟨key, es', sub, rest, hdr⟩ := KidsL.drop_some (n := k) (ks := ks) (by rw [HM.out]; exact hlt)
            rcases Rd.shape HKR.out.rd with ⟨ad, he, h0⟩ | ⟨b, off, cc, he, hmax⟩
            · exfalso; omega
            · injection he with e1 e2 e3
              subst e1 e3
              clear e2
              obtain ⟨ev', kv', g0, g1, g2, hta⟩ := kid_at HKR.out.rd HFOR.out hdr
              obtain ⟨ae', ce', rfl⟩ := hta.ents.rd.sl
              obtain ⟨os', hkr', hfor'⟩ := hta.kids
              obtain ⟨ak', ck', rfl⟩ := hkr'.rd.sl
              clear hkr' hfor'
              have HKO := Lib.hid (HOK.out.ks.at_ hdr)
              have HST := Lib.hid (encTake_succ k ks hdr)
              have HUk := Lib.hid (HUK.out _ _ _ _ _ hdr)
              have HSS := Lib.hid (size_sub k hdr)
              have hbl : t0.length + ((textB key).length + (encT es' sub).length) ≤ 1000000 := by
                have h1 := HUk.out
                have h2 := HL.out
                have h3 := congrArg List.length HT0.out
                rw [@List.length_append _ (textB key) _] at h1
                omega
              have HBL := Lib.hid hbl; clear hbl
              have HIH := Lib.hid (fun W (f : Frm NoS WB W) => IH.out _ es' sub W _ _ (by have := HSS.out; have := HNN.out; omega) (hta.keep0 f) HKO.out.2 (by have := HBL.out; omega))
              clear hta
              generalize es'.length = n' at *
              generalize sub.len = m' at *
              have HKC := Lib.hid (fun W (f : Frm NoS WB W) => (⟨f.cell' g0 id, f.cell' g1 id, f.cell' g2 id⟩ : W.cell? ⟨b, off + k * 3, none⟩ = some (.string key) ∧ W.cell? ⟨b, off + k * 3 + 1, none⟩ = some (.slice ae' n' ce') ∧ W.cell? ⟨b, off + k * 3 + 2, none⟩ = some (.slice ak' m' ck')))
              clear g0 g1 g2
              obtain ⟨q0, q1, q2⟩ := HKC.out wr hp.frm
              obtain ⟨y0, y1⟩ := HBX.out wr hp.frm
              have HP0 := Lib.hid hp; clear hp
              go_wp2_with (first
                | (go_at_call 120; refine (Calls.mono (rtext key wr (by have h := HBL.out; have := textB_size key; omega)) fun _ _ h => Ret.of h).mono ?_; rintro e w3 ⟨a3, c3, t3, ht3, rfl, cp3⟩; have HT3 := Lib.hid ht3; clear ht3; have HP3 := Lib.hid (HP0.out.step cp3.frm); have HC3 := Lib.hid cp3; clear cp3)
                | (at_builtin; go_loud (refine app_cp WB w3 rfl (.tmp 58) (.tmp 65) rfl _ t0 HP3.out _ t3 rfl rfl HC3.out.rd ?c1 ?_)))
              case c1 =>
                have h1 := HBL.out
                have h2 := congrArg List.length HT3.out
                omega
              intro ad4 c4 w4 t4 HT4 e4 f4 r4
              clear q0 q1 q2 y0 y1
              obtain ⟨q0, q1, q2⟩ := HKC.out w4 e4.frm
              obtain ⟨y0, y1⟩ := HBX.out w4 e4.frm
              have HP4 := Lib.hid e4; clear e4 f4 r4
              go_wp2_with (first
                | (go_at_call 106; refine (HIH.out w4 HP4.out.frm).mono ?_; rintro e w5 ⟨a5, c5, t5, ht5, rfl, cp5⟩; have HT5 := Lib.hid ht5; clear ht5; have HP5 := Lib.hid (HP4.out.step cp5.frm); have HC5 := Lib.hid cp5; clear cp5)
                | (at_builtin; go_loud (refine app_cp WB w5 rfl (.tmp 67) (.tmp 74) rfl _ t4 HP5.out _ t5 rfl rfl HC5.out.rd ?c1 ?_)))
              case c1 =>
                have h1 := HBL.out
                have h2 := congrArg List.length HT3.out
                have h3 := congrArg List.length HT4.out
                have h4 := congrArg List.length HT5.out
                rw [List.length_append] at h3
                omega
              intro ad6 c6 w6 t6 HT6 e6 f6 r6
              have HP6 := Lib.hid e6; clear e6 f6 r6
              clear q0 q1 q2 y0 y1
              go_wp2
              go_roundw
              case rel => exact ⟨k + 1, ad6, c6, t6, by omega, by go_num, rfl, by rw [HST.out, HT6.out, HT4.out, HT0.out, HT3.out, HT5.out]; simp only [List.append_assoc], HP6.out⟩
              case measure => simp [intOf]; omega
          · obtain rfl : m = k := by omega
            have HP0 := Lib.hid hp; clear hp
            go_wp2
            go_ret
            exact ⟨a0, c0, t0, by rw [HT0.out, HFIN.out], rfl, HP0.out.weaken HWB.out⟩
end Go.Proofs.YtafdclkpeomomaaGreat
