/- Words for the law BundleReady: CSame, Awake, Leaf. -/
import Derived.Test.YtclfajhdonabhaaGreatBundleReadyG5
import Derived.Test.YtclfajhdonabhaaGreatBundleReadyG10
import Derived.Test.YtclfajhdonabhaaGreatBundleReadyG13
import Derived.Test.YtclfajhdonabhaaGreatBundleReadyG14
import Derived.Test.YtclfajhdonabhaaGreatBundleReadyG17
set_option linter.unusedSimpArgs false
set_option linter.unusedVariables false
/- tributaryref07: Same: the walk. -/
namespace Go.Proofs.YtclfajhdonabhaaGreat
open Go.RowKit

/-- The first k spans are alike. -/
def LikeC (a b : CtxL) (k : Nat) : Prop := ∀ j, j < k → a.getD j (0, 0, 0) = b.getD j (0, 0, 0)
theorem LikeC.all {a b : CtxL} (hl : a.length = b.length) (h : LikeC a b a.length) : a = b := by
  refine List.ext_getElem hl fun j h1 h2 => ?_
  have := h j h1
  rwa [getD_at _ h1, getD_at _ h2] at this
theorem LikeC.step {a b : CtxL} {k : Nat} (h : LikeC a b k) (he : a.getD k (0, 0, 0) = b.getD k (0, 0, 0)) : LikeC a b (k + 1) := fun j hj => by
  rcases Nat.lt_succ_iff_lt_or_eq.1 hj with hj | rfl
  · exact h j hj
  · exact he
def eq3 (s t : Int × Int × Int) : Bool := decide (s = t)
set_option maxHeartbeats 2000000 in
set_option maxRecDepth 1000000 in
theorem r7Same_any (w : World) (va vb : Value) (a b : CtxL) (ha : CtxAt w va a) (hb : CtxAt w vb b) (la : a.length ≤ 100000) (lb : b.length ≤ 100000) :
    Calls Tryz.prog 28 #[va, vb] w fun e w' => e = .returned (.bool (decide (a = b))) ∧ Frm NoS w w' := by
  obtain ⟨aA, cA, rfl⟩ := ha.sl
  obtain ⟨aB, cB, rfl⟩ := hb.sl
  by_cases hab : a.length = b.length
  rotate_left 1
  · have hne : decide (a = b) = false := by rw [decide_eq_false_iff_not]; intro h; exact hab (by rw [h])
    rw [hne]
    clear hne ha hb
    generalize a.length = n at *
    generalize b.length = m at *
    have hz : ((n : Int) == (m : Int)) = false := by simp; omega
    go_enter Tryz.func28, Tryz.ntmps28
    go_wp2
    go_ret
    exact ⟨rfl, Frm.refl _ _⟩
  have HAB := Lib.hid hab
  rw [← hab] at lb
  have hb2 : CtxAt w (.slice aB a.length cB) b := by rw [hab]; exact hb
  have HA := Lib.hid ha; clear ha
  have HB := Lib.hid hb2; clear hb hb2
  clear hab lb
  have hbl : b.length = a.length := HAB.out.symm
  rw [hbl]
  clear hbl
  generalize hn : a.length = n at *
  have HN := Lib.hid hn; clear hn
  go_enter Tryz.func28, Tryz.ntmps28
  go_wp2
  go_loopw [13] (fun i ww => ∃ k : Nat, k ≤ n ∧ i = .int .i64 k ∧ LikeC a b k ∧ Frm NoS w ww) (fun i _ => n - (intOf i).toNat)
  case atStart => exact ⟨0, Nat.zero_le _, rfl, (fun j hj => absurd hj (Nat.not_lt_zero _)), Frm.refl _ _⟩
  case round =>
    obtain ⟨k, hk, rfl, hlk, hf⟩ := hrel
    have HLK := Lib.hid hlk; clear hlk
    have HF := Lib.hid hf; clear hf
    by_cases hlt : k < n
    · have hka : k < a.length := by rw [HN.out]; exact hlt
      have hkb : k < b.length := by rw [← HAB.out]; exact hlt
      rcases Rd.shape HA.out with ⟨ad, he, h0⟩ | ⟨o1, off1, cc1, he, hmax⟩
      · exfalso; have := HN.out; omega
      rcases Rd.shape HB.out with ⟨ad, he2, h0⟩ | ⟨o2, off2, cc2, he2, hmax2⟩
      · exfalso; have := HN.out; have := HAB.out; omega
      injection he with e1 e2 e3
      injection he2 with e4 e5 e6
      subst e1 e3 e4 e6
      clear e2 e5
      obtain ⟨p0, p1, p2⟩ := spn_at HA.out (by rw [HN.out]) k hka
      obtain ⟨q0, q1, q2⟩ := spn_at HB.out HAB.out k hkb
      have p0 := HF.out.cell' p0 id
      have p1 := HF.out.cell' p1 id
      have p2 := HF.out.cell' p2 id
      have q0 := HF.out.cell' q0 id
      have q1 := HF.out.cell' q1 id
      have q2 := HF.out.cell' q2 id
      have hst : a.getD k (0, 0, 0) = b.getD k (0, 0, 0) → LikeC a b (k + 1) := HLK.out.step
      have HST := Lib.hid hst; clear hst
      have hno : a.getD k (0, 0, 0) ≠ b.getD k (0, 0, 0) → a ≠ b := fun h e => h (by rw [e])
      have HNO := Lib.hid hno; clear hno
      generalize a.getD k (0, 0, 0) = s at *
      generalize b.getD k (0, 0, 0) = t at *
      by_cases hst : s = t
      · subst hst
        go_wp2_with fail
        go_quiet (fail)
        go_wp2
        go_roundw
        case rel => exact ⟨k + 1, by omega, by go_num, HST.out (by trivial), HF.out.drewN1⟩
        case measure => simp [intOf]; omega
      · have HNE := Lib.hid (show false = decide (a = b) from by symm; rw [decide_eq_false_iff_not]; exact HNO.out hst)
        obtain ⟨s0, s1, s2⟩ := s
        obtain ⟨t0, t1, t2⟩ := t
        clear HST HNO
        dsimp only at p0 p1 p2 q0 q1 q2
        by_cases g0 : s0 = t0
        · subst g0
          by_cases g1 : s1 = t1
          · subst g1
            have g2 : s2 ≠ t2 := fun h => hst (by rw [h])
            clear hst
            have gb : ((s2 : Int) == t2) = false := by simpa using g2
            go_wp2_with fail
            go_quiet (fail)
            go_wp2
            go_ret
            exact ⟨ret_bool HNE.out, HF.out.drewN1⟩
          · clear hst
            have gb : ((s1 : Int) == t1) = false := by simpa using g1
            go_wp2_with fail
            go_quiet (fail)
            go_wp2
            go_ret
            exact ⟨ret_bool HNE.out, HF.out.drewN1⟩
        · clear hst
          have gb : ((s0 : Int) == t0) = false := by simpa using g0
          go_wp2_with fail
          go_quiet (fail)
          go_wp2
          go_ret
          exact ⟨ret_bool HNE.out, HF.out.drewN1⟩
    · obtain rfl : n = k := by omega
      have heq : decide (a = b) = true := by rw [decide_eq_true_iff]; exact LikeC.all (HN.out.trans HAB.out) (by rw [HN.out]; exact HLK.out)
      have HEQ := Lib.hid heq; clear heq
      go_wp2
      go_ret
      exact ⟨ret_bool HEQ.out.symm, HF.out⟩
end Go.Proofs.YtclfajhdonabhaaGreat

/- tributarylaw22: awake: the walk. -/
namespace Go.Proofs.YtclfajhdonabhaaGreat
open Go.RowKit

theorem dots_d : dotsT [] dKs = [(1, 1)] := rfl
theorem trOk_d : TrOk [] dKs :=
  ⟨⟨Nat.zero_le _, fun e he => by cases he⟩, by decide, ⟨by decide, ⟨by decide, fun e he => by
    simp only [dEs, List.mem_singleton] at he
    subst he
    exact ⟨by decide, by decide, by decide, by decide⟩⟩, by decide, trivial, trivial⟩⟩
theorem cauOk_d (b : Int) (h1 : 1 ≤ b) (h2 : b ≤ 1099511627776) : CauOk [] dKs [(1, 1, b)] :=
  ⟨trOk_d, by decide, fun s hs => by simp only [List.mem_singleton] at hs; subst hs; dsimp only; omega, by simp⟩
theorem nums_d : BunNums 1 0 2 (vecF 0 0 0 0) :=
  ⟨by decide, by decide, by decide, by decide, by decide, by decide, fun d h0 h4 => by rcases four h0 h4 with rfl | rfl | rfl | rfl <;> decide⟩
theorem dots_in (b : Int) (h : 1 ≤ b) : DotsLeq (dotsT [] dKs) [(1, 1, b)] := fun r hr => by
  rw [dots_d] at hr
  simp only [List.mem_singleton] at hr
  subst hr
  exact (inC_one 1 1 b 1 1).2 ⟨rfl, by decide, h⟩
theorem right_d : CauRight [] dKs [(1, 1, 1)] := ⟨dKs_right, right_one (by decide) (by decide) (by decide) (by decide) (by decide), dots_in 1 (by decide)⟩
theorem union_d {c' : CtxL} (h : ByC 0 [(1, 1, 1)] [(1, 0 + 1, 2)] c') : c' = [(1, 1, 2)] := by
  refine h.one ⟨right_one (by decide) (by decide) (by decide) (by decide) (by decide), fun d n h0 h4 => ?_⟩
  rw [inC_one]
  have e1 := inC_one 1 1 1 d n
  have e2 := inC_one 1 (0 + 1) 2 d n
  unfold ByIn
  simp only [e1, e2]
  simp
  omega
theorem bun_d : BunRight 1 0 2 (vecF 0 0 0 0) [] dKs [(1, 1, 2)] where
  nums := nums_d
  tree := dKs_right
  ctx := right_one (by decide) (by decide) (by decide) (by decide) (by decide)
  dots := dots_in 2 (by decide)
  bare := rfl
  mine := dots_in 2 (by decide)
  own := fun _ _ _ _ h => h
  may := fun d n h0 h4 h => by
    obtain ⟨rfl, h1, h2⟩ := (inC_one 1 1 2 d n).1 h
    rw [inC_full _ n h0 h4]
    exact ⟨h1, by simp only [setF, if_pos]; exact h2⟩
set_option maxHeartbeats 2000000 in
set_option maxRecDepth 1000000 in
theorem awake22_any (w : World) : Calls Tryz.prog 6 #[] w fun e w' => e = .returned (.bool true) ∧ Frm NoS w w' := by
  have HD := Lib.hid (fun W => delta22_any W)
  have HM := Lib.hid (fun W ev kv cv h => bMake_ok (fun _ => True) [] dKs [(1, 1, 1)] W 1 0 2 0 0 0 0 ev kv cv h (cauOk_d 1 (by decide) (by decide)) nums_d right_d (fun c' hb => by rw [union_d hb]; exact ⟨bun_d, cauOk_d 2 (by decide) (by decide)⟩))
  have HR := Lib.hid (fun W ev kv cv h => tf_true bun_d ▸ bRight_any (fun _ => True) [] dKs [(1, 1, 2)] W 1 0 2 0 0 0 0 ev kv cv h (cauOk_d 2 (by decide) (by decide)))
  have HS := Lib.hid (fun W va vb ha hb => r7Same_any W va vb [(1, 1, 2)] [(1, 1, 2)] ha hb (by simp) (by simp))
  go_enter Tryz.func6, Tryz.ntmps6
  go_wp2_with (first
    | (go_at_call 26; go_loud (refine (HD.out _).mono ?_); rintro e w1 ⟨ev1, kv1, cv1, rfl, hc1, hf1⟩; obtain ⟨a0, c0, a1, c1, a2, c2, rfl, rfl, rfl⟩ := hc1.shape; have HC1 := Lib.hid hc1; clear hc1; have HF1 := Lib.hid hf1; clear hf1)
    | (go_at_call 25; go_loud (refine (HM.out _ _ _ _ HC1.out).mono ?_); rintro e w2 ⟨ev2, kv2, cv2, c', rfl, hc2, hby, hf2⟩; have hcc := union_d hby; subst hcc; obtain ⟨b0, d0, b1, d1, b2, d2, rfl, rfl, rfl⟩ := hc2.shape; have HC2 := Lib.hid hc2; clear hc2 hby; have HF2 := Lib.hid (HF1.out.then1 hf2); clear hf2)
    | (go_at_call 27; go_loud (refine (HR.out _ _ _ _ (HC2.out.keep0 (Frm.alloc _ _ _))).mono ?_); rintro e w3 ⟨rfl, hw3⟩; obtain ⟨y0, y1, y2, y3, y4, y5, y6, y7, y8, y9⟩ := box10 w2 _ _ _ _ _ _ _ _ _ _ _ w3 hw3; have HW3 := Lib.hid hw3; clear hw3)
    | (go_at_call 28; go_loud (refine (HS.out _ _ _ (Rd.keep0 HC2.out.ctx (((Frm.alloc NoS _ _).then1 HW3.out).alloc1)) (row_rd (heap_alloc_new w3 _) (by decide))).mono ?_); rintro e w4 ⟨rfl, hw4⟩; have HW4 := Lib.hid hw4; clear hw4))
  go_ret
  exact ⟨by simp, (((HF2.out.alloc1).then1 HW3.out).alloc1).then1 HW4.out⟩
end Go.Proofs.YtclfajhdonabhaaGreat

/- Leaves: how a slice of them lies; the dots of them. -/
namespace Go.Proofs.YtclfajhdonabhaaGreat
open Go.RowKit

/-- A leaf: where its path lies, and its entry. -/
abbrev LeafL := List (Value × Ent)
def lfC (l : LeafL) : List Value := l.flatMap fun x => x.1 :: x.2.cells
def lfE (p : Value) (es : List Ent) : LeafL := es.map fun e => (p, e)
def dotsL (l : LeafL) : RunL := l.map fun x => (x.2.dc, x.2.n)
def OneL (l : LeafL) : Prop := ∀ x ∈ l, x.1.oneCell' = true
theorem lfC_append (a b : LeafL) : lfC (a ++ b) = lfC a ++ lfC b := by simp [lfC]
theorem lfC_cons (x : Value × Ent) (l : LeafL) : lfC (x :: l) = x.1 :: .int .i64 x.2.dc :: .int .i64 x.2.n :: .string x.2.s :: .int .i64 x.2.k :: lfC l := rfl
theorem lfC_length : ∀ l : LeafL, (lfC l).length = l.length * 5
  | [] => rfl
  | x :: l => by rw [lfC_cons]; simp only [List.length_cons, lfC_length l]; omega
theorem lfC_oneCell {l : LeafL} (h : OneL l) : ∀ v ∈ lfC l, v.oneCell' = true := by
  intro v hv
  simp only [lfC, List.mem_flatMap] at hv
  obtain ⟨x, hx, hv⟩ := hv
  rcases List.mem_cons.1 hv with rfl | hv
  · exact h x hx
  · simp [Ent.cells] at hv
    rcases hv with rfl | rfl | rfl | rfl <;> rfl
theorem lfC_at : ∀ (l : LeafL) (k : Nat), k < l.length → (lfC l)[k * 5 + 1]? = some (.int .i64 (l.getD k (.bool true, Ent.zero)).2.dc) ∧ (lfC l)[k * 5 + 2]? = some (.int .i64 (l.getD k (.bool true, Ent.zero)).2.n)
  | [], _, h => by cases h
  | x :: l, 0, _ => ⟨rfl, rfl⟩
  | x :: l, k + 1, h => by
    obtain ⟨h1, h2⟩ := lfC_at l k (by simpa using h)
    rw [lfC_cons, show (k + 1) * 5 + 1 = (k * 5 + 1) + 1 + 1 + 1 + 1 + 1 by omega, show (k + 1) * 5 + 2 = (k * 5 + 2) + 1 + 1 + 1 + 1 + 1 by omega]
    exact ⟨h1, h2⟩
theorem lf_at {w : World} {b off c n : Nat} {l : LeafL} (h : Rd w (.slice (some ⟨b, off, none⟩) n c) n (lfC l)) (k : Nat) (hk : k < l.length) :
    w.cell? ⟨b, off + k * 5 + 1, none⟩ = some (.int .i64 (l.getD k (.bool true, Ent.zero)).2.dc) ∧ w.cell? ⟨b, off + k * 5 + 2, none⟩ = some (.int .i64 (l.getD k (.bool true, Ent.zero)).2.n) := by
  obtain ⟨h1, h2⟩ := lfC_at l k hk
  exact ⟨h.cell (k * 5 + 1) _ h1, h.cell (k * 5 + 2) _ h2⟩
theorem dotsL_take_succ {l : LeafL} {k : Nat} (hk : k < l.length) : dotsL (l.take (k + 1)) = dotsL (l.take k) ++ [((l.getD k (.bool true, Ent.zero)).2.dc, (l.getD k (.bool true, Ent.zero)).2.n)] := by
  rw [take_succ (.bool true, Ent.zero) hk]; simp [dotsL]
theorem dotsL_append (a b : LeafL) : dotsL (a ++ b) = dotsL a ++ dotsL b := by simp [dotsL]
theorem dotsL_length (l : LeafL) : (dotsL l).length = l.length := by simp [dotsL]
theorem dotsL_lfE (p : Value) (es : List Ent) : dotsL (lfE p es) = dotsE es := by simp [dotsL, lfE, dotsE]
theorem lfE_length (p : Value) (es : List Ent) : (lfE p es).length = es.length := by simp [lfE]
theorem OneL.lfE {p : Value} (h : p.oneCell' = true) (es : List Ent) : OneL (lfE p es) := fun x hx => by
  obtain ⟨e, _, rfl⟩ := List.mem_map.1 hx
  exact h
theorem OneL.append {a b : LeafL} (ha : OneL a) (hb : OneL b) : OneL (a ++ b) := fun x hx => (List.mem_append.1 hx).elim (ha x) (hb x)
theorem lfE_take_succ {p : Value} {es : List Ent} {k : Nat} (hk : k < es.length) : lfC (lfE p (es.take (k + 1))) = lfC (lfE p (es.take k)) ++ [p, .int .i64 (es.getD k Ent.zero).dc, .int .i64 (es.getD k Ent.zero).n, .string (es.getD k Ent.zero).s, .int .i64 (es.getD k Ent.zero).k] := by
  rw [take_succ Ent.zero hk, show lfE p (es.take k ++ [es.getD k Ent.zero]) = lfE p (es.take k) ++ [(p, es.getD k Ent.zero)] by simp [lfE], lfC_append]
  rfl
/-- The texts of a path. -/
def stV (l : List ByteArray) : List Value := l.map .string
theorem stV_append (a b : List ByteArray) : stV (a ++ b) = stV a ++ stV b := by simp [stV]
@[simp] theorem stV_length (l : List ByteArray) : (stV l).length = l.length := by simp [stV]
theorem stV_oneCell (l : List ByteArray) : ∀ v ∈ stV l, v.oneCell' = true := by
  intro v hv
  simp only [stV, List.mem_map] at hv
  obtain ⟨r, _, rfl⟩ := hv
  rfl
theorem info_leaf : (Tryz.prog.info? 101).map (fun i => (i.zero, i.size, i.bytes)) = some (some (.agg #[.slice none 0 0, .int .i64 0, .int .i64 0, .string ByteArray.empty, .int .i64 0]), 5, 64) := by kernel_rfl
theorem info_string : (Tryz.prog.info? 9).map (fun i => (i.zero, i.size, i.bytes)) = some (some (.string ByteArray.empty), 1, 16) := by kernel_rfl
end Go.Proofs.YtclfajhdonabhaaGreat
