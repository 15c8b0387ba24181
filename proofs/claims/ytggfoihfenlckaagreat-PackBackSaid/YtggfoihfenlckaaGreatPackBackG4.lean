/- Words for the law PackBack: R7b, R7c, R7d, R7e, Tree, SmallT. -/
import Derived.Test.YtggfoihfenlckaaGreatPackBackG3
set_option linter.unusedSimpArgs false
set_option linter.unusedVariables false
/- tributaryref07: By, Leq: the walks. -/
namespace Go.Proofs.YtggfoihfenlckaaGreat
open Go.RowKit
theorem dcFrom_append : ∀ {a b : CtxL} {lo k : Int}, DcFrom lo a → (∀ s ∈ a, s.1 ≤ k) → DcFrom k b → lo ≤ k → DcFrom lo (a ++ b)
  | [], _, _, _, _, _, hb, hl => hb.mono hl
  | s :: a, b, lo, k, ha, hk, hb, _ => ⟨ha.1, ha.2.1, dcFrom_append ha.2.2 (fun x hx => hk x (List.mem_cons_of_mem _ hx)) hb (hk s List.mem_cons_self)⟩
theorem partL_none {c : CtxL} {d : Int} (h : ∀ s ∈ c, s.1 ≠ d) : partL c d = [] := by
  unfold partL
  rw [List.filter_eq_nil_iff.2 (by intro s hs; simpa using h s hs)]
  rfl
/-- The centers below k are put together. -/
structure UpTo (R : Int → RunL → Prop) (k : Int) (c : CtxL) : Prop where
  rise : DcFrom 0 c
  below : ∀ s ∈ c, s.1 < k
  parts : ∀ d, 0 ≤ d → d < k → R d (partL c d)
theorem UpTo.zero (R : Int → RunL → Prop) : UpTo R 0 [] := ⟨trivial, (fun s hs => by cases hs), fun d h0 h1 => by omega⟩
theorem UpTo.step {R : Int → RunL → Prop} {k : Int} {c : CtxL} (h : UpTo R k c) (h0 : 0 ≤ k) (h4 : k < 4) {o : RunL} (ho : R k o) : UpTo R (k + 1) (c ++ spansL k o) := by
  have hs : DcFrom k (spansL k o) := by
    have := dcFrom_spans (lo := k) (d := k) (Int.le_refl _) h4 o (c := []) trivial
    rwa [List.append_nil] at this
  refine ⟨dcFrom_append h.rise (fun s hs => Int.le_of_lt (h.below s hs)) hs h0, fun s hs => ?_, fun d hd hdk => ?_⟩
  · rcases List.mem_append.1 hs with hs | hs
    · have := h.below s hs; omega
    · simp only [spansL, List.mem_map] at hs
      obtain ⟨r, _, rfl⟩ := hs
      show k < k + 1
      omega
  · rw [partL_append]
    by_cases he : d = k
    · subst he
      rw [partL_none (fun s hs => by have := h.below s hs; omega), partL_spans_eq]
      exact ho
    · rw [partL_spans_ne _ (fun e => he e.symm), List.append_nil]
      exact h.parts d hd (by omega)
def ByR (how : Int) (a b : CtxL) (d : Int) (o : RunL) : Prop := RightR o ∧ ∀ n, InR o n ↔ ByIn how (InC a d n) (InC b d n)
theorem UpTo.byC {how : Int} {a b c : CtxL} (h : UpTo (ByR how a b) 4 c) : ByC how a b c :=
  ⟨⟨h.rise, fun d h0 h4 => (h.parts d h0 h4).1⟩, fun d n h0 h4 => (h.parts d h0 h4).2 n⟩
theorem ByIn.or {how : Int} {p q : Prop} (h : ByIn how p q) : p ∨ q := by
  unfold ByIn at h
  split at h
  · exact .inl h.1
  · split at h
    · exact .inl h.1
    · exact h
theorem ByInv.byR {how : Int} {a b : CtxL} {d : Int} {o : RunL} (h : ByInv (partL a d) (partL b d) how o none) (ha : RightR (partL a d)) (hb : RightR (partL b d)) : ByR how a b d o :=
  ⟨RightR.of h.from_ (fun n hn => (ByIn.or ((h.none_ rfl n).1 hn)).elim (fun h => (ha.in_ h).2) fun h => (hb.in_ h).2), h.none_ rfl⟩
theorem spC_spans_len (d : Int) (l : RunL) : (spansL d l).length = l.length := by simp [spansL]
theorem upto_len {c : CtxL} {k j : Nat} {d : Int} {l : RunL} (h : c.length ≤ 40000 * k) (hk : k ≤ 4) (hl : l.length ≤ 40000) : (c ++ spansL d l).length ≤ 40000 * (k + 1) ∧ c.length + l.length ≤ 1000000 := by
  rw [List.length_append, spC_spans_len]; omega
/-- What By of contexts answers. -/
def R7ByC (how : Int) : Prop := ∀ (w : World) (va vb : Value) (a b : CtxL) (_ : CtxAt w va a) (_ : CtxAt w vb b) (_ : RightC a) (_ : RightC b) (_ : a.length ≤ 10000) (_ : b.length ≤ 10000),
    Calls Tryz.prog 123 #[va, vb, .int .i64 how] w fun e w' => ∃ v' c, e = .returned v' ∧ OwnAt w w' 122 3 v' c.length (spC c) ∧ ByC how a b c ∧ c.length ≤ 160000
set_option maxHeartbeats 1000000 in
set_option maxRecDepth 1000000 in
theorem r7By_any (how : Int) (HBY : R6ByC how) : R7ByC how := by
  intro w va vb a b ha hb ra rb la lb
  obtain ⟨i0, hi, hz0, hz1, hz2⟩ := info_parts info_span
  obtain ⟨aA, cA, rfl⟩ := ha.sl
  obtain ⟨aB, cB, rfl⟩ := hb.sl
  have RA := Lib.hid ra; clear ra
  have RB := Lib.hid rb; clear rb
  have HPA := Lib.hid (fun w' d h => r7Part_any w' _ a d (Rd.keep0 ha h) (by omega))
  have HPB := Lib.hid (fun w' d h => r7Part_any w' _ b d (Rd.keep0 hb h) (by omega))
  have LA := Lib.hid (fun d => Nat.le_trans (partL_length_le a d) la)
  have LB := Lib.hid (fun d => Nat.le_trans (partL_length_le b d) lb)
  have HBY := Lib.hid HBY
  clear ha hb la lb
  go_enter Tryz.func123, Tryz.ntmps123
  go_wp2
  go_loopw [7, 9] (fun v i ww => ∃ (k : Nat) (c : CtxL), k ≤ 4 ∧ i = .int .i64 k ∧ OwnAt w ww 122 3 v c.length (spC c) ∧ UpTo (ByR how a b) k c ∧ c.length ≤ 40000 * k) (fun _ i _ => 4 - (intOf i).toNat)
  case atStart => exact ⟨0, [], by omega, rfl, OwnAt.nil (Frm.refl _ _) _ _, UpTo.zero _, Nat.zero_le _⟩
  case round =>
    obtain ⟨k, c, hk, rfl, ho, hu, hlen⟩ := hrel
    obtain ⟨av, cv, rfl⟩ := ho.shape
    have HO := Lib.hid ho; clear ho
    have HU := Lib.hid hu; clear hu
    have HLEN := Lib.hid hlen; clear hlen
    by_cases hlt : k < 4
    · have hra := Lib.hid (RA.out.2 (k : Int) (by omega) (by omega))
      have hrb := Lib.hid (RB.out.2 (k : Int) (by omega) (by omega))
      go_wp2_with (first
        | (go_at_call_of 68 aA; refine (HPA.out _ k HO.out.frm).mono ?_; rintro e w1 ⟨v1, rfl, ho1⟩; obtain ⟨a1, c1, rfl⟩ := ho1.shape; have HO1 := Lib.hid ho1; clear ho1)
        | (go_at_call_of 68 aB; refine (HPB.out _ k (HO.out.frm.then1 HO1.out.frm)).mono ?_; rintro e w2 ⟨v2, rfl, ho2⟩; obtain ⟨a2, c2, rfl⟩ := ho2.shape; have HO2 := Lib.hid ho2; clear ho2)
        | (go_at_call 160; refine (HBY.out _ _ _ _ _ (HO1.out.rd.keep0 HO2.out.frm) HO2.out.rd hra.out hrb.out (LA.out k) (LB.out k)).mono ?_; rintro e w3 ⟨v3, o, rfl, ho3, hby, hol⟩; obtain ⟨a3, c3, rfl⟩ := ho3.shape; have HO3 := Lib.hid ho3; clear ho3; have HB3 := Lib.hid hby; clear hby; have HOL := Lib.hid hol; clear hol)
        | (go_at_call 159; refine (r7spans_any _ _ o k HO3.out.rd (Nat.le_trans HOL.out (by decide))).mono ?_; rintro e w4 ⟨v4, rfl, ho4⟩; obtain ⟨a4, c4, rfl⟩ := ho4.shape; have HO4 := Lib.hid ho4; clear ho4; have HKK := Lib.hid (HO.out.keep (HO1.out.frm.then1 (HO2.out.frm.then1 (HO3.out.frm.then1 HO4.out.frm)))))
        | (at_builtin; go_loud (refine wpList_appR w _ _ rfl (.tmp 12) (.tmp 22) 31 31 rfl 122 122 i0 _ 3 24 Tryz.underlying31 Tryz.underlying31 hi hz0 hz1 hz2 (by decide) (by decide) _ _ _ HKK.out _ o.length rfl rfl HO4.out.rd (by rw [spC_length, spC_spans_len]) (spC_oneCell _) (by have := (upto_len (j := 0) (d := k) HLEN.out (Nat.le_of_lt hlt) HOL.out).2; simp only [maxLen]; omega) (by have := (upto_len (j := 0) (d := k) HLEN.out (Nat.le_of_lt hlt) HOL.out).2; omega) ?_); intro ad cc w5 own5; have OW := Lib.hid own5; clear own5))
      go_roundw
      case rel =>
        refine ⟨k + 1, c ++ spansL k o, by omega, by go_num, ?_, ?_, (upto_len (j := 0) HLEN.out (Nat.le_of_lt hlt) HOL.out).1⟩
        · rw [List.length_append, spC_spans_len, spC_append]; exact OW.out
        · have := HU.out.step (by omega) (by omega) (HB3.out.byR hra.out hrb.out)
          exact this
      case measure => simp [intOf]; omega
    · obtain rfl : k = 4 := by omega
      go_wp2
      go_ret
      exact ⟨_, c, rfl, HO.out, HU.out.byC, HLEN.out⟩
theorem r7By_minus : R7ByC 2 := r7By_any 2 r6By_minus
set_option maxRecDepth 1000000 in
theorem r7Leq_any (w : World) (va vb : Value) (a b : CtxL) (ha : CtxAt w va a) (hb : CtxAt w vb b) (ra : RightC a) (rb : RightC b) (la : a.length ≤ 10000) (lb : b.length ≤ 10000) :
    Calls Tryz.prog 70 #[va, vb] w fun e w' => e = .returned (.bool (tf (LeqC a b))) ∧ Frm NoS w w' := by
  have HC := Lib.hid (r7By_minus w va vb a b ha hb ra rb la lb)
  clear ha hb ra rb la lb
  go_enter Tryz.func70, Tryz.ntmps70
  go_wp2_with (go_at_call 123; refine HC.out.mono ?_; rintro e w1 ⟨v1, c, rfl, ho1, hby, hol⟩; obtain ⟨a1, c1, rfl⟩ := ho1.shape; have HO1 := Lib.hid ho1; clear ho1; have HB := Lib.hid hby; clear hby; clear hol)
  go_ret
  refine ⟨ret_bool ?_, HO1.out.frm⟩
  refine tf_bool ?_
  rw [← HB.out.minus_nil]
  simp
end Go.Proofs.YtggfoihfenlckaaGreat
/- tributaryref07: Full, May, Same: the walks. -/
namespace Go.Proofs.YtggfoihfenlckaaGreat
open Go.RowKit
/-- A vector as a value; its numbers by place. -/
def vecV (v0 v1 v2 v3 : Int) : Value := .agg #[.int .i64 v0, .int .i64 v1, .int .i64 v2, .int .i64 v3]
def vecF (v0 v1 v2 v3 : Int) (d : Int) : Int := if d = 0 then v0 else if d = 1 then v1 else if d = 2 then v2 else v3
def MayV (f : Int → Int) : Prop := ∀ d, 0 ≤ d → d < 4 → 0 ≤ f d ∧ f d ≤ 1099511627776
/-- What a block of four holds. -/
def Vec4 (w : World) (g : Nat) (f : Int → Int) : Prop := ∀ k : Nat, k < 4 → w.cell? ⟨g, k, none⟩ = some (.int .i64 (f k))
theorem vec4_new {w : World} {v0 v1 v2 v3 : Int} {t : TypeId} : Vec4 (w.alloc (.cells #[.int .i64 v0, .int .i64 v1, .int .i64 v2, .int .i64 v3] t)) w.heap.size (vecF v0 v1 v2 v3) := by
  intro k hk
  rw [cell_at' (heap_alloc_new w _) k (u := .int .i64 (vecF v0 v1 v2 v3 k))]
  rcases (by omega : k = 0 ∨ k = 1 ∨ k = 2 ∨ k = 3) with rfl | rfl | rfl | rfl <;> rfl
def FullR (f : Int → Int) (d : Int) (o : RunL) : Prop := o = fullP (f d)
theorem UpTo.full {f : Int → Int} {c : CtxL} (h : UpTo (FullR f) 4 c) : c = fullL f := by
  rw [← whole_parts (Int.le_refl 0) h.rise]
  unfold wholeL fullL wholeL
  rw [h.parts 0 (by decide) (by decide), h.parts 1 (by decide) (by decide), h.parts 2 (by decide) (by decide), h.parts 3 (by decide) (by decide)]
set_option maxHeartbeats 1000000 in
set_option maxRecDepth 1000000 in
theorem r7May_any (w : World) (v0 v1 v2 v3 : Int) :
    Calls Tryz.prog 24 #[vecV v0 v1 v2 v3] w fun e w' => e = .returned (.bool (tf (MayV (vecF v0 v1 v2 v3)))) ∧ Frm NoS w w' := by
  have HV := Lib.hid (vec4_new (w := w) (v0 := v0) (v1 := v1) (v2 := v2) (v3 := v3) (t := 42))
  unfold vecV
  generalize hf : vecF v0 v1 v2 v3 = f at *
  clear hf
  go_enter Tryz.func24, Tryz.ntmps24
  go_wp2
  go_loopw [4] (fun i ww => ∃ (k : Nat), k ≤ 4 ∧ i = .int .i64 k ∧ (∀ d : Int, 0 ≤ d → d < k → 0 ≤ f d ∧ f d ≤ 1099511627776) ∧ ww = (w.alloc (.cells #[.int .i64 v0, .int .i64 v1, .int .i64 v2, .int .i64 v3] 42))) (fun i _ => 4 - (intOf i).toNat)
  case atStart => exact ⟨0, by omega, rfl, (fun d h0 h1 => by have : d < 0 := h1; omega), rfl⟩
  case round =>
    obtain ⟨k, hk, rfl, hr, rfl⟩ := hrel
    have HR := Lib.hid hr; clear hr
    by_cases hlt : k < 4
    · have q := HV.out k hlt
      have hst : 0 ≤ f k ∧ f k ≤ 1099511627776 → ∀ d : Int, 0 ≤ d → d < ((k + 1 : Nat) : Int) → 0 ≤ f d ∧ f d ≤ 1099511627776 := fun h d h0 h1 => by
        by_cases he : d = k
        · subst he; exact h
        · exact HR.out d h0 (by omega)
      have hno : ¬ (0 ≤ f k ∧ f k ≤ 1099511627776) → ¬ MayV f := fun h hm => h (hm k (by omega) (by omega))
      have HST := Lib.hid hst; clear hst
      have HNO := Lib.hid hno; clear hno
      generalize f k = x at *
      by_cases c1 : x < 0
      · go_wp2
        go_ret
        exact ⟨ret_bool (tf_false (HNO.out (by omega))).symm, Frm.alloc _ _ _⟩
      · by_cases c2 : 1099511627776 < x
        · go_wp2
          go_ret
          exact ⟨ret_bool (tf_false (HNO.out (by omega))).symm, Frm.alloc _ _ _⟩
        · go_wp2
          go_roundw
          case rel => exact ⟨k + 1, by omega, by go_num, HST.out ⟨by omega, by omega⟩, by first | trivial | rfl⟩
          case measure => simp [intOf]; omega
    · obtain rfl : k = 4 := by omega
      go_wp2
      go_ret
      exact ⟨ret_bool (tf_true (fun d h0 h4 => HR.out d h0 h4)).symm, Frm.alloc _ _ _⟩
end Go.Proofs.YtggfoihfenlckaaGreat
/- tributaryref07: Right, Of: the walks. -/
namespace Go.Proofs.YtggfoihfenlckaaGreat
open Go.RowKit
theorem dcFrom_snoc : ∀ {c : CtxL} {lo : Int} {s : Int × Int × Int}, DcFrom lo (c ++ [s]) ↔ DcFrom lo c ∧ lo ≤ s.1 ∧ s.1 < 4 ∧ ∀ x ∈ c, x.1 ≤ s.1
  | [], lo, s => by simp [DcFrom]
  | x :: c, lo, s => by
    rw [List.cons_append]
    show (lo ≤ x.1 ∧ x.1 < 4 ∧ DcFrom x.1 (c ++ [s])) ↔ _
    rw [dcFrom_snoc]
    constructor
    · rintro ⟨h1, h2, h3, h4, h5, h6⟩
      refine ⟨⟨h1, h2, h3⟩, by omega, h5, fun y hy => ?_⟩
      rcases List.mem_cons.1 hy with rfl | hy
      · exact h4
      · exact h6 y hy
    · rintro ⟨⟨h1, h2, h3⟩, h4, h5, h6⟩
      exact ⟨h1, h2, h3, h6 x List.mem_cons_self, h5, fun y hy => h6 y (List.mem_cons_of_mem _ hy)⟩
theorem dcFrom_take {c : CtxL} {lo : Int} (h : DcFrom lo c) (k : Nat) : DcFrom lo (c.take k) := by
  have : ∀ {a b : CtxL} {lo : Int}, DcFrom lo (a ++ b) → DcFrom lo a := by
    intro a
    induction a with
    | nil => intro b lo _; trivial
    | cons s a ih => intro b lo h; exact ⟨h.1, h.2.1, ih h.2.2⟩
  exact this (b := c.drop k) (by rw [List.take_append_drop]; exact h)
theorem dcFrom_step {c : CtxL} {k : Nat} (h : DcFrom 0 (c.take k)) (hk : k < c.length) :
    DcFrom 0 (c.take (k + 1)) ↔ 0 ≤ (c.getD k (0, 0, 0)).1 ∧ (c.getD k (0, 0, 0)).1 < 4 ∧ (0 < k → (c.getD (k - 1) (0, 0, 0)).1 ≤ (c.getD k (0, 0, 0)).1) := by
  rw [take_succ (0, 0, 0) hk, dcFrom_snoc]
  generalize c.getD k (0, 0, 0) = s
  constructor
  · rintro ⟨_, h2, h3, h4⟩
    refine ⟨h2, h3, fun h0 => h4 _ ?_⟩
    obtain ⟨j, rfl⟩ : ∃ j, k = j + 1 := ⟨k - 1, by omega⟩
    rw [take_succ (0, 0, 0) (by omega)]
    simp
  · rintro ⟨h1, h2, h3⟩
    refine ⟨h, h1, h2, fun x hx => ?_⟩
    rcases Nat.eq_zero_or_pos k with rfl | h0
    · simp at hx
    · have h5 := h3 h0
      obtain ⟨j, rfl⟩ : ∃ j, k = j + 1 := ⟨k - 1, by omega⟩
      rw [take_succ (0, 0, 0) (by omega)] at hx h
      obtain ⟨_, _, _, h9⟩ := dcFrom_snoc.1 h
      rw [show j + 1 - 1 = j by omega] at h5
      rcases List.mem_append.1 hx with hx | hx
      · have := h9 x hx; omega
      · simp only [List.mem_singleton] at hx; subst hx; exact h5
theorem not_rightC {c : CtxL} {k : Nat} (h : DcFrom 0 (c.take k)) (hk : k < c.length)
    (hn : ¬ (0 ≤ (c.getD k (0, 0, 0)).1 ∧ (c.getD k (0, 0, 0)).1 < 4 ∧ (0 < k → (c.getD (k - 1) (0, 0, 0)).1 ≤ (c.getD k (0, 0, 0)).1))) : ¬ DcFrom 0 c :=
  fun hl => hn ((dcFrom_step h hk).1 (dcFrom_take hl (k + 1)))
/-- The spans' numbers are what they may be. -/
def FitsC (c : CtxL) : Prop := ∀ s ∈ c, -9223372036854775808 ≤ s.1 ∧ s.1 ≤ 9223372036854775807 ∧ -9223372036854775808 ≤ s.2.1 ∧ s.2.1 ≤ 9223372036854775807 ∧ -9223372036854775808 ≤ s.2.2 ∧ s.2.2 ≤ 9223372036854775807
theorem FitsC.part {c : CtxL} (h : FitsC c) (d : Int) : Fits (partL c d) := fun r hr => by
  unfold partL at hr
  obtain ⟨s, hs, rfl⟩ := List.mem_map.1 hr
  have := h s ((List.mem_filter.1 hs).1)
  omega
set_option maxHeartbeats 2000000 in
set_option maxRecDepth 1000000 in
theorem r7Right_any (w : World) (v : Value) (c : CtxL) (hv : CtxAt w v c) (hf : FitsC c) (hl : c.length ≤ 100000) :
    Calls Tryz.prog 21 #[v] w fun e w' => e = .returned (.bool (tf (RightC c))) ∧ Frm NoS w w' := by
  have hcP := fun w' d (h : Frm NoS w w') => r7Part_any w' v c d (Rd.keep0 hv h) hl
  have hfp := hf.part
  rcases Rd.shape hv with ⟨ad, rfl, h0⟩ | ⟨b, off, cc, rfl, hmax⟩
  · obtain rfl : c = [] := List.eq_nil_of_length_eq_zero h0
    have HP := Lib.hid hcP; clear hcP
    have HFP := Lib.hid hfp; clear hfp
    clear hv hf hl
    go_enter Tryz.func21, Tryz.ntmps21
    go_wp2
    go_loopw [7] (fun i ww => i = .int .i64 0 ∧ ww = w) (fun _ _ => 0)
    case atStart => exact ⟨rfl, rfl⟩
    case round =>
      obtain ⟨rfl, rfl⟩ := hrel
      go_wp2
      go_loopw [43] (fun i ww => ∃ k : Nat, k ≤ 4 ∧ i = .int .i64 k ∧ Frm NoS wr ww) (fun i _ => 4 - (intOf i).toNat)
      case atStart => exact ⟨0, by omega, rfl, Frm.refl _ _⟩
      case round =>
        obtain ⟨k, hk, rfl, hw⟩ := hrel
        have HW := Lib.hid hw; clear hw
        by_cases hlt : k < 4
        · go_wp2_with (first
            | (go_at_call 68; refine (HP.out _ k HW.out).mono ?_; rintro e w1 ⟨v1, rfl, ho1⟩; obtain ⟨a1, c1, rfl⟩ := ho1.shape; have HO1 := Lib.hid ho1; clear ho1)
            | (go_at_call 67; refine (r6Right_any _ _ (partL [] k) HO1.out.rd (HFP.out k)).mono ?_; rintro e w2 ⟨rfl, hw2⟩; rw [show partL [] (k : Int) = [] from rfl, tf_true rightR_nil]; have HW2 := Lib.hid hw2; clear hw2))
          go_roundw
          case rel => exact ⟨k + 1, by omega, by go_num, HW.out.then1 (HO1.out.frm.then1 HW2.out)⟩
          case measure => simp [intOf]; omega
        · go_wp2
          go_ret
          exact ⟨ret_bool (tf_true right_nilC).symm, HW.out⟩
  · have HH := Lib.hid hv; clear hv
    have HP := Lib.hid hcP; clear hcP
    have HFP := Lib.hid hfp; clear hfp
    clear hf hl
    generalize hn : c.length = n at *
    have HN := Lib.hid hn; clear hn
    go_enter Tryz.func21, Tryz.ntmps21
    go_wp2
    go_loopw [7] (fun i ww => ∃ k : Nat, k ≤ n ∧ i = .int .i64 k ∧ DcFrom 0 (c.take k) ∧ ∃ q, ww = w.drewN q) (fun i _ => n - (intOf i).toNat)
    case atStart => exact ⟨0, Nat.zero_le _, rfl, trivial, 0, rfl⟩
    case round =>
      obtain ⟨k, hk, rfl, hr, q, rfl⟩ := hrel
      have HR := Lib.hid hr; clear hr
      by_cases hlt : k < n
      · obtain ⟨q0, -, -⟩ := spn_at HH.out HN.out.symm k (by rw [HN.out]; exact hlt)
        have HS := Lib.hid (dcFrom_step HR.out (show k < c.length by rw [HN.out]; exact hlt))
        have HX := Lib.hid (not_rightC HR.out (show k < c.length by rw [HN.out]; exact hlt))
        generalize c.getD k (0, 0, 0) = s at *
        by_cases c1 : s.1 < 0
        · go_wp2_with fail
          go_big_quiet (fail)
          go_wp2
          go_ret
          exact ⟨ret_bool (tf_false (fun h => HX.out (by omega) h.1)).symm, (Frm.drewN _ _ _).drewN1⟩
        · have d1 : decide (s.1 < 0) = false := by simpa using c1
          by_cases c2 : 4 ≤ s.1
          · go_wp2_with fail
            go_big_quiet (fail)
            go_wp2
            go_ret
            exact ⟨ret_bool (tf_false (fun h => HX.out (by omega) h.1)).symm, (Frm.drewN _ _ _).drewN1⟩
          · have d2 : decide (4 ≤ s.1) = false := by simpa using c2
            rcases Nat.eq_zero_or_pos k with rfl | hk0
            · simp only [Nat.zero_mul, Nat.add_zero] at q0
              go_wp2_with fail
              go_big_quiet (fail)
              go_wp2
              go_roundw
              case rel => exact ⟨0 + 1, by omega, by go_num, HS.out.2 ⟨by omega, by omega, by omega⟩, q + nq, by first | rfl | rw [World.drewN_drewN]⟩
              case measure => simp [intOf]; omega
            · obtain ⟨j, rfl⟩ : ∃ j, k = j + 1 := ⟨k - 1, by omega⟩
              obtain ⟨p0, -, -⟩ := spn_at HH.out HN.out.symm j (by rw [HN.out]; omega)
              rw [show j + 1 - 1 = j by omega] at HS HX
              generalize c.getD j (0, 0, 0) = p at *
              have hd : wrap64 (j : Int) = j := by unfold wrap64; omega
              by_cases c3 : s.1 < p.1
              · go_wp2_with fail
                go_big_quiet (fail)
                go_wp2
                go_ret
                exact ⟨ret_bool (tf_false (fun h => HX.out (by omega) h.1)).symm, (Frm.drewN _ _ _).drewN1⟩
              · go_wp2_with fail
                go_big_quiet (fail)
                go_wp2
                go_roundw
                case rel => exact ⟨j + 1 + 1, by omega, by go_num, HS.out.2 ⟨by omega, by omega, by omega⟩, q + nq, by first | rfl | rw [World.drewN_drewN]⟩
                case measure => simp [intOf]; omega
      · obtain rfl : k = n := by omega
        have hall : DcFrom 0 c := by
          have := HR.out
          rwa [List.take_of_length_le (by rw [HN.out]; exact Nat.le_refl _)] at this
        have HA := Lib.hid hall; clear hall
        go_wp2
        go_loopw [43] (fun i ww => ∃ k : Nat, k ≤ 4 ∧ i = .int .i64 k ∧ (∀ d : Int, 0 ≤ d → d < k → RightR (partL c d)) ∧ Frm NoS w ww) (fun i _ => 4 - (intOf i).toNat)
        case atStart => exact ⟨0, by omega, rfl, (fun d h0 h1 => by have : d < 0 := h1; omega), Frm.drewN _ _ _⟩
        case round =>
          obtain ⟨j, hj, rfl, hd, hw⟩ := hrel
          have HW := Lib.hid hw; clear hw
          have HD := Lib.hid hd; clear hd
          by_cases hlt : j < 4
          · cases ht : tf (RightR (partL c j)) with
            | false =>
              have HT := Lib.hid ht; clear ht
              go_wp2_with (first
                | (go_at_call 68; refine (HP.out _ j HW.out).mono ?_; rintro e w1 ⟨v1, rfl, ho1⟩; obtain ⟨a1, c1, rfl⟩ := ho1.shape; have HO1 := Lib.hid ho1; clear ho1)
                | (go_at_call 67; refine (r6Right_any _ _ (partL c j) HO1.out.rd (HFP.out j)).mono ?_; rintro e w2 ⟨rfl, hw2⟩; rw [HT.out]; have HW2 := Lib.hid hw2; clear hw2))
              go_ret
              exact ⟨ret_bool (tf_false (fun h => tf_not.1 HT.out (h.2 j (by omega) (by omega)))).symm, HW.out.then1 (HO1.out.frm.then1 HW2.out)⟩
            | true =>
              have HT := Lib.hid ht; clear ht
              go_wp2_with (first
                | (go_at_call 68; refine (HP.out _ j HW.out).mono ?_; rintro e w1 ⟨v1, rfl, ho1⟩; obtain ⟨a1, c1, rfl⟩ := ho1.shape; have HO1 := Lib.hid ho1; clear ho1)
                | (go_at_call 67; refine (r6Right_any _ _ (partL c j) HO1.out.rd (HFP.out j)).mono ?_; rintro e w2 ⟨rfl, hw2⟩; rw [HT.out]; have HW2 := Lib.hid hw2; clear hw2))
              go_roundw
              case rel =>
                refine ⟨j + 1, by omega, by go_num, fun d h0 h1 => ?_, HW.out.then1 (HO1.out.frm.then1 HW2.out)⟩
                by_cases he : d = j
                · subst he; exact tf_iff.1 HT.out
                · exact HD.out d h0 (by omega)
              case measure => simp [intOf]; omega
          · obtain rfl : j = 4 := by omega
            go_wp2
            go_ret
            exact ⟨ret_bool (tf_true ⟨HA.out, fun d h0 h4 => HD.out d h0 h4⟩).symm, HW.out⟩
end Go.Proofs.YtggfoihfenlckaaGreat
/- tributaryref07: Of: the walk. -/
namespace Go.Proofs.YtggfoihfenlckaaGreat
open Go.RowKit
def numsL (l : RunL) (d : Int) : List Int := (l.filter fun r => r.1 == d).map (·.2)
theorem numsL_take_succ {l : RunL} {k : Nat} (d : Int) (hk : k < l.length) : numsL (l.take (k + 1)) d = numsL (l.take k) d ++ (if (l.getD k (0, 0)).1 = d then [(l.getD k (0, 0)).2] else []) := by
  rw [take_succ (0, 0) hk]
  unfold numsL
  rw [List.filter_append, List.map_append]
  congr 1
  generalize l.getD k (0, 0) = r
  by_cases h : r.1 = d
  · rw [if_pos h, List.filter_cons_of_pos (by simpa using h)]; rfl
  · rw [if_neg h, List.filter_cons_of_neg (by simpa using h)]; rfl
theorem numsL_mem {l : RunL} {d n : Int} : n ∈ numsL l d ↔ (d, n) ∈ l := by
  unfold numsL
  simp only [List.mem_map, List.mem_filter]
  constructor
  · rintro ⟨r, ⟨hr, he⟩, rfl⟩
    have : r.1 = d := by simpa using he
    subst this
    exact hr
  · intro h
    exact ⟨(d, n), ⟨h, by simp⟩, rfl⟩
theorem numsL_length_le (l : RunL) (d : Int) : (numsL l d).length ≤ l.length := by
  unfold numsL; rw [List.length_map]; exact List.length_filter_le _ _
/-- Right dots. -/
def DotsOk (l : RunL) : Prop := ∀ r ∈ l, 0 ≤ r.1 ∧ r.1 < 4 ∧ 1 ≤ r.2 ∧ r.2 ≤ 1099511627776
def OfR (l : RunL) (d : Int) (o : RunL) : Prop := RightR o ∧ ∀ n, InR o n ↔ (d, n) ∈ l
theorem UpTo.ofC {l : RunL} {c : CtxL} (h : UpTo (OfR l) 4 c) : OfC l c :=
  ⟨⟨h.rise, fun d h0 h4 => (h.parts d h0 h4).1⟩, fun d n h0 h4 => (h.parts d h0 h4).2 n⟩
theorem OfInv.ofR {l : RunL} (hl : DotsOk l) {d : Int} {o : RunL} (h : OfInv (numsL l d) o none) : OfR l d o := by
  have hm : ∀ n, InR o n ↔ (d, n) ∈ l := fun n => by
    rw [h.none_ rfl n, numsL_mem]
    exact ⟨fun h => h.2, fun h => ⟨by have := hl _ h; show 0 < n; have : 1 ≤ n := this.2.2.1; omega, h⟩⟩
  exact ⟨RightR.of h.from_ fun n hn => (hl _ ((hm n).1 hn)).2.2.2, hm⟩
theorem numsL_bd {l : RunL} (hl : DotsOk l) (d : Int) : ∀ x ∈ numsL l d, 1 ≤ x ∧ x ≤ 1099511627777 := fun x hx => by
  have := hl _ (numsL_mem.1 hx)
  have h1 : 1 ≤ x := this.2.2.1
  have h2 : x ≤ 1099511627776 := this.2.2.2
  omega
theorem of_len {c : CtxL} {k : Nat} {d : Int} {l o : RunL} (h : c.length ≤ 10000 * k) (hk : k ≤ 4) (hl : o.length ≤ 10000) : (c ++ spansL d o).length ≤ 10000 * (k + 1) ∧ c.length + o.length ≤ 1000000 := by
  rw [List.length_append, spC_spans_len]; omega
set_option maxHeartbeats 2000000 in
set_option maxRecDepth 1000000 in
theorem r7Of_any (w : World) (v : Value) (l : RunL) (hv : RunAt w v l) (hd : DotsOk l) (hl : l.length ≤ 10000) :
    Calls Tryz.prog 125 #[v] w fun e w' => ∃ v' c, e = .returned v' ∧ OwnAt w w' 122 3 v' c.length (spC c) ∧ OfC l c ∧ c.length ≤ 40000 := by
  obtain ⟨i0, hi, hz0, hz1, hz2⟩ := info_parts info_span
  obtain ⟨j0, hji, hy0, hy1, hy2⟩ := info_parts info_i64
  obtain ⟨aA, cA, rfl⟩ := hv.sl
  have HH := Lib.hid hv; clear hv
  have HD := Lib.hid hd; clear hd
  have HL := Lib.hid hl; clear hl
  generalize hn : l.length = n at *
  have HN := Lib.hid hn; clear hn
  go_enter Tryz.func125, Tryz.ntmps125
  go_wp2
  go_loopw [3, 7] (fun v i ww => ∃ (k : Nat) (c : CtxL), k ≤ 4 ∧ i = .int .i64 k ∧ OwnAt w ww 122 3 v c.length (spC c) ∧ UpTo (OfR l) k c ∧ c.length ≤ 10000 * k) (fun _ i _ => 4 - (intOf i).toNat)
  case atStart => exact ⟨0, [], by omega, rfl, OwnAt.nil (Frm.refl _ _) _ _, UpTo.zero _, Nat.zero_le _⟩
  case round =>
    obtain ⟨k, c, hk, rfl, ho, hu, hlen⟩ := hrel
    obtain ⟨av, cv, rfl⟩ := ho.shape
    have HO := Lib.hid ho; clear ho
    have HU := Lib.hid hu; clear hu
    have HLEN := Lib.hid hlen; clear hlen
    by_cases hlt : k < 4
    · have hki : (k : Int) < 4 := by omega
      have hkd : decide ((k : Int) < 4) = true := by simpa using hki
      go_wp2
      go_loopw [5, 12] (fun v i ww => ∃ (j m : Nat), j ≤ n ∧ m ≤ j ∧ i = .int .i64 j ∧ m = (numsL (l.take j) k).length ∧ OwnAt wr ww 2 1 v m (inV (numsL (l.take j) k))) (fun _ i _ => n - (intOf i).toNat)
      case atStart => exact ⟨0, 0, Nat.zero_le _, Nat.le_refl _, rfl, rfl, OwnAt.nil (Frm.refl _ _) _ _⟩
      case round =>
        obtain ⟨j, m, hj, hmj, rfl, hm, hoi⟩ := hrel
        obtain ⟨ai, ci, rfl⟩ := hoi.shape
        have HOI := Lib.hid hoi; clear hoi
        have HM := Lib.hid hm; clear hm
        have HMJ := Lib.hid hmj; clear hmj
        by_cases hjl : j < n
        · rcases Rd.shape HH.out with ⟨ad, he, h0⟩ | ⟨b, off, cc, he, hmax⟩
          · exfalso; have := HN.out; omega
          · injection he with e1 e2 e3
            subst e1 e3
            clear e2
            rw [HN.out] at hmax
            obtain ⟨p0, p1⟩ := run_at HH.out HN.out.symm j (by rw [HN.out]; exact hjl)
            have q0 := HOI.out.frm.cell' (HO.out.frm.cell' p0 id) id
            have q1 := HOI.out.frm.cell' (HO.out.frm.cell' p1 id) id
            have hE := numsL_take_succ (l := l) (k := j) k (by rw [HN.out]; exact hjl)
            generalize l.getD j (0, 0) = s at *
            clear p0 p1
            by_cases he : s.1 = k
            · rw [if_pos he] at hE
              have he' : ((s.1 : Int) == (k : Int)) = true := by simp [he]
              have HE := Lib.hid hE; clear hE
              clear he
              go_wp2_with (at_builtin; go_loud (refine wpList_appO _ _ [.int .i64 s.2] rfl (.tmp 22) (.tmp 28) 216 rfl 2 j0 _ 1 8 Tryz.underlying216 hji hy0 hy1 hy2 (by decide) (by decide) _ _ _ HOI.out 1 1 rfl rfl rfl (by simp [Value.oneCell']) (by have := HL.out; have := HMJ.out; simp only [maxLen]; omega) (by have := HL.out; have := HMJ.out; omega) ?_); intro ad cc2 w2 own2; have OW := Lib.hid own2; clear own2)
              go_roundw
              case rel =>
                refine ⟨j + 1, m + 1, by omega, by have := HMJ.out; omega, by go_num, by rw [HE.out, List.length_append, ← HM.out]; rfl, ?_⟩
                rw [HE.out, inV_append]
                exact OW.out
              case measure => simp [intOf]; omega
            · rw [if_neg he, List.append_nil] at hE
              have he' : ((s.1 : Int) == (k : Int)) = false := by simpa using he
              have HE := Lib.hid hE; clear hE
              clear he
              go_wp2
              go_roundw
              case rel => exact ⟨j + 1, m, by omega, by have := HMJ.out; omega, by go_num, by rw [HE.out]; exact HM.out, by rw [HE.out]; exact HOI.out⟩
              case measure => simp [intOf]; omega
        · obtain rfl : j = n := by omega
          rw [List.take_of_length_le (by rw [HN.out]; exact Nat.le_refl _)] at HOI HM
          have hob := HOI.out.rd
          rw [HM.out] at hob
          have HOB := Lib.hid hob; clear hob
          have HKP := Lib.hid (HO.out.keep HOI.out.frm)
          have hlm : m ≤ 10000 := Nat.le_trans HMJ.out HL.out
          have HLM := Lib.hid (HM.out ▸ hlm : (numsL l k).length ≤ 10000)
          clear hlm
          rw [HM.out]
          go_wp2_with (first
            | (go_at_call 162; refine (r6Of_any _ _ (numsL l k) HOB.out (Nat.le_trans HLM.out (by decide)) (numsL_bd HD.out k)).mono ?_; rintro e w3 ⟨v3, o, rfl, ho3, hof, hol⟩; obtain ⟨a3, c3, rfl⟩ := ho3.shape; have HO3 := Lib.hid ho3; clear ho3; have HOF := Lib.hid hof; clear hof; have HOL := Lib.hid (Nat.le_trans hol HLM.out); clear hol)
            | (go_at_call 159; refine (r7spans_any _ _ o k HO3.out.rd (Nat.le_trans HOL.out (by decide))).mono ?_; rintro e w4 ⟨v4, rfl, ho4⟩; obtain ⟨a4, c4, rfl⟩ := ho4.shape; have HO4 := Lib.hid ho4; clear ho4; have HKK := Lib.hid (HKP.out.keep (HO3.out.frm.then1 HO4.out.frm)))
            | (at_builtin; go_loud (refine wpList_appR w _ _ rfl (.tmp 31) (.tmp 35) 31 31 rfl 122 122 i0 _ 3 24 Tryz.underlying31 Tryz.underlying31 hi hz0 hz1 hz2 (by decide) (by decide) _ _ _ HKK.out _ o.length rfl rfl HO4.out.rd (by rw [spC_length, spC_spans_len]) (spC_oneCell _) (by have := (of_len (d := k) (l := []) HLEN.out (Nat.le_of_lt hlt) HOL.out).2; simp only [maxLen]; omega) (by have := (of_len (d := k) (l := []) HLEN.out (Nat.le_of_lt hlt) HOL.out).2; omega) ?_); intro ad cc w5 own5; have OW := Lib.hid own5; clear own5))
          go_roundw
          case rel =>
            refine ⟨k + 1, c ++ spansL k o, by omega, by go_num, ?_, ?_, (of_len (l := []) HLEN.out (Nat.le_of_lt hlt) HOL.out).1⟩
            · rw [List.length_append, spC_spans_len, spC_append]; exact OW.out
            · exact HU.out.step (by omega) (by omega) (HOF.out.ofR HD.out)
          case measure => simp [intOf]; omega
    · obtain rfl : k = 4 := by omega
      go_wp2
      go_ret
      exact ⟨_, c, rfl, HO.out, HU.out.ofC, HLEN.out⟩
end Go.Proofs.YtggfoihfenlckaaGreat
/- Trees: entries, and kids below keys: how they lie in memory, and what is asked of them. -/
namespace Go.Proofs.YtggfoihfenlckaaGreat
open Go.RowKit
structure Ent where
  dc : Int
  n : Int
  s : ByteArray
  k : Int
/-- The kids of a tree: a key, the entries and the kids of the tree below it; then the other kids. -/
inductive KidsL where
  | nil : KidsL
  | cons (key : ByteArray) (es : List Ent) (sub rest : KidsL) : KidsL
def KidsL.len : KidsL → Nat
  | .nil => 0
  | .cons _ _ _ rest => rest.len + 1
def Ent.zero : Ent := ⟨0, 0, ByteArray.empty, 0⟩
def Ent.cells (e : Ent) : List Value := [.int .i64 e.dc, .int .i64 e.n, .string e.s, .int .i64 e.k]
def entC (es : List Ent) : List Value := es.flatMap Ent.cells
theorem entC_cons (e : Ent) (es : List Ent) : entC (e :: es) = .int .i64 e.dc :: .int .i64 e.n :: .string e.s :: .int .i64 e.k :: entC es := rfl
theorem entC_append (a b : List Ent) : entC (a ++ b) = entC a ++ entC b := by simp [entC]
theorem entC_length : ∀ es : List Ent, (entC es).length = es.length * 4
  | [] => rfl
  | e :: es => by rw [entC_cons]; simp only [List.length_cons, entC_length es]; omega
theorem entC_oneCell (es : List Ent) : ∀ v ∈ entC es, v.oneCell' = true := by
  intro v hv
  simp only [entC, List.mem_flatMap] at hv
  obtain ⟨r, _, hv⟩ := hv
  simp [Ent.cells] at hv
  rcases hv with rfl | rfl | rfl | rfl <;> rfl
theorem entC_at : ∀ (es : List Ent) (k : Nat), k < es.length → (entC es)[k * 4]? = some (.int .i64 (es.getD k Ent.zero).dc) ∧ (entC es)[k * 4 + 1]? = some (.int .i64 (es.getD k Ent.zero).n) ∧
    (entC es)[k * 4 + 2]? = some (.string (es.getD k Ent.zero).s) ∧ (entC es)[k * 4 + 3]? = some (.int .i64 (es.getD k Ent.zero).k)
  | [], _, h => by cases h
  | e :: es, 0, _ => ⟨rfl, rfl, rfl, rfl⟩
  | e :: es, k + 1, h => by
    obtain ⟨h1, h2, h3, h4⟩ := entC_at es k (by simpa using h)
    rw [entC_cons, show (k + 1) * 4 = k * 4 + 1 + 1 + 1 + 1 by omega, show k * 4 + 1 + 1 + 1 + 1 + 1 = (k * 4 + 1) + 1 + 1 + 1 + 1 by omega, show k * 4 + 1 + 1 + 1 + 1 + 2 = (k * 4 + 2) + 1 + 1 + 1 + 1 by omega, show k * 4 + 1 + 1 + 1 + 1 + 3 = (k * 4 + 3) + 1 + 1 + 1 + 1 by omega]
    exact ⟨h1, h2, h3, h4⟩
/-- The cells of kids: each kid's key, and where its tree's entries and kids lie. -/
def kidC : KidsL → List (Value × Value) → List Value
  | .cons key _ _ rest, o :: outs => .string key :: o.1 :: o.2 :: kidC rest outs
  | _, _ => []
/-- It reads so, and lies in blocks with Q. -/
structure RdQ (Q : Nat → Prop) (w : World) (v : Value) (n : Nat) (xs : List Value) : Prop where
  rd : Rd w v n xs
  q : xs ≠ [] → ∀ k, v.ownBlock = some k → Q k
theorem RdQ.keep {Q S : Nat → Prop} {w w' : World} {v : Value} {n : Nat} {xs : List Value} (h : RdQ Q w v n xs) (f : Frm S w w') (hs : ∀ k, k < w.heap.size → S k → ¬ Q k) : RdQ Q w' v n xs := by
  refine ⟨?_, h.q⟩
  rcases h.rd with h1 | ⟨b, off, c, rfl, h1, h2, h3⟩
  · exact .inl h1
  · refine .inr ⟨b, off, c, rfl, h1, h2, fun j u hu => f.cell' (h3 j u hu) fun s => ?_⟩
    have hlt : b < w.heap.size := World.block_lt_of_cell? _ _ (h3 j u hu)
    exact hs b hlt s (h.q (fun e => by rw [e] at hu; simp at hu) b rfl)
def ForAt (Q : Nat → Prop) (w : World) : KidsL → List (Value × Value) → Prop
  | .nil, outs => outs = []
  | .cons _ es sub rest, outs => ∃ ev kv outs' os, outs = (ev, kv) :: outs' ∧ RdQ Q w ev es.length (entC es) ∧ RdQ Q w kv sub.len (kidC sub os) ∧ ForAt Q w sub os ∧ ForAt Q w rest outs'
structure TreeAt (Q : Nat → Prop) (w : World) (ev kv : Value) (es : List Ent) (ks : KidsL) : Prop where
  ents : RdQ Q w ev es.length (entC es)
  kids : ∃ os, RdQ Q w kv ks.len (kidC ks os) ∧ ForAt Q w ks os
theorem ForAt.keep {Q S : Nat → Prop} {w w' : World} (f : Frm S w w') (hs : ∀ k, k < w.heap.size → S k → ¬ Q k) : ∀ {ks : KidsL} {os : List (Value × Value)}, ForAt Q w ks os → ForAt Q w' ks os
  | .nil, _, h => h
  | .cons _ _ _ _, _, ⟨ev, kv, outs', os, h1, h2, h3, h4, h5⟩ => ⟨ev, kv, outs', os, h1, h2.keep f hs, h3.keep f hs, h4.keep f hs, h5.keep f hs⟩
theorem TreeAt.keep {Q S : Nat → Prop} {w w' : World} {ev kv : Value} {es : List Ent} {ks : KidsL} (h : TreeAt Q w ev kv es ks) (f : Frm S w w') (hs : ∀ k, k < w.heap.size → S k → ¬ Q k) : TreeAt Q w' ev kv es ks :=
  ⟨h.ents.keep f hs, let ⟨os, h1, h2⟩ := h.kids; ⟨os, h1.keep f hs, h2.keep f hs⟩⟩
theorem TreeAt.keep0 {Q : Nat → Prop} {w w' : World} {ev kv : Value} {es : List Ent} {ks : KidsL} (h : TreeAt Q w ev kv es ks) (f : Frm NoS w w') : TreeAt Q w' ev kv es ks := h.keep f fun _ _ s => s.elim
theorem ForAt.keep0 {Q : Nat → Prop} {w w' : World} {ks : KidsL} {os : List (Value × Value)} (h : ForAt Q w ks os) (f : Frm NoS w w') : ForAt Q w' ks os := h.keep f fun _ _ s => s.elim
/-- The kid at a place: what is left from there on. -/
def KidsL.drop : Nat → KidsL → KidsL
  | 0, ks => ks
  | _ + 1, .nil => .nil
  | n + 1, .cons _ _ _ rest => rest.drop n
theorem ForAt.drop {Q : Nat → Prop} {w : World} : ∀ (n : Nat) {ks : KidsL} {os : List (Value × Value)}, ForAt Q w ks os → ∃ os', ForAt Q w (ks.drop n) os' ∧ (kidC ks os).drop (n * 3) = kidC (ks.drop n) os'
  | 0, ks, os, h => ⟨os, h, by simp [KidsL.drop]⟩
  | n + 1, .nil, os, h => by cases h; exact ⟨[], rfl, by simp [kidC, KidsL.drop]⟩
  | n + 1, .cons key es sub rest, _, ⟨ev, kv, outs', os, h1, _, _, _, h5⟩ => by
    subst h1
    obtain ⟨os', h6, h7⟩ := ForAt.drop n h5
    refine ⟨os', h6, ?_⟩
    show (_ :: _ :: _ :: kidC rest outs').drop ((n + 1) * 3) = _
    rw [show (n + 1) * 3 = n * 3 + 1 + 1 + 1 by omega]
    exact h7
theorem KidsL.drop_len : ∀ (n : Nat) (ks : KidsL), (ks.drop n).len = ks.len - n
  | 0, ks => by simp [KidsL.drop]
  | n + 1, .nil => by simp [KidsL.drop, KidsL.len]
  | n + 1, .cons _ _ _ rest => by
    show (rest.drop n).len = rest.len + 1 - (n + 1)
    rw [KidsL.drop_len n rest]; omega
theorem KidsL.drop_succ : ∀ (n : Nat) (ks : KidsL) {key : ByteArray} {es : List Ent} {sub rest : KidsL}, ks.drop n = .cons key es sub rest → ks.drop (n + 1) = rest
  | 0, .cons _ _ _ _, _, _, _, _, h => by cases h; rfl
  | 0, .nil, _, _, _, _, h => by cases h
  | n + 1, .nil, _, _, _, _, h => by cases h
  | n + 1, .cons _ _ _ r, _, _, _, _, h => KidsL.drop_succ n r h
theorem KidsL.drop_some {n : Nat} {ks : KidsL} (h : n < ks.len) : ∃ key es sub rest, ks.drop n = .cons key es sub rest := by
  have hl := KidsL.drop_len n ks
  cases hd : ks.drop n with
  | nil => rw [hd] at hl; simp [KidsL.len] at hl; omega
  | cons key es sub rest => exact ⟨_, _, _, _, rfl⟩
theorem KidsL.drop_none {n : Nat} {ks : KidsL} (h : ks.len ≤ n) : ks.drop n = .nil := by
  have hl := KidsL.drop_len n ks
  cases hd : ks.drop n with
  | nil => rfl
  | cons key es sub rest => rw [hd] at hl; simp [KidsL.len] at hl; omega
/-- A kid's cells: its key, its entries, its kids. -/
theorem kid_at {Q : Nat → Prop} {w : World} {b off c m : Nat} {ks : KidsL} {os : List (Value × Value)} (h : Rd w (.slice (some ⟨b, off, none⟩) m c) m (kidC ks os)) (hf : ForAt Q w ks os) {n : Nat} {key : ByteArray} {es : List Ent} {sub rest : KidsL} (hd : ks.drop n = .cons key es sub rest) :
    ∃ ev kv, w.cell? ⟨b, off + n * 3, none⟩ = some (.string key) ∧ w.cell? ⟨b, off + n * 3 + 1, none⟩ = some ev ∧ w.cell? ⟨b, off + n * 3 + 2, none⟩ = some kv ∧ TreeAt Q w ev kv es sub := by
  obtain ⟨os', h1, h2⟩ := hf.drop n
  rw [hd] at h1 h2
  obtain ⟨ev, kv, outs', os2, rfl, g2, g3, g4, _⟩ := h1
  have key_ : ∀ j u, (kidC (.cons key es sub rest) ((ev, kv) :: outs'))[j]? = some u → w.cell? ⟨b, off + n * 3 + j, none⟩ = some u := fun j u hu => by
    rw [← h2, List.getElem?_drop] at hu
    have := h.cell _ u hu
    rwa [← Nat.add_assoc] at this
  exact ⟨ev, kv, key_ 0 _ rfl, key_ 1 _ rfl, key_ 2 _ rfl, g2, os2, g3, g4⟩
theorem ent_at {w : World} {b off c n : Nat} {es : List Ent} (h : Rd w (.slice (some ⟨b, off, none⟩) n c) n (entC es)) (k : Nat) (hk : k < es.length) :
    w.cell? ⟨b, off + k * 4, none⟩ = some (.int .i64 (es.getD k Ent.zero).dc) ∧ w.cell? ⟨b, off + k * 4 + 1, none⟩ = some (.int .i64 (es.getD k Ent.zero).n) ∧ w.cell? ⟨b, off + k * 4 + 2, none⟩ = some (.string (es.getD k Ent.zero).s) ∧ w.cell? ⟨b, off + k * 4 + 3, none⟩ = some (.int .i64 (es.getD k Ent.zero).k) := by
  obtain ⟨h1, h2, h3, h4⟩ := entC_at es k hk
  exact ⟨h.cell _ _ h1, h.cell (k * 4 + 1) _ h2, h.cell (k * 4 + 2) _ h3, h.cell (k * 4 + 3) _ h4⟩
/-- What an entry's numbers and text may be; the bounds of a list in memory. -/
def Ent.fits (e : Ent) : Prop := (-9223372036854775808 ≤ e.dc ∧ e.dc ≤ 9223372036854775807) ∧ (-9223372036854775808 ≤ e.n ∧ e.n ≤ 9223372036854775807) ∧ (-9223372036854775808 ≤ e.k ∧ e.k ≤ 9223372036854775807) ∧ e.s.size ≤ 9223372036854775807
structure EsOk (es : List Ent) : Prop where
  len : es.length ≤ 140737488351232
  fits : ∀ e ∈ es, e.fits
def KidsL.Ok : KidsL → Prop
  | .nil => True
  | .cons key es sub rest => key.size ≤ 9223372036854775807 ∧ EsOk es ∧ sub.len ≤ 140737488351232 ∧ sub.Ok ∧ rest.Ok
theorem KidsL.Ok.drop : ∀ (n : Nat) {ks : KidsL}, ks.Ok → (ks.drop n).Ok
  | 0, _, h => h
  | _ + 1, .nil, _ => trivial
  | n + 1, .cons _ _ _ _, h => KidsL.Ok.drop n h.2.2.2.2
structure TrOk (es : List Ent) (ks : KidsL) : Prop where
  es : EsOk es
  len : ks.len ≤ 140737488351232
  ks : ks.Ok
/-- May an entry be? -/
def entB (e : Ent) : Bool := dotB e.dc e.n && decide (e.s.size ≤ 30 ∧ e.k ≤ 1099511627776 ∧ -1099511627776 ≤ e.k)
def ltE : Option Ent → Ent → Bool
  | none, _ => true
  | some p, e => dotLt p.dc p.n e.dc e.n
def rightEs : Option Ent → List Ent → Bool
  | _, [] => true
  | p, e :: l => entB e && ltE p e && rightEs (some e) l
def ltS (a b : ByteArray) : Bool := Op.bytesLess a.toList b.toList
def ltK : Option ByteArray → ByteArray → Bool
  | none, _ => true
  | some p, s => ltS p s
def isNil (es : List Ent) (ks : KidsL) : Bool := decide (es.length = 0 ∧ ks.len = 0)
/-- Are kids right, in at most so many levels, behind a key? -/
def rightKs : KidsL → Nat → Option ByteArray → Bool
  | .nil, _, _ => true
  | .cons key es sub rest, d, p => keyB key && ltK p key && !isNil es sub && (decide (1 ≤ d) && rightEs none es && rightKs sub (d - 1) none) && rightKs rest d (some key)
def rightT (d : Nat) (es : List Ent) (ks : KidsL) : Bool := decide (1 ≤ d) && rightEs none es && rightKs ks (d - 1) none
theorem rightKs_cons (key : ByteArray) (es : List Ent) (sub rest : KidsL) (d : Nat) (p : Option ByteArray) : rightKs (.cons key es sub rest) d p = (keyB key && ltK p key && !isNil es sub && rightT d es sub && rightKs rest d (some key)) := rfl
def dotsE (es : List Ent) : RunL := es.map fun e => (e.dc, e.n)
def dotsK : KidsL → RunL
  | .nil => []
  | .cons _ es sub rest => dotsE es ++ dotsK sub ++ dotsK rest
def dotsT (es : List Ent) (ks : KidsL) : RunL := dotsE es ++ dotsK ks
/-- How many entries and kids there are. -/
def sizeK : KidsL → Nat
  | .nil => 0
  | .cons _ es sub rest => 1 + es.length + sizeK sub + sizeK rest
def sizeT (es : List Ent) (ks : KidsL) : Nat := es.length + sizeK ks
/-- How many levels there are. -/
def deepK : KidsL → Nat
  | .nil => 0
  | .cons _ _ sub rest => max (1 + deepK sub) (deepK rest)
end Go.Proofs.YtggfoihfenlckaaGreat
/- How many entries and kids a tree has, counted down: the plain law. -/
namespace Go.Proofs.YtggfoihfenlckaaGreat
/-- What is left behind kids, whose number is counted already. -/
def roomK : KidsL → Int → Nat → Int
  | .nil, left, _ => left
  | .cons _ es sub rest, left, d => if left < 0 ∨ d = 0 then -1 else roomK rest (roomK sub (left - es.length - sub.len) (d - 1)) d
def roomT (es : List Ent) (ks : KidsL) (left : Int) (d : Nat) : Int := roomK ks (left - es.length - ks.len) d
theorem roomK_cons (key : ByteArray) (es : List Ent) (sub rest : KidsL) (left : Int) (d : Nat) : roomK (.cons key es sub rest) left d = if left < 0 ∨ d = 0 then -1 else roomK rest (roomT es sub left (d - 1)) d := rfl
theorem roomK_ge : ∀ {ks : KidsL} {left : Int} {d : Nat}, 0 ≤ roomK ks left d → 0 ≤ left
  | .nil, _, _, h => h
  | .cons _ es sub rest, left, d, h => by
    rw [roomK_cons] at h
    split at h
    · omega
    · omega
theorem roomK_size : ∀ {ks : KidsL} {left : Int} {d : Nat}, 0 ≤ roomK ks left d → roomK ks left d + sizeK ks = left + ks.len
  | .nil, _, _, _ => by simp [roomK, sizeK, KidsL.len]
  | .cons _ es sub rest, left, d, h => by
    rw [roomK_cons] at h ⊢
    split at h
    · omega
    · rename_i hc
      rw [if_neg hc]
      have h1 := roomK_ge h
      have h2 := roomK_size h
      have h3 := roomK_size (ks := sub) h1
      unfold roomT at h2 h3 ⊢
      simp only [sizeK, KidsL.len]
      omega
/-- Who has room has few entries and kids. -/
theorem roomT_size {es : List Ent} {ks : KidsL} {left : Int} {d : Nat} (h : 0 ≤ roomT es ks left d) : (sizeT es ks : Int) ≤ left := by
  have := roomK_size h
  unfold roomT at h
  unfold sizeT
  omega
/-- The bounds of what is left. -/
theorem roomK_bd : ∀ {ks : KidsL} {left : Int} {d : Nat}, ks.Ok → left ≤ 1000 → -300000000000000 ≤ left → roomK ks left d ≤ 1000 ∧ -300000000000000 ≤ roomK ks left d
  | .nil, _, _, _, h1, h2 => ⟨h1, h2⟩
  | .cons _ es sub rest, left, d, hk, h1, h2 => by
    rw [roomK_cons]
    split
    · omega
    · obtain ⟨_, he, hs, hok, hr⟩ := hk
      have := he.len
      have h3 := roomK_bd (ks := sub) (left := left - es.length - sub.len) (d := d - 1) hok (by omega) (by omega)
      exact roomK_bd hr h3.1 h3.2
theorem roomK_drop {ks : KidsL} {n : Nat} {key : ByteArray} {es : List Ent} {sub rest : KidsL} (h : ks.drop n = .cons key es sub rest) (left : Int) (d : Nat) :
    roomK (ks.drop n) left d = if left < 0 ∨ d = 0 then -1 else roomK (ks.drop (n + 1)) (roomT es sub left (d - 1)) d := by
  rw [h, KidsL.drop_succ n ks h, roomK_cons]
end Go.Proofs.YtggfoihfenlckaaGreat