/- Words for the law BundleGets: CFull. -/
import Derived.Test.YtafdclkpeomomaaGreatBundleGetsG5
set_option linter.unusedSimpArgs false
set_option linter.unusedVariables false
/- context: Full, Range: the walks. -/
namespace Go.Proofs.YtafdclkpeomomaaGreat
open Go.RowKit

def FullPost (w : World) (f : Int → Int) (e : Ending) (w' : World) : Prop :=
  Frm NoS w w' ∧ (MayV f → ∃ v', e = .returned (.tuple #[v', .int .i64 0]) ∧ OwnAt w w' 107 3 v' (fullL f).length (spC (fullL f)) ∧ (fullL f).length ≤ 4) ∧ (¬ MayV f → e = .returned (.tuple #[.slice none 0 0, .int .i64 1]))
set_option maxHeartbeats 2000000 in
set_option maxRecDepth 1000000 in
theorem cFull_any (w : World) (v0 v1 v2 v3 : Int) : Calls Tryz.prog 90 #[vecV v0 v1 v2 v3] w (FullPost w (vecF v0 v1 v2 v3)) := by
  obtain ⟨i0, hi, hz0, hz1, hz2⟩ := info_parts info_span
  have hix : ∀ (k : Nat), k < 4 → ∀ W, (Instr.index 49 (.agg #[.int .i64 v0, .int .i64 v1, .int .i64 v2, .int .i64 v3]) (.int .i64 (k : Int))).run Tryz.prog W = .ok (.int .i64 (vecF v0 v1 v2 v3 k)) W := fun k hk => by
    rcases (by omega : k = 0 ∨ k = 1 ∨ k = 2 ∨ k = 3) with rfl | rfl | rfl | rfl <;> exact fun _ => by kernel_rfl
  have HIX := Lib.hid hix; clear hix
  unfold vecV
  generalize hf : vecF v0 v1 v2 v3 = f at *
  clear hf
  go_enter Tryz.func90, Tryz.ntmps90
  go_wp2
  go_loopw [4, 8] (fun v i ww => ∃ (k : Nat) (c : CtxL), k ≤ 4 ∧ i = .int .i64 k ∧ OwnAt w ww 107 3 v c.length (spC c) ∧ UpTo (FullR f) k c ∧ c.length ≤ k ∧ ∀ d : Int, 0 ≤ d → d < k → 0 ≤ f d ∧ f d ≤ 1099511627776) (fun _ i _ => 4 - (intOf i).toNat)
  case atStart => exact ⟨0, [], by omega, rfl, OwnAt.nil (Frm.alloc _ _ _) _ _, UpTo.zero _, Nat.zero_le _, fun d h0 h1 => by have : d < 0 := h1; omega⟩
  case round =>
    obtain ⟨k, c, hk, rfl, ho, hu, hlen, hr⟩ := hrel
    obtain ⟨av, cv, rfl⟩ := ho.shape
    have HO := Lib.hid ho; clear ho
    have HU := Lib.hid hu; clear hu
    have HLEN := Lib.hid hlen; clear hlen
    have HR := Lib.hid hr; clear hr
    by_cases hlt : k < 4
    · have hx := HIX.out k hlt
      have hst := HU.out.step (o := fullP (f k)) (by omega) (by omega) rfl
      have hL : c.length ≤ 4 := by have := HLEN.out; omega
      have hrr : 0 ≤ f k ∧ f k ≤ 1099511627776 → ∀ d : Int, 0 ≤ d → d < ((k + 1 : Nat) : Int) → 0 ≤ f d ∧ f d ≤ 1099511627776 := fun h d h0 h1 => by
        by_cases he : d = k
        · subst he; exact h
        · exact HR.out d h0 (by omega)
      have hno : ¬ (0 ≤ f k ∧ f k ≤ 1099511627776) → ¬ MayV f := fun h hm => h (hm k (by omega) (by omega))
      have HRR := Lib.hid hrr; clear hrr
      have HNO := Lib.hid hno; clear hno
      by_cases c1 : f k < 0
      · generalize f k = x at *
        clear hst hL
        go_wp2
        go_ret2
        exact ⟨HO.out.frm, fun h => absurd h (HNO.out (by omega)), fun _ => rfl⟩
      · by_cases c2 : 1099511627776 < f k
        · generalize f k = x at *
          clear hst hL
          go_wp2
          go_ret2
          exact ⟨HO.out.frm, fun h => absurd h (HNO.out (by omega)), fun _ => rfl⟩
        · by_cases h0 : 0 < f k
          · have he : spansL (k : Int) (fullP (f k)) = [((k : Int), 1, f k)] := by unfold fullP; rw [if_pos h0]; rfl
            rw [he] at hst
            clear he
            generalize f k = x at *
            have HST := Lib.hid hst; clear hst
            have HL := Lib.hid hL; clear hL
            go_wp2_with (at_builtin; go_loud (refine wpList_appO w _ [.int .i64 k, .int .i64 1, .int .i64 x] rfl (.tmp 20) (.tmp 24) 27 rfl 107 i0 _ 3 24 Tryz.underlying27 hi hz0 hz1 hz2 (by decide) (by decide) _ _ _ HO.out 1 1 rfl rfl rfl (by simp [Value.oneCell']) (by have := HL.out; simp only [maxLen]; omega) (by have := HL.out; omega) ?_); intro ad cc w2 own2; have OW := Lib.hid own2; clear own2)
            go_roundw
            case rel => exact ⟨k + 1, c ++ [((k : Int), 1, x)], by omega, by go_num, by rw [List.length_append, spC_append]; exact OW.out, HST.out, by rw [List.length_append]; have := HLEN.out; simp; omega, HRR.out ⟨by omega, by omega⟩⟩
            case measure => simp [intOf]; omega
          · have he : spansL (k : Int) (fullP (f k)) = [] := by unfold fullP; rw [if_neg h0]; rfl
            rw [he, List.append_nil] at hst
            clear he
            generalize f k = x at *
            have HST := Lib.hid hst; clear hst
            clear hL
            go_wp2
            go_roundw
            case rel => exact ⟨k + 1, c, by omega, by go_num, HO.out, HST.out, by have := HLEN.out; omega, HRR.out ⟨by omega, by omega⟩⟩
            case measure => simp [intOf]; omega
    · obtain rfl : k = 4 := by omega
      go_wp2
      go_ret2
      have := HU.out.full
      subst this
      exact ⟨HO.out.frm, fun _ => ⟨_, rfl, HO.out, HLEN.out⟩, fun h => absurd (fun d h0 h4 => HR.out d h0 h4) h⟩
/-- context.Range where all may be. -/
theorem cRange_ok (w : World) (dc a b : Int) (h0 : 0 ≤ dc) (h4 : dc < 4) (ha : 1 ≤ a) (hab : a ≤ b) (hb : b ≤ 1099511627776) :
    Calls Tryz.prog 141 #[.int .i64 dc, .int .i64 a, .int .i64 b] w fun e w' => ∃ v', e = .returned (.tuple #[v', .int .i64 0]) ∧ CtxAt w' v' [(dc, a, b)] ∧ Frm NoS w w' := by
  have hd1 : dotB dc a = true := by unfold dotB; simp; omega
  have hd2 : dotB dc b = true := by unfold dotB; simp; omega
  go_enter Tryz.func141, Tryz.ntmps141
  go_wp2_with (go_at_call 162; refine (dotRight_any _ _ _).mono ?_; rintro e w1 ⟨rfl, hw1⟩; first | rw [hd1] | rw [hd2])
  go_ret2
  rename_i wa hwa _
  have hc : (w1.alloc (.cells #[.int .i64 dc, .int .i64 a, .int .i64 b] 107)).heap[w1.heap.size]? = _ := heap_alloc_new w1 _
  refine ⟨_, rfl, .inr ⟨w1.heap.size, 0, 1, rfl, Nat.le_refl _, by simp [maxLen], fun j u hu => ?_⟩, (hwa.then1 hw1).alloc1⟩
  rw [Nat.zero_add]
  have hu2 : ([.int .i64 dc, .int .i64 a, .int .i64 b] : List Value)[j]? = some u := hu
  exact cell_at' hc j (by simpa using hu2)
end Go.Proofs.YtafdclkpeomomaaGreat
