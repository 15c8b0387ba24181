/- Words for the law BundleReady: Bun0, Awake0, CFull. -/
import Derived.Test.YtclfajhdonabhaaGreatBundleReadyG5
import Derived.Test.YtclfajhdonabhaaGreatBundleReadyG6
import Derived.Test.YtclfajhdonabhaaGreatBundleReadyG13
set_option linter.unusedSimpArgs false
set_option linter.unusedVariables false
/- Bundles: an argument's block; plain words. Printed by wip/bungen.py. -/
namespace Go.Proofs.YtclfajhdonabhaaGreat
open Go.RowKit

theorem box10 (w : World) (u0 u1 u2 u3 u4 u5 u6 u7 u8 u9 : Value) (T : TypeId) (W : World) (f : Frm NoS (w.alloc (.cells #[u0, u1, u2, u3, u4, u5, u6, u7, u8, u9] T)) W) : W.cell? ⟨w.heap.size, 0, none⟩ = some u0 ∧ W.cell? ⟨w.heap.size, 1, none⟩ = some u1 ∧ W.cell? ⟨w.heap.size, 2, none⟩ = some u2 ∧ W.cell? ⟨w.heap.size, 3, none⟩ = some u3 ∧ W.cell? ⟨w.heap.size, 4, none⟩ = some u4 ∧ W.cell? ⟨w.heap.size, 5, none⟩ = some u5 ∧ W.cell? ⟨w.heap.size, 6, none⟩ = some u6 ∧ W.cell? ⟨w.heap.size, 7, none⟩ = some u7 ∧ W.cell? ⟨w.heap.size, 8, none⟩ = some u8 ∧ W.cell? ⟨w.heap.size, 9, none⟩ = some u9 :=
  ⟨f.cell' (cell_at' (heap_alloc_new w _) 0 rfl) id, f.cell' (cell_at' (heap_alloc_new w _) 1 rfl) id, f.cell' (cell_at' (heap_alloc_new w _) 2 rfl) id, f.cell' (cell_at' (heap_alloc_new w _) 3 rfl) id, f.cell' (cell_at' (heap_alloc_new w _) 4 rfl) id, f.cell' (cell_at' (heap_alloc_new w _) 5 rfl) id, f.cell' (cell_at' (heap_alloc_new w _) 6 rfl) id, f.cell' (cell_at' (heap_alloc_new w _) 7 rfl) id, f.cell' (cell_at' (heap_alloc_new w _) 8 rfl) id, f.cell' (cell_at' (heap_alloc_new w _) 9 rfl) id⟩
theorem fullL_congr {f g : Int → Int} (h : ∀ d, 0 ≤ d → d < 4 → f d = g d) : fullL f = fullL g := by
  unfold fullL wholeL
  simp only [h 0 (by decide) (by decide), h 1 (by decide) (by decide), h 2 (by decide) (by decide), h 3 (by decide) (by decide)]
theorem mayV_congr {f g : Int → Int} (h : ∀ d, 0 ≤ d → d < 4 → f d = g d) : MayV f ↔ MayV g := by
  unfold MayV
  exact ⟨fun x d h0 h4 => by rw [← h d h0 h4]; exact x d h0 h4, fun x d h0 h4 => by rw [h d h0 h4]; exact x d h0 h4⟩
theorem set_vec (v0 v1 v2 v3 x d : Int) (h0 : 0 ≤ d) (h4 : d < 4) :
    vecF x v1 v2 v3 d = setF (vecF v0 v1 v2 v3) 0 x d ∧ vecF v0 x v2 v3 d = setF (vecF v0 v1 v2 v3) 1 x d ∧ vecF v0 v1 x v3 d = setF (vecF v0 v1 v2 v3) 2 x d ∧ vecF v0 v1 v2 x d = setF (vecF v0 v1 v2 v3) 3 x d := by
  rcases four h0 h4 with rfl | rfl | rfl | rfl <;> simp [vecF, setF]
theorem BunNums.may_set {dc af la x : Int} {f : Int → Int} (h : BunNums dc af la f) (h0 : 0 ≤ x) (h1 : x ≤ 1099511627776) : MayV (setF f dc x) := fun d h2 h4 => by
  unfold setF
  by_cases he : d = dc
  · rw [if_pos he]; exact ⟨h0, h1⟩
  · rw [if_neg he]; exact h.2.2.2.2.2.2 d h2 h4
theorem BunNums.own_right {dc af la : Int} {f : Int → Int} (h : BunNums dc af la f) : RightC [(dc, af + 1, la)] := by
  obtain ⟨h0, h1, h2, h3, h4, h5, h6⟩ := h
  exact right_one h0 h1 (by omega) (by omega) h4
end Go.Proofs.YtclfajhdonabhaaGreat

/- tributarylaw22: delta: the walk. -/
namespace Go.Proofs.YtclfajhdonabhaaGreat
open Go.RowKit

def keyF : ByteArray := ⟨#[102]⟩
def dEs : List Ent := [⟨1, 1, ByteArray.empty, 0⟩]
def dKs : KidsL := .cons keyF dEs .nil .nil
/-- Five blocks laid one behind the other. -/
theorem five_blocks (w : World) (c0 c1 c2 c3 c4 : Array Value) (T0 T1 T2 T3 T4 : TypeId) (W : World) (hW : W = ((((w.alloc (.cells c0 T0)).alloc (.cells c1 T1)).alloc (.cells c2 T2)).alloc (.cells c3 T3)).alloc (.cells c4 T4)) :
    W.heap[w.heap.size]? = some (.cells c0 T0 (0, 0)) ∧ W.heap[w.heap.size + 1 + 1]? = some (.cells c2 T2 (0, 0)) ∧ W.heap[w.heap.size + 1 + 1 + 1]? = some (.cells c3 T3 (0, 0)) ∧ W.heap[w.heap.size + 1 + 1 + 1 + 1]? = some (.cells c4 T4 (0, 0)) ∧ Frm NoS w W := by
  subst hW
  have h0 := heap_alloc_new w (.cells c0 T0)
  have h2 := heap_alloc_new ((w.alloc (.cells c0 T0)).alloc (.cells c1 T1)) (.cells c2 T2)
  have h3 := heap_alloc_new (((w.alloc (.cells c0 T0)).alloc (.cells c1 T1)).alloc (.cells c2 T2)) (.cells c3 T3)
  have h4 := heap_alloc_new ((((w.alloc (.cells c0 T0)).alloc (.cells c1 T1)).alloc (.cells c2 T2)).alloc (.cells c3 T3)) (.cells c4 T4)
  have sz : ∀ (u : World) (o : Obj), (u.alloc o).heap.size = u.heap.size + 1 := fun u o => by simp
  simp only [sz] at h2 h3 h4
  exact ⟨(((Frm.alloc NoS _ _).alloc1.alloc1).alloc1).blk h0 id, ((Frm.alloc NoS _ _).alloc1).blk h2 id, (Frm.alloc NoS _ _).blk h3 id, h4, ((((Frm.alloc NoS _ _).alloc1).alloc1).alloc1).alloc1⟩
theorem row_rd {w : World} {b n : Nat} {cs : Array Value} {T : TypeId} (h : w.heap[b]? = some (.cells cs T (0, 0))) (hm : n ≤ 100) : Rd w (.slice (some ⟨b, 0, none⟩) n n) n cs.toList :=
  .inr ⟨b, 0, n, rfl, Nat.le_refl _, by simp only [maxLen]; omega, fun j u hu => by rw [Nat.zero_add]; exact cell_at' h j (by simpa using hu)⟩
set_option maxRecDepth 1000000 in
theorem delta22_any (w : World) : Calls Tryz.prog 26 #[] w fun e w' => ∃ ev kv cv, e = .returned (.agg #[ev, kv, cv]) ∧ CauAt (fun _ => True) w' ev kv cv [] dKs [(1, 1, 1)] ∧ Frm NoS w w' := by
  have HFI := Lib.hid (fun c0 c1 c2 c3 c4 T0 T1 T2 T3 T4 => five_blocks w c0 c1 c2 c3 c4 T0 T1 T2 T3 T4 _ rfl)
  go_enter Tryz.func26, Tryz.ntmps26
  go_wp2
  generalize hW : ((((w.alloc (.cells #[.slice none 0 0, .slice (some ⟨w.heap.size + 1 + 1 + 1, 0, none⟩) 1 1, .slice (some ⟨w.heap.size + 1 + 1 + 1 + 1, 0, none⟩) 1 1] 31)).alloc (.cells #[.int .i64 1, .int .i64 1, .string ⟨#[]⟩, .int .i64 0] 74)).alloc (.cells #[.int .i64 1, .int .i64 1, .string ⟨#[]⟩, .int .i64 0] 74)).alloc (.cells #[.string ⟨#[102]⟩, .slice (some ⟨w.heap.size + 1 + 1, 0, none⟩) 1 1, .slice none 0 0] 76)).alloc (.cells #[.int .i64 1, .int .i64 1, .int .i64 1] 61) = W
  obtain ⟨g0, g2, g3, g4, gf⟩ := five_blocks w _ _ _ _ _ _ _ _ _ _ W hW.symm
  have y0 := cell_at' g0 0 rfl
  have y1 := cell_at' g0 1 rfl
  have y2 := cell_at' g0 2 rfl
  refine bodyPost_ret (v := .agg #[.slice none 0 0, .slice (some ⟨w.heap.size + 1 + 1 + 1, 0, none⟩) 1 1, .slice (some ⟨w.heap.size + 1 + 1 + 1 + 1, 0, none⟩) 1 1]) (by simp [results, Tryz.results26, go_sem, y0, y1, y2]) rfl ⟨_, _, _, rfl, ⟨⟨⟨.inl ⟨none, rfl, rfl, rfl⟩, fun _ _ _ => trivial⟩, [(.slice (some ⟨w.heap.size + 1 + 1, 0, none⟩) 1 1, .slice none 0 0)], ⟨row_rd g3 (by decide), fun _ _ _ => trivial⟩, ?_⟩, row_rd g4 (by decide)⟩, gf⟩
  exact ⟨_, _, _, [], rfl, ⟨row_rd g2 (by decide), fun _ _ _ => trivial⟩, ⟨.inl ⟨none, rfl, rfl, rfl⟩, fun _ _ _ => trivial⟩, rfl, rfl⟩
theorem dKs_right : rightT 5 [] dKs = true := by
  rw [rightT, dKs, rightKs_cons]
  simp only [rightT, rightEs, rightKs, keyB, ltK, isNil, dEs, entB, dotB, ltE, KidsL.len, List.length]
  decide
end Go.Proofs.YtclfajhdonabhaaGreat

/- context: Full, Range: the walks. -/
namespace Go.Proofs.YtclfajhdonabhaaGreat
open Go.RowKit

def FullPost (w : World) (f : Int → Int) (e : Ending) (w' : World) : Prop :=
  Frm NoS w w' ∧ (MayV f → ∃ v', e = .returned (.tuple #[v', .int .i64 0]) ∧ OwnAt w w' 61 3 v' (fullL f).length (spC (fullL f)) ∧ (fullL f).length ≤ 4) ∧ (¬ MayV f → e = .returned (.tuple #[.slice none 0 0, .int .i64 1]))
set_option maxHeartbeats 2000000 in
set_option maxRecDepth 1000000 in
theorem cFull_any (w : World) (v0 v1 v2 v3 : Int) : Calls Tryz.prog 21 #[vecV v0 v1 v2 v3] w (FullPost w (vecF v0 v1 v2 v3)) := by
  obtain ⟨i0, hi, hz0, hz1, hz2⟩ := info_parts info_span
  have hix : ∀ (k : Nat), k < 4 → ∀ W, (Instr.index 23 (.agg #[.int .i64 v0, .int .i64 v1, .int .i64 v2, .int .i64 v3]) (.int .i64 (k : Int))).run Tryz.prog W = .ok (.int .i64 (vecF v0 v1 v2 v3 k)) W := fun k hk => by
    rcases (by omega : k = 0 ∨ k = 1 ∨ k = 2 ∨ k = 3) with rfl | rfl | rfl | rfl <;> exact fun _ => by kernel_rfl
  have HIX := Lib.hid hix; clear hix
  unfold vecV
  generalize hf : vecF v0 v1 v2 v3 = f at *
  clear hf
  go_enter Tryz.func21, Tryz.ntmps21
  go_wp2
  go_loopw [4, 8] (fun v i ww => ∃ (k : Nat) (c : CtxL), k ≤ 4 ∧ i = .int .i64 k ∧ OwnAt w ww 61 3 v c.length (spC c) ∧ UpTo (FullR f) k c ∧ c.length ≤ k ∧ ∀ d : Int, 0 ≤ d → d < k → 0 ≤ f d ∧ f d ≤ 1099511627776) (fun _ i _ => 4 - (intOf i).toNat)
  case atStart => exact ⟨0, [], by omega, rfl, OwnAt.nil (Frm.alloc _ _ _) _ _, UpTo.zero _, Nat.zero_le _, fun d h0 h1 => by have : d < 0 := h1; omega⟩
  case round =>
    obtain ⟨k, c, hk, rfl, ho, hu, hlen, hr⟩ := hrel
    obtain ⟨av, cv, rfl⟩ := ho.shape
    have HO := Lib.hid ho; clear ho
    have HU := Lib.hid hu; clear hu
    have HLEN := Lib.hid hlen; clear hlen
    have HR := Lib.hid hr; clear hr
    by_cases hlt : k < 4
    · have hx := HIX.out k hlt
      have hst := HU.out.step (o := fullP (f k)) (by omega) (by omega) rfl
      have hL : c.length ≤ 4 := by have := HLEN.out; omega
      have hrr : 0 ≤ f k ∧ f k ≤ 1099511627776 → ∀ d : Int, 0 ≤ d → d < ((k + 1 : Nat) : Int) → 0 ≤ f d ∧ f d ≤ 1099511627776 := fun h d h0 h1 => by
        by_cases he : d = k
        · subst he; exact h
        · exact HR.out d h0 (by omega)
      have hno : ¬ (0 ≤ f k ∧ f k ≤ 1099511627776) → ¬ MayV f := fun h hm => h (hm k (by omega) (by omega))
      have HRR := Lib.hid hrr; clear hrr
      have HNO := Lib.hid hno; clear hno
      by_cases c1 : f k < 0
      · generalize f k = x at *
        clear hst hL
        go_wp2
        go_ret2
        exact ⟨HO.out.frm, fun h => absurd h (HNO.out (by omega)), fun _ => rfl⟩
      · by_cases c2 : 1099511627776 < f k
        · generalize f k = x at *
          clear hst hL
          go_wp2
          go_ret2
          exact ⟨HO.out.frm, fun h => absurd h (HNO.out (by omega)), fun _ => rfl⟩
        · by_cases h0 : 0 < f k
          · have he : spansL (k : Int) (fullP (f k)) = [((k : Int), 1, f k)] := by unfold fullP; rw [if_pos h0]; rfl
            rw [he] at hst
            clear he
            generalize f k = x at *
            have HST := Lib.hid hst; clear hst
            have HL := Lib.hid hL; clear hL
            go_wp2_with (at_builtin; go_loud (refine wpList_appO w _ [.int .i64 k, .int .i64 1, .int .i64 x] rfl (.tmp 20) (.tmp 24) 29 rfl 61 i0 _ 3 24 Tryz.underlying29 hi hz0 hz1 hz2 (by decide) (by decide) _ _ _ HO.out 1 1 rfl rfl rfl (by simp [Value.oneCell']) (by have := HL.out; simp only [maxLen]; omega) (by have := HL.out; omega) ?_); intro ad cc w2 own2; have OW := Lib.hid own2; clear own2)
            go_roundw
            case rel => exact ⟨k + 1, c ++ [((k : Int), 1, x)], by omega, by go_num, by rw [List.length_append, spC_append]; exact OW.out, HST.out, by rw [List.length_append]; have := HLEN.out; simp; omega, HRR.out ⟨by omega, by omega⟩⟩
            case measure => simp [intOf]; omega
          · have he : spansL (k : Int) (fullP (f k)) = [] := by unfold fullP; rw [if_neg h0]; rfl
            rw [he, List.append_nil] at hst
            clear he
            generalize f k = x at *
            have HST := Lib.hid hst; clear hst
            clear hL
            go_wp2
            go_roundw
            case rel => exact ⟨k + 1, c, by omega, by go_num, HO.out, HST.out, by have := HLEN.out; omega, HRR.out ⟨by omega, by omega⟩⟩
            case measure => simp [intOf]; omega
    · obtain rfl : k = 4 := by omega
      go_wp2
      go_ret2
      have := HU.out.full
      subst this
      exact ⟨HO.out.frm, fun _ => ⟨_, rfl, HO.out, HLEN.out⟩, fun h => absurd (fun d h0 h4 => HR.out d h0 h4) h⟩
/-- context.Range where all may be. -/
theorem cRange_ok (w : World) (dc a b : Int) (h0 : 0 ≤ dc) (h4 : dc < 4) (ha : 1 ≤ a) (hab : a ≤ b) (hb : b ≤ 1099511627776) :
    Calls Tryz.prog 73 #[.int .i64 dc, .int .i64 a, .int .i64 b] w fun e w' => ∃ v', e = .returned (.tuple #[v', .int .i64 0]) ∧ CtxAt w' v' [(dc, a, b)] ∧ Frm NoS w w' := by
  have hd1 : dotB dc a = true := by unfold dotB; simp; omega
  have hd2 : dotB dc b = true := by unfold dotB; simp; omega
  go_enter Tryz.func73, Tryz.ntmps73
  go_wp2_with (go_at_call 95; refine (dotRight_any _ _ _).mono ?_; rintro e w1 ⟨rfl, hw1⟩; first | rw [hd1] | rw [hd2])
  go_ret2
  rename_i wa hwa _
  have hc : (w1.alloc (.cells #[.int .i64 dc, .int .i64 a, .int .i64 b] 61)).heap[w1.heap.size]? = _ := heap_alloc_new w1 _
  refine ⟨_, rfl, .inr ⟨w1.heap.size, 0, 1, rfl, Nat.le_refl _, by simp [maxLen], fun j u hu => ?_⟩, (hwa.then1 hw1).alloc1⟩
  rw [Nat.zero_add]
  have hu2 : ([.int .i64 dc, .int .i64 a, .int .i64 b] : List Value)[j]? = some u := hu
  exact cell_at' hc j (by simpa using hu2)
end Go.Proofs.YtclfajhdonabhaaGreat
