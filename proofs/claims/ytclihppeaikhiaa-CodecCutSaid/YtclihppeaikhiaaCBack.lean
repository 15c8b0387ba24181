/- tributarylaw02.CodecBack: the walk. -/
import Derived.Test.YtclihppeaikhiaaBackNil
import Derived.Test.YtclihppeaikhiaaPuts
namespace Go.Proofs.Ytclihppeaikhiaa
open Go.RowKit

def few50 (l : List Item) : Prop := l.length ≤ 101 ∧ totS l ≤ 50000
theorem few50.len {l : List Item} (h : few50 l) (hf : ∀ i ∈ l, i.fits) : (itemsB l).length ≤ 51010 := by
  have := itemsB_len hf
  have := h.1
  have := h.2
  omega

set_option maxHeartbeats 400000 in
set_option maxRecDepth 1000000 in
theorem cback_no (w : World) (l : List Item) (vl : Value) (hl : ItemsAt w vl l) (hn : ¬ few50 l) :
    Calls Try.prog 6 #[vl] w fun e w' => e = .returned (.bool true) ∧ Frm (fun _ => False) w w' := by
  have HL := Lib.hid hl; clear hl
  have HN := Lib.hid hn; clear hn
  go_enter Try.func6, Try.ntmps6
  go_wp2_with fail
  refine (awake02 _).mono ?_
  rintro e w1 ⟨rfl, hm1⟩
  have H1 := Lib.hid hm1; clear hm1
  go_wp2_with fail
  refine (few_no l vl 50000 w1 (HL.out.keep H1.out fun _ _ h => h) HN.out (by omega)).mono ?_
  rintro e w2 ⟨rfl, rfl⟩
  go_wp2_with fail
  refine (awake02 _).mono ?_
  rintro e w3 ⟨rfl, hm3⟩
  have H3 := Lib.hid hm3; clear hm3
  go_wp2
  go_ret
  exact ⟨rfl, H1.out.trans H3.out fun _ _ h => h⟩

def CBRel (w : World) (l : List Item) (n : Nat) (u : Value) (wr : World) : Prop :=
  ∃ k : Nat, k ≤ n ∧ u = .int .i64 k ∧ Frm Nowhere w wr ∧ ∀ j, j < k → (l.getD j Item.zero).n ≠ -9223372036854775808

set_option maxHeartbeats 1000000 in
set_option maxRecDepth 1000000 in
theorem cback_yes (w : World) (l : List Item) (vl : Value) (hl : ItemsAt w vl l) (hy : few50 l) (hvl : l ≠ [] → ∀ k, vl.ownBlock = some k → k < w.heap.size) :
    Calls Try.prog 6 #[vl] w fun e w' => e = .returned (.bool true) ∧ Frm (fun _ => False) w w' := by
  have hbl := hy.len hl.2
  generalize hB : itemsB l = bb at *
  have HB := Lib.hid hB; clear hB
  have HY := Lib.hid hy; clear hy
  have HVL := Lib.hid hvl; clear hvl
  rcases hl.1 with ⟨ad, rfl, h0⟩ | ⟨b, off, c, rfl, -, -, -⟩
  · have HL := Lib.hid hl; clear hl
    have H0 := Lib.hid h0; clear h0
    have hmin : ∀ i ∈ l, i.n ≠ -9223372036854775808 := by
      intro i hi
      rw [List.eq_nil_of_length_eq_zero H0.out] at hi
      cases hi
    have HMIN := Lib.hid hmin; clear hmin
    go_enter Try.func6, Try.ntmps6
    go_wp2_with fail
    refine (awake02 _).mono ?_
    rintro e w1 ⟨rfl, hm1⟩
    have H1 := Lib.hid hm1; clear hm1
    go_wp2_with fail
    refine (few_yes l _ 50000 w1 (HL.out.keep H1.out fun _ _ h => h) HY.out.1 HY.out.2 (by omega)).mono ?_
    rintro e w2 ⟨rfl, rfl⟩
    go_wp2
    go_loopw [17] (fun u wr => u = .int .i64 0 ∧ Frm Nowhere w wr) (fun _ _ => 0)
    case atStart => exact ⟨rfl, H1.out⟩
    case round =>
      obtain ⟨rfl, hfm⟩ := hrel
      have HFM := Lib.hid hfm; clear hfm
      go_wp2_with fail
      have hf2 : Frm (fun _ => False) w (wr.alloc (.cells #[.slice none 0 0] 27)) := HFM.out.trans (Frm.alloc _ wr _) fun _ _ h => h
      have HF2 := Lib.hid hf2; clear hf2
      have hsz : w.heap.size ≤ wr.heap.size := HFM.out.size
      refine (put_go wr.heap.size l (.slice ad 0 0) _ (.slice none 0 0) [] (out_new wr) (HL.out.keep HF2.out fun _ _ h => h) (fun hne k hk hs => by
        have := HVL.out hne k hk
        exact out_no (w := w) hsz (fun _ h => by simp [Value.ownBlock] at h) k this hs) (by rw [HB.out]; simp; omega)).mono ?_
      rintro e w4 ⟨rfl, v4, ho4, hfr4, hfm4⟩
      rw [HB.out, List.nil_append] at ho4
      have hf4 : Frm (fun _ => False) w w4 := HF2.out.trans hfm4 fun i hi hs => out_no hsz (fun _ h => by simp [Value.ownBlock] at h) i hi hs
      have HF4 := Lib.hid hf4; clear hf4
      have HO4 := Lib.hid ho4; clear ho4
      clear hfr4 hfm4
      go_wp2_with fail
      refine (end_ok wr.heap.size w4 v4 bb HO4.out (by omega)).mono ?_
      rintro e w5 ⟨v5, rfl, hc5⟩
      have hf5 : Frm (fun _ => False) w w5 := HF4.out.trans hc5.frm fun _ _ h => h
      have hbk := back_any w5 v5 bb hc5.rd (by omega) l (.slice ad 0 0) (HL.out.keep hf5 fun _ _ h => h) true (fun _ => ⟨HB.out.symm, HMIN.out⟩) (fun h => by cases h)
      have HBK := Lib.hid hbk; clear hbk
      have HF5 := Lib.hid hf5; clear hf5
      clear hc5
      go_wp2_with fail
      refine HBK.out.mono ?_
      rintro e w6 ⟨rfl, hfm6⟩
      have hf6 : Frm (fun _ => False) w w6 := HF5.out.trans hfm6 fun _ _ h => h
      have HF6 := Lib.hid hf6; clear hf6
      clear hfm6
      go_wp2
      go_ret
      exact ⟨rfl, HF6.out⟩
  · have HL := Lib.hid hl; clear hl
    generalize hn : l.length = n at *
    have HN := Lib.hid hn; clear hn
    go_enter Try.func6, Try.ntmps6
    go_wp2_with fail
    refine (awake02 _).mono ?_
    rintro e w1 ⟨rfl, hm1⟩
    have H1 := Lib.hid hm1; clear hm1
    go_wp2_with fail
    refine (few_yes l _ 50000 w1 (HL.out.keep H1.out fun _ _ h => h) HY.out.1 HY.out.2 (by omega)).mono ?_
    rintro e w2 ⟨rfl, rfl⟩
    go_wp2
    go_loopw [17] (fun u wr => CBRel w l n u wr) (fun u _ => n - (intOf u).toNat)
    case atStart => exact ⟨0, Nat.zero_le _, rfl, H1.out, fun j hj => by omega⟩
    case round =>
      obtain ⟨k, hk, rfl, hfm, hmn⟩ := hrel
      have HFM := Lib.hid hfm; clear hfm
      have hn101 : n ≤ 101 := by rw [← HN.out]; exact HY.out.1
      by_cases hlt : k < n
      · have hkl : k < l.length := by rw [HN.out]; exact hlt
        obtain ⟨-, -, q1, -, q3⟩ := items_at (HL.out.keep HFM.out fun _ _ h => h) k hkl
        have hlo := q3.1
        have hhi := q3.2.1
        clear q3
        have hstep : (l.getD k Item.zero).n ≠ -9223372036854775808 → ∀ j, j < k + 1 → (l.getD j Item.zero).n ≠ -9223372036854775808 := fun h j hj => by
          rcases (show j < k ∨ j = k by omega) with h1 | h1
          · exact hmn j h1
          · rw [h1]; exact h
        have HSTEP := Lib.hid hstep; clear hstep
        clear hmn
        generalize (l.getD k Item.zero).n = v at *
        by_cases hv : v = -9223372036854775808
        · subst hv
          go_wp2
          go_ret
          exact ⟨rfl, HFM.out⟩
        · go_wp2
          go_roundw
          case rel => exact ⟨k + 1, by omega, by go_num, HFM.out, HSTEP.out hv⟩
          case measure => simp [intOf]; omega
      · have hkn : k = n := by omega
        subst hkn
        have hmin : ∀ i ∈ l, i.n ≠ -9223372036854775808 := fun i hi => by
          obtain ⟨j, hj, rfl⟩ := List.mem_iff_getElem.1 hi
          have := hmn j (by rw [← HN.out]; exact hj)
          rwa [getD_lt hj] at this
        have HMIN := Lib.hid hmin; clear hmin
        clear hmn
        go_wp2_with fail
        have hf2 : Frm (fun _ => False) w (wr.alloc (.cells #[.slice none 0 0] 27)) := HFM.out.trans (Frm.alloc _ wr _) fun _ _ h => h
        have HF2 := Lib.hid hf2; clear hf2
        have hsz : w.heap.size ≤ wr.heap.size := HFM.out.size
        refine (put_go wr.heap.size l (.slice (some ⟨b, off, none⟩) k c) _ (.slice none 0 0) [] (out_new wr) (HL.out.keep HF2.out fun _ _ h => h) (fun hne k hk hs => by
          have := HVL.out hne k hk
          exact out_no (w := w) hsz (fun _ h => by simp [Value.ownBlock] at h) k this hs) (by rw [HB.out]; simp; omega)).mono ?_
        rintro e w4 ⟨rfl, v4, ho4, hfr4, hfm4⟩
        rw [HB.out, List.nil_append] at ho4
        have hf4 : Frm (fun _ => False) w w4 := HF2.out.trans hfm4 fun i hi hs => out_no hsz (fun _ h => by simp [Value.ownBlock] at h) i hi hs
        have HF4 := Lib.hid hf4; clear hf4
        have HO4 := Lib.hid ho4; clear ho4
        clear hfr4 hfm4
        go_wp2_with fail
        refine (end_ok wr.heap.size w4 v4 bb HO4.out (by omega)).mono ?_
        rintro e w5 ⟨v5, rfl, hc5⟩
        have hf5 : Frm (fun _ => False) w w5 := HF4.out.trans hc5.frm fun _ _ h => h
        have hbk := back_any w5 v5 bb hc5.rd (by omega) l (.slice (some ⟨b, off, none⟩) k c) (HL.out.keep hf5 fun _ _ h => h) true (fun _ => ⟨HB.out.symm, HMIN.out⟩) (fun h => by cases h)
        have HBK := Lib.hid hbk; clear hbk
        have HF5 := Lib.hid hf5; clear hf5
        clear hc5
        go_wp2_with fail
        refine HBK.out.mono ?_
        rintro e w6 ⟨rfl, hfm6⟩
        have hf6 : Frm (fun _ => False) w w6 := HF5.out.trans hfm6 fun _ _ h => h
        have HF6 := Lib.hid hf6; clear hf6
        clear hfm6
        go_wp2
        go_ret
        exact ⟨rfl, HF6.out⟩

theorem cback (w : World) (l : List Item) (vl : Value) (hl : ItemsAt w vl l) (hvl : l ≠ [] → ∀ k, vl.ownBlock = some k → k < w.heap.size) :
    Calls Try.prog 6 #[vl] w fun e w' => e = .returned (.bool true) ∧ Frm (fun _ => False) w w' := by
  by_cases h : few50 l
  · exact cback_yes w l vl hl h hvl
  · exact cback_no w l vl hl h

theorem cback_law (w : World) (vl : Value) (hl : ∃ l, ItemsAt w vl l) :
    Calls Try.prog 6 #[vl] w fun e w' => e = .returned (.bool true) ∧ Frm (fun _ => False) w w' := by
  obtain ⟨l, h⟩ := hl
  exact cback w l vl h h.lt

end Go.Proofs.Ytclihppeaikhiaa
