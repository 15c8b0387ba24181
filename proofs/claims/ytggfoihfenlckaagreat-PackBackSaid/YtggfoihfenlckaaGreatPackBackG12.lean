/- Words for the law PackBack: R9, BunR, BunS, BunSm, BunOpen, Op1, Op2. -/
import Derived.Test.YtggfoihfenlckaaGreatPackBackG2
import Derived.Test.YtggfoihfenlckaaGreatPackBackG10
import Derived.Test.YtggfoihfenlckaaGreatPackBackG11
import Derived.Laws.IdiomArrays
import Derived.Shelf.Abstract
set_option linter.unusedSimpArgs false
set_option linter.unusedVariables false
/- tributaryref09: Right, Small: the walks. -/
namespace Go.Proofs.YtggfoihfenlckaaGreat
open Go.RowKit
set_option maxRecDepth 100000 in
theorem r9Small_any (Q : Nat → Prop) (es : List Ent) (ks : KidsL) (c : CtxL) (left : Int) (w : World) (ev kv cv : Value) (h : CauAt Q w ev kv cv es ks c) (hok : TrOk es ks) (hcl : c.length ≤ 140737488351232) (h1 : left ≤ 1000) (h2 : 0 ≤ left) :
    Calls Tryz.prog 49 #[.agg #[ev, kv, cv], .int .i64 left] w fun e w' => e = .returned (.bool (decide (0 ≤ roomT es ks left 8) && decide ((c.length : Int) ≤ left))) ∧ Frm NoS w w' := by
  obtain ⟨a0, c0, a1, c1, a2, c2, rfl, rfl, rfl⟩ := h.shape
  have HC := Lib.hid (fun W (f : Frm NoS w W) => r8Small_any Q es ks left W _ _ (h.tree.keep0 f) hok h1 h2)
  clear h hok
  generalize c.length = k at *
  cases hb : decide (0 ≤ roomT es ks left 8) with
  | false =>
    rw [hb] at HC
    clear hb
    have HBX := Lib.hid (box3 w (.slice a0 es.length c0) (.slice a1 ks.len c1) (.slice a2 k c2) 37)
    go_enter Tryz.func49, Tryz.ntmps49
    go_wp2_with (go_at_call 110; refine (HC.out _ (Frm.alloc _ _ _)).mono ?_; rintro e w1 ⟨rfl, hw1⟩; obtain ⟨y0, y1, y2⟩ := HBX.out w1 hw1; have HW1 := Lib.hid ((Frm.alloc NoS _ _).then1 hw1); clear hw1)
    go_ret
    exact ⟨rfl, HW1.out⟩
  | true =>
    rw [hb] at HC
    clear hb
    have HBX := Lib.hid (box3 w (.slice a0 es.length c0) (.slice a1 ks.len c1) (.slice a2 k c2) 37)
    go_enter Tryz.func49, Tryz.ntmps49
    go_wp2_with (go_at_call 110; refine (HC.out _ (Frm.alloc _ _ _)).mono ?_; rintro e w1 ⟨rfl, hw1⟩; obtain ⟨y0, y1, y2⟩ := HBX.out w1 hw1; have HW1 := Lib.hid ((Frm.alloc NoS _ _).then1 hw1); clear hw1)
    go_ret
    exact ⟨rfl, HW1.out⟩
set_option maxHeartbeats 2000000 in
set_option maxRecDepth 1000000 in
theorem r9Right_any (Q : Nat → Prop) (es : List Ent) (ks : KidsL) (c : CtxL) (w : World) (ev kv cv : Value) (h : CauAt Q w ev kv cv es ks c) (hok : CauOk es ks c) :
    Calls Tryz.prog 22 #[.agg #[ev, kv, cv]] w fun e w' => e = .returned (.bool (tf (CauRight es ks c))) ∧ Frm NoS w w' := by
  obtain ⟨a0, c0, a1, c1, a2, c2, rfl, rfl, rfl⟩ := h.shape
  have HT := Lib.hid (fun W (f : Frm NoS w W) => r8Right_any Q es ks W _ _ (h.tree.keep0 f) hok.tree)
  have HX := Lib.hid (fun W (f : Frm NoS w W) => r7Right_any W _ c (Rd.keep0 h.ctx f) hok.fits (by have := hok.len; omega))
  have HD := Lib.hid (fun W (f : Frm NoS w W) hd => r8Dots_any Q es ks W _ _ (h.tree.keep0 f) hok.small hd)
  have HL := Lib.hid (fun W (f : Frm NoS w W) vd d (hv : CtxAt W vd d) (rd : RightC d) (ld : d.length ≤ 8000) (rc : RightC c) => r7Leq_any W vd _ d c hv (Rd.keep0 h.ctx f) rd rc (by omega) (by have := hok.len; omega))
  have HBX := Lib.hid (box3 w (.slice a0 es.length c0) (.slice a1 ks.len c1) (.slice a2 c.length c2) 37)
  clear h hok
  cases hr : rightT 5 es ks with
  | false =>
    rw [hr] at HT
    rw [tf_false fun h => by rw [h.tree] at hr; cases hr]
    clear hr HX HD HL
    generalize es.length = n at *
    generalize ks.len = m at *
    generalize c.length = k at *
    have hfa : Frm NoS w (w.alloc (.cells #[.slice a0 n c0, .slice a1 m c1, .slice a2 k c2] 37)) := Frm.alloc _ _ _
    go_enter Tryz.func22, Tryz.ntmps22
    go_wp2_with fail
    refine wp_region_G (S := fun w' => w'.cell? ⟨w.heap.size, 0, none⟩ = some (.slice a0 n c0) ∧ w'.cell? ⟨w.heap.size, 1, none⟩ = some (.slice a1 m c1) ∧ w'.cell? ⟨w.heap.size, 2, none⟩ = some (.slice a2 k c2)) 16 (by kernel_rfl) (HBX.out _ (Frm.drew _ _)) ?_
    intro hS
    have HFY := Lib.hid (hfa.drew1)
    generalize (w.alloc (.cells #[.slice a0 n c0, .slice a1 m c1, .slice a2 k c2] 37)).drew = Y at *
    clear hfa
    refine take_opG 0 3 (v := ?_) rfl rfl (by kernel_rfl) (by kernel_rfl) (by decide) (by kernel_rfl) (by kernel_rfl) (fun _ _ _ h => h) (Or.inl ⟨by rfl, ?_⟩) (by assumption) ?_
    rotate_left 1
    · (intro w hSw; (try dsimp only at hSw); go_simp; (try with_reducible rfl))
    try simp only [Act.put, List.setIfInBounds_toArray, List.set_cons_zero, List.set_cons_succ]
    refine take_opG 1 4 (v := ?_) rfl rfl (by kernel_rfl) (by kernel_rfl) (by decide) (by kernel_rfl) (by kernel_rfl) (fun _ _ _ h => h) (Or.inl ⟨by rfl, ?_⟩) (by assumption) ?_
    rotate_left 1
    · (intro w hSw; (try dsimp only at hSw); go_simp; (try with_reducible rfl))
    try simp only [Act.put, List.setIfInBounds_toArray, List.set_cons_zero, List.set_cons_succ]
    refine one_opG (i := 2) (by kernel_rfl) rfl (fun K hK => ?_)
    go_simp
    refine (HT.out _ HFY.out).mono ?_
    rintro e Y1 ⟨rfl, hf1⟩
    have hS := (⟨hf1.cell' hS.1 id, hf1.cell' hS.2.1 id, hf1.cell' hS.2.2 id⟩ : Y1.cell? ⟨w.heap.size, 0, none⟩ = some (.slice a0 n c0) ∧ Y1.cell? ⟨w.heap.size, 1, none⟩ = some (.slice a1 m c1) ∧ Y1.cell? ⟨w.heap.size, 2, none⟩ = some (.slice a2 k c2))
    refine hK.out _ _ hS ?_
    clear hK K
    have HF1 := Lib.hid hf1; clear hf1
    try simp only [Act.put, List.setIfInBounds_toArray, List.set_cons_zero, List.set_cons_succ]
    refine take_opG 3 6 (v := ?_) rfl rfl (by kernel_rfl) (by kernel_rfl) (by decide) (by kernel_rfl) (by kernel_rfl) (fun _ _ _ h => h) (Or.inl ⟨by rfl, ?_⟩) (by assumption) ?_
    rotate_left 1
    · (intro w hSw; (try dsimp only at hSw); go_simp; (try with_reducible rfl))
    try simp only [Act.put, List.setIfInBounds_toArray, List.set_cons_zero, List.set_cons_succ]
    refine take_opG 4 7 (v := _) rfl rfl (by kernel_rfl) (by kernel_rfl) (by decide) (by kernel_rfl) (by kernel_rfl) (fun _ _ _ h => h) (Or.inr ⟨by rfl, rfl⟩) (by assumption) ?_
    try simp only [Act.put, List.setIfInBounds_toArray, List.set_cons_zero, List.set_cons_succ]
    refine take_opG 5 8 (v := _) rfl rfl (by kernel_rfl) (by kernel_rfl) (by decide) (by kernel_rfl) (by kernel_rfl) (fun _ _ _ h => h) (Or.inr ⟨by rfl, rfl⟩) (by assumption) ?_
    try simp only [Act.put, List.setIfInBounds_toArray, List.set_cons_zero, List.set_cons_succ]
    refine take_opG 6 9 (v := _) rfl rfl (by kernel_rfl) (by kernel_rfl) (by decide) (by kernel_rfl) (by kernel_rfl) (fun _ _ _ h => h) (Or.inr ⟨by rfl, rfl⟩) (by assumption) ?_
    try simp only [Act.put, List.setIfInBounds_toArray, List.set_cons_zero, List.set_cons_succ]
    refine take_opG 7 10 (v := ?_) rfl rfl (by kernel_rfl) (by kernel_rfl) (by decide) (by kernel_rfl) (by kernel_rfl) (fun _ _ _ h => h) (Or.inl ⟨by rfl, ?_⟩) (by assumption) ?_
    rotate_left 1
    · (intro w hSw; (try dsimp only at hSw); go_simp; (try with_reducible rfl))
    try simp only [Act.put, List.setIfInBounds_toArray, List.set_cons_zero, List.set_cons_succ]
    refine take_opG 8 11 (v := ?_) rfl rfl (by kernel_rfl) (by kernel_rfl) (by decide) (by kernel_rfl) (by kernel_rfl) (fun _ _ _ h => h) (Or.inl ⟨by rfl, ?_⟩) (by assumption) ?_
    rotate_left 1
    · (intro w hSw; (try dsimp only at hSw); go_simp; (try with_reducible rfl))
    try simp only [Act.put, List.setIfInBounds_toArray, List.set_cons_zero, List.set_cons_succ]
    refine take_opG 9 12 (v := _) rfl rfl (by kernel_rfl) (by kernel_rfl) (by decide) (by kernel_rfl) (by kernel_rfl) (fun _ _ _ h => h) (Or.inr ⟨by rfl, rfl⟩) (by assumption) ?_
    try simp only [Act.put, List.setIfInBounds_toArray, List.set_cons_zero, List.set_cons_succ]
    refine take_opG 10 13 (v := _) rfl rfl (by kernel_rfl) (by kernel_rfl) (by decide) (by kernel_rfl) (by kernel_rfl) (fun _ _ _ h => h) (Or.inr ⟨by rfl, rfl⟩) (by assumption) ?_
    try simp only [Act.put, List.setIfInBounds_toArray, List.set_cons_zero, List.set_cons_succ]
    refine take_opG 11 14 (v := _) rfl rfl (by kernel_rfl) (by kernel_rfl) (by decide) (by kernel_rfl) (by kernel_rfl) (fun _ _ _ h => h) (Or.inr ⟨by rfl, rfl⟩) (by assumption) ?_
    try simp only [Act.put, List.setIfInBounds_toArray, List.set_cons_zero, List.set_cons_succ]
    refine take_opG 12 15 (v := _) rfl rfl (by kernel_rfl) (by kernel_rfl) (by decide) (by kernel_rfl) (by kernel_rfl) (fun _ _ _ h => h) (Or.inr ⟨by rfl, rfl⟩) (by assumption) ?_
    try simp only [Act.put, List.setIfInBounds_toArray, List.set_cons_zero, List.set_cons_succ]
    refine take_opG 13 16 (v := _) rfl rfl (by kernel_rfl) (by kernel_rfl) (by decide) (by kernel_rfl) (by kernel_rfl) (fun _ _ _ h => h) (Or.inr ⟨by rfl, rfl⟩) (by assumption) ?_
    try simp only [Act.put, List.setIfInBounds_toArray, List.set_cons_zero, List.set_cons_succ]
    refine take_opG 14 17 (v := _) rfl rfl (by kernel_rfl) (by kernel_rfl) (by decide) (by kernel_rfl) (by kernel_rfl) (fun _ _ _ h => h) (Or.inr ⟨by rfl, rfl⟩) (by assumption) ?_
    try simp only [Act.put, List.setIfInBounds_toArray, List.set_cons_zero, List.set_cons_succ]
    refine take_opG 15 18 (v := ?_) rfl rfl (by kernel_rfl) (by kernel_rfl) (by decide) (by kernel_rfl) (by kernel_rfl) (fun _ _ _ h => h) (Or.inl ⟨by rfl, ?_⟩) (by assumption) ?_
    rotate_left 1
    · (intro w hSw; (try dsimp only at hSw); go_simp; (try with_reducible rfl))
    try simp only [Act.put, List.setIfInBounds_toArray, List.set_cons_zero, List.set_cons_succ]
    refine last_opG (by kernel_rfl) (by kernel_rfl) rfl (fun K hK => ?_)
    go_simp
    refine hK.out _ _ ?_
    clear hK K hS
    go_wp2
    go_ret
    exact ⟨rfl, HFY.out.then1 HF1.out⟩
  | true =>
    rw [hr] at HT
    by_cases hc : RightC c
    · rw [tf_true hc] at HX
      have HOK := Lib.hid (rightT_dots hr)
      have hpost : ∀ d, OfC (dotsT es ks) d → tf (LeqC d c) = tf (CauRight es ks c) := fun d hd => tf_congr ⟨fun h => ⟨hr, hc, (hd.leq HOK.out).1 h⟩, fun h => (hd.leq HOK.out).2 h.dots⟩
      have HPOST := Lib.hid hpost; clear hpost
      have HRC := Lib.hid hc; clear hc hr
      generalize tf (CauRight es ks c) = y at *
      generalize es.length = n at *
      generalize ks.len = m at *
      generalize c.length = k at *
      have hfa : Frm NoS w (w.alloc (.cells #[.slice a0 n c0, .slice a1 m c1, .slice a2 k c2] 37)) := Frm.alloc _ _ _
      go_enter Tryz.func22, Tryz.ntmps22
      go_wp2_with fail
      refine wp_region_G (S := fun w' => w'.cell? ⟨w.heap.size, 0, none⟩ = some (.slice a0 n c0) ∧ w'.cell? ⟨w.heap.size, 1, none⟩ = some (.slice a1 m c1) ∧ w'.cell? ⟨w.heap.size, 2, none⟩ = some (.slice a2 k c2)) 16 (by kernel_rfl) (HBX.out _ (Frm.drew _ _)) ?_
      intro hS
      have HFY := Lib.hid (hfa.drew1)
      generalize (w.alloc (.cells #[.slice a0 n c0, .slice a1 m c1, .slice a2 k c2] 37)).drew = Y at *
      clear hfa
      refine take_opG 0 3 (v := ?_) rfl rfl (by kernel_rfl) (by kernel_rfl) (by decide) (by kernel_rfl) (by kernel_rfl) (fun _ _ _ h => h) (Or.inl ⟨by rfl, ?_⟩) (by assumption) ?_
      rotate_left 1
      · (intro w hSw; (try dsimp only at hSw); go_simp; (try with_reducible rfl))
      try simp only [Act.put, List.setIfInBounds_toArray, List.set_cons_zero, List.set_cons_succ]
      refine take_opG 1 4 (v := ?_) rfl rfl (by kernel_rfl) (by kernel_rfl) (by decide) (by kernel_rfl) (by kernel_rfl) (fun _ _ _ h => h) (Or.inl ⟨by rfl, ?_⟩) (by assumption) ?_
      rotate_left 1
      · (intro w hSw; (try dsimp only at hSw); go_simp; (try with_reducible rfl))
      try simp only [Act.put, List.setIfInBounds_toArray, List.set_cons_zero, List.set_cons_succ]
      refine one_opG (i := 2) (by kernel_rfl) rfl (fun K hK => ?_)
      go_simp
      refine (HT.out _ HFY.out).mono ?_
      rintro e Y1 ⟨rfl, hf1⟩
      have hS := (⟨hf1.cell' hS.1 id, hf1.cell' hS.2.1 id, hf1.cell' hS.2.2 id⟩ : Y1.cell? ⟨w.heap.size, 0, none⟩ = some (.slice a0 n c0) ∧ Y1.cell? ⟨w.heap.size, 1, none⟩ = some (.slice a1 m c1) ∧ Y1.cell? ⟨w.heap.size, 2, none⟩ = some (.slice a2 k c2))
      refine hK.out _ _ hS ?_
      clear hK K
      have HF1 := Lib.hid (HFY.out.then1 hf1); clear hf1
      try simp only [Act.put, List.setIfInBounds_toArray, List.set_cons_zero, List.set_cons_succ]
      refine take_opG 3 6 (v := ?_) rfl rfl (by kernel_rfl) (by kernel_rfl) (by decide) (by kernel_rfl) (by kernel_rfl) (fun _ _ _ h => h) (Or.inl ⟨by rfl, ?_⟩) (by assumption) ?_
      rotate_left 1
      · (intro w hSw; (try dsimp only at hSw); go_simp; (try with_reducible rfl))
      try simp only [Act.put, List.setIfInBounds_toArray, List.set_cons_zero, List.set_cons_succ]
      refine take_opG 4 7 (v := ?_) rfl rfl (by kernel_rfl) (by kernel_rfl) (by decide) (by kernel_rfl) (by kernel_rfl) (fun _ _ _ h => h) (Or.inl ⟨by rfl, ?_⟩) (by assumption) ?_
      rotate_left 1
      · (intro w hSw; (try dsimp only at hSw); go_simp; (try with_reducible rfl))
      try simp only [Act.put, List.setIfInBounds_toArray, List.set_cons_zero, List.set_cons_succ]
      refine take_opG 5 8 (v := ?_) rfl rfl (by kernel_rfl) (by kernel_rfl) (by decide) (by kernel_rfl) (by kernel_rfl) (fun _ _ _ h => h) (Or.inl ⟨by rfl, ?_⟩) (by assumption) ?_
      rotate_left 1
      · (intro w hSw; (try dsimp only at hSw); go_simp; (try with_reducible rfl))
      try simp only [Act.put, List.setIfInBounds_toArray, List.set_cons_zero, List.set_cons_succ]
      refine one_opG (i := 6) (by kernel_rfl) rfl (fun K hK => ?_)
      go_simp
      refine (HX.out _ HF1.out).mono ?_
      rintro e Y2 ⟨rfl, hf2⟩
      have hS := (⟨hf2.cell' hS.1 id, hf2.cell' hS.2.1 id, hf2.cell' hS.2.2 id⟩ : Y2.cell? ⟨w.heap.size, 0, none⟩ = some (.slice a0 n c0) ∧ Y2.cell? ⟨w.heap.size, 1, none⟩ = some (.slice a1 m c1) ∧ Y2.cell? ⟨w.heap.size, 2, none⟩ = some (.slice a2 k c2))
      refine hK.out _ _ hS ?_
      clear hK K
      have HF2 := Lib.hid (HF1.out.then1 hf2); clear hf2
      try simp only [Act.put, List.setIfInBounds_toArray, List.set_cons_zero, List.set_cons_succ]
      refine take_opG 7 10 (v := ?_) rfl rfl (by kernel_rfl) (by kernel_rfl) (by decide) (by kernel_rfl) (by kernel_rfl) (fun _ _ _ h => h) (Or.inl ⟨by rfl, ?_⟩) (by assumption) ?_
      rotate_left 1
      · (intro w hSw; (try dsimp only at hSw); go_simp; (try with_reducible rfl))
      try simp only [Act.put, List.setIfInBounds_toArray, List.set_cons_zero, List.set_cons_succ]
      refine take_opG 8 11 (v := ?_) rfl rfl (by kernel_rfl) (by kernel_rfl) (by decide) (by kernel_rfl) (by kernel_rfl) (fun _ _ _ h => h) (Or.inl ⟨by rfl, ?_⟩) (by assumption) ?_
      rotate_left 1
      · (intro w hSw; (try dsimp only at hSw); go_simp; (try with_reducible rfl))
      try simp only [Act.put, List.setIfInBounds_toArray, List.set_cons_zero, List.set_cons_succ]
      refine take_opG 9 12 (v := ?_) rfl rfl (by kernel_rfl) (by kernel_rfl) (by decide) (by kernel_rfl) (by kernel_rfl) (fun _ _ _ h => h) (Or.inl ⟨by rfl, ?_⟩) (by assumption) ?_
      rotate_left 1
      · (intro w hSw; (try dsimp only at hSw); go_simp; (try with_reducible rfl))
      try simp only [Act.put, List.setIfInBounds_toArray, List.set_cons_zero, List.set_cons_succ]
      refine take_opG 10 13 (v := ?_) rfl rfl (by kernel_rfl) (by kernel_rfl) (by decide) (by kernel_rfl) (by kernel_rfl) (fun _ _ _ h => h) (Or.inl ⟨by rfl, ?_⟩) (by assumption) ?_
      rotate_left 1
      · (intro w hSw; (try dsimp only at hSw); go_simp; (try with_reducible rfl))
      try simp only [Act.put, List.setIfInBounds_toArray, List.set_cons_zero, List.set_cons_succ]
      refine take_opG 12 15 (v := ?_) rfl rfl (by kernel_rfl) (by kernel_rfl) (by decide) (by kernel_rfl) (by kernel_rfl) (fun _ _ _ h => h) (Or.inl ⟨by rfl, ?_⟩) (by assumption) ?_
      rotate_left 1
      · (intro w hSw; (try dsimp only at hSw); go_simp; (try with_reducible rfl))
      try simp only [Act.put, List.setIfInBounds_toArray, List.set_cons_zero, List.set_cons_succ]
      refine take_opG 13 16 (v := ?_) rfl rfl (by kernel_rfl) (by kernel_rfl) (by decide) (by kernel_rfl) (by kernel_rfl) (fun _ _ _ h => h) (Or.inl ⟨by rfl, ?_⟩) (by assumption) ?_
      rotate_left 1
      · (intro w hSw; (try dsimp only at hSw); go_simp; (try with_reducible rfl))
      try simp only [Act.put, List.setIfInBounds_toArray, List.set_cons_zero, List.set_cons_succ]
      refine one_opG (i := 11) (by kernel_rfl) rfl (fun K hK => ?_)
      go_simp
      refine (HD.out _ HF2.out HOK.out).mono ?_
      rintro e Y3 ⟨v3, d, rfl, ho3, hof, hl3⟩
      obtain ⟨a3, c3, rfl⟩ := ho3.shape
      have hf3 := ho3.frm
      have hS := (⟨hf3.cell' hS.1 id, hf3.cell' hS.2.1 id, hf3.cell' hS.2.2 id⟩ : Y3.cell? ⟨w.heap.size, 0, none⟩ = some (.slice a0 n c0) ∧ Y3.cell? ⟨w.heap.size, 1, none⟩ = some (.slice a1 m c1) ∧ Y3.cell? ⟨w.heap.size, 2, none⟩ = some (.slice a2 k c2))
      refine hK.out _ _ hS ?_
      clear hK K
      have HF3 := Lib.hid (HF2.out.then1 hf3); clear hf3
      have HO3 := Lib.hid ho3; clear ho3
      have HOF := Lib.hid hof; clear hof
      have HL3 := Lib.hid hl3; clear hl3
      try simp only [Act.put, List.setIfInBounds_toArray, List.set_cons_zero, List.set_cons_succ]
      refine one_opG (i := 14) (by kernel_rfl) rfl (fun K hK => ?_)
      go_simp
      refine (HL.out _ HF3.out _ d HO3.out.rd HOF.out.right HL3.out HRC.out).mono ?_
      rintro e Y4 ⟨rfl, hf4⟩
      rw [HPOST.out d HOF.out]
      have hS := (⟨hf4.cell' hS.1 id, hf4.cell' hS.2.1 id, hf4.cell' hS.2.2 id⟩ : Y4.cell? ⟨w.heap.size, 0, none⟩ = some (.slice a0 n c0) ∧ Y4.cell? ⟨w.heap.size, 1, none⟩ = some (.slice a1 m c1) ∧ Y4.cell? ⟨w.heap.size, 2, none⟩ = some (.slice a2 k c2))
      refine hK.out _ _ hS ?_
      clear hK K
      have HF4 := Lib.hid (HF3.out.then1 hf4); clear hf4
      try simp only [Act.put, List.setIfInBounds_toArray, List.set_cons_zero, List.set_cons_succ]
      refine take_opG 15 18 (v := ?_) rfl rfl (by kernel_rfl) (by kernel_rfl) (by decide) (by kernel_rfl) (by kernel_rfl) (fun _ _ _ h => h) (Or.inl ⟨by rfl, ?_⟩) (by assumption) ?_
      rotate_left 1
      · (intro w hSw; (try dsimp only at hSw); go_simp; (try with_reducible rfl))
      try simp only [Act.put, List.setIfInBounds_toArray, List.set_cons_zero, List.set_cons_succ]
      refine last_opG (by kernel_rfl) (by kernel_rfl) rfl (fun K hK => ?_)
      go_simp
      refine hK.out _ _ ?_
      clear hK K hS
      go_wp2
      go_ret
      exact ⟨rfl, HF4.out⟩
    · rw [tf_false hc] at HX
      rw [tf_false fun h => hc h.ctx]
      clear hc hr HD HL
      generalize es.length = n at *
      generalize ks.len = m at *
      generalize c.length = k at *
      have hfa : Frm NoS w (w.alloc (.cells #[.slice a0 n c0, .slice a1 m c1, .slice a2 k c2] 37)) := Frm.alloc _ _ _
      go_enter Tryz.func22, Tryz.ntmps22
      go_wp2_with fail
      refine wp_region_G (S := fun w' => w'.cell? ⟨w.heap.size, 0, none⟩ = some (.slice a0 n c0) ∧ w'.cell? ⟨w.heap.size, 1, none⟩ = some (.slice a1 m c1) ∧ w'.cell? ⟨w.heap.size, 2, none⟩ = some (.slice a2 k c2)) 16 (by kernel_rfl) (HBX.out _ (Frm.drew _ _)) ?_
      intro hS
      have HFY := Lib.hid (hfa.drew1)
      generalize (w.alloc (.cells #[.slice a0 n c0, .slice a1 m c1, .slice a2 k c2] 37)).drew = Y at *
      clear hfa
      refine take_opG 0 3 (v := ?_) rfl rfl (by kernel_rfl) (by kernel_rfl) (by decide) (by kernel_rfl) (by kernel_rfl) (fun _ _ _ h => h) (Or.inl ⟨by rfl, ?_⟩) (by assumption) ?_
      rotate_left 1
      · (intro w hSw; (try dsimp only at hSw); go_simp; (try with_reducible rfl))
      try simp only [Act.put, List.setIfInBounds_toArray, List.set_cons_zero, List.set_cons_succ]
      refine take_opG 1 4 (v := ?_) rfl rfl (by kernel_rfl) (by kernel_rfl) (by decide) (by kernel_rfl) (by kernel_rfl) (fun _ _ _ h => h) (Or.inl ⟨by rfl, ?_⟩) (by assumption) ?_
      rotate_left 1
      · (intro w hSw; (try dsimp only at hSw); go_simp; (try with_reducible rfl))
      try simp only [Act.put, List.setIfInBounds_toArray, List.set_cons_zero, List.set_cons_succ]
      refine one_opG (i := 2) (by kernel_rfl) rfl (fun K hK => ?_)
      go_simp
      refine (HT.out _ HFY.out).mono ?_
      rintro e Y1 ⟨rfl, hf1⟩
      have hS := (⟨hf1.cell' hS.1 id, hf1.cell' hS.2.1 id, hf1.cell' hS.2.2 id⟩ : Y1.cell? ⟨w.heap.size, 0, none⟩ = some (.slice a0 n c0) ∧ Y1.cell? ⟨w.heap.size, 1, none⟩ = some (.slice a1 m c1) ∧ Y1.cell? ⟨w.heap.size, 2, none⟩ = some (.slice a2 k c2))
      refine hK.out _ _ hS ?_
      clear hK K
      have HF1 := Lib.hid (HFY.out.then1 hf1); clear hf1
      try simp only [Act.put, List.setIfInBounds_toArray, List.set_cons_zero, List.set_cons_succ]
      refine take_opG 3 6 (v := ?_) rfl rfl (by kernel_rfl) (by kernel_rfl) (by decide) (by kernel_rfl) (by kernel_rfl) (fun _ _ _ h => h) (Or.inl ⟨by rfl, ?_⟩) (by assumption) ?_
      rotate_left 1
      · (intro w hSw; (try dsimp only at hSw); go_simp; (try with_reducible rfl))
      try simp only [Act.put, List.setIfInBounds_toArray, List.set_cons_zero, List.set_cons_succ]
      refine take_opG 4 7 (v := ?_) rfl rfl (by kernel_rfl) (by kernel_rfl) (by decide) (by kernel_rfl) (by kernel_rfl) (fun _ _ _ h => h) (Or.inl ⟨by rfl, ?_⟩) (by assumption) ?_
      rotate_left 1
      · (intro w hSw; (try dsimp only at hSw); go_simp; (try with_reducible rfl))
      try simp only [Act.put, List.setIfInBounds_toArray, List.set_cons_zero, List.set_cons_succ]
      refine take_opG 5 8 (v := ?_) rfl rfl (by kernel_rfl) (by kernel_rfl) (by decide) (by kernel_rfl) (by kernel_rfl) (fun _ _ _ h => h) (Or.inl ⟨by rfl, ?_⟩) (by assumption) ?_
      rotate_left 1
      · (intro w hSw; (try dsimp only at hSw); go_simp; (try with_reducible rfl))
      try simp only [Act.put, List.setIfInBounds_toArray, List.set_cons_zero, List.set_cons_succ]
      refine one_opG (i := 6) (by kernel_rfl) rfl (fun K hK => ?_)
      go_simp
      refine (HX.out _ HF1.out).mono ?_
      rintro e Y2 ⟨rfl, hf2⟩
      have hS := (⟨hf2.cell' hS.1 id, hf2.cell' hS.2.1 id, hf2.cell' hS.2.2 id⟩ : Y2.cell? ⟨w.heap.size, 0, none⟩ = some (.slice a0 n c0) ∧ Y2.cell? ⟨w.heap.size, 1, none⟩ = some (.slice a1 m c1) ∧ Y2.cell? ⟨w.heap.size, 2, none⟩ = some (.slice a2 k c2))
      refine hK.out _ _ hS ?_
      clear hK K
      have HF2 := Lib.hid (HF1.out.then1 hf2); clear hf2
      try simp only [Act.put, List.setIfInBounds_toArray, List.set_cons_zero, List.set_cons_succ]
      refine take_opG 7 10 (v := ?_) rfl rfl (by kernel_rfl) (by kernel_rfl) (by decide) (by kernel_rfl) (by kernel_rfl) (fun _ _ _ h => h) (Or.inl ⟨by rfl, ?_⟩) (by assumption) ?_
      rotate_left 1
      · (intro w hSw; (try dsimp only at hSw); go_simp; (try with_reducible rfl))
      try simp only [Act.put, List.setIfInBounds_toArray, List.set_cons_zero, List.set_cons_succ]
      refine take_opG 8 11 (v := ?_) rfl rfl (by kernel_rfl) (by kernel_rfl) (by decide) (by kernel_rfl) (by kernel_rfl) (fun _ _ _ h => h) (Or.inl ⟨by rfl, ?_⟩) (by assumption) ?_
      rotate_left 1
      · (intro w hSw; (try dsimp only at hSw); go_simp; (try with_reducible rfl))
      try simp only [Act.put, List.setIfInBounds_toArray, List.set_cons_zero, List.set_cons_succ]
      refine take_opG 9 12 (v := _) rfl rfl (by kernel_rfl) (by kernel_rfl) (by decide) (by kernel_rfl) (by kernel_rfl) (fun _ _ _ h => h) (Or.inr ⟨by rfl, rfl⟩) (by assumption) ?_
      try simp only [Act.put, List.setIfInBounds_toArray, List.set_cons_zero, List.set_cons_succ]
      refine take_opG 10 13 (v := _) rfl rfl (by kernel_rfl) (by kernel_rfl) (by decide) (by kernel_rfl) (by kernel_rfl) (fun _ _ _ h => h) (Or.inr ⟨by rfl, rfl⟩) (by assumption) ?_
      try simp only [Act.put, List.setIfInBounds_toArray, List.set_cons_zero, List.set_cons_succ]
      refine take_opG 11 14 (v := _) rfl rfl (by kernel_rfl) (by kernel_rfl) (by decide) (by kernel_rfl) (by kernel_rfl) (fun _ _ _ h => h) (Or.inr ⟨by rfl, rfl⟩) (by assumption) ?_
      try simp only [Act.put, List.setIfInBounds_toArray, List.set_cons_zero, List.set_cons_succ]
      refine take_opG 12 15 (v := _) rfl rfl (by kernel_rfl) (by kernel_rfl) (by decide) (by kernel_rfl) (by kernel_rfl) (fun _ _ _ h => h) (Or.inr ⟨by rfl, rfl⟩) (by assumption) ?_
      try simp only [Act.put, List.setIfInBounds_toArray, List.set_cons_zero, List.set_cons_succ]
      refine take_opG 13 16 (v := _) rfl rfl (by kernel_rfl) (by kernel_rfl) (by decide) (by kernel_rfl) (by kernel_rfl) (fun _ _ _ h => h) (Or.inr ⟨by rfl, rfl⟩) (by assumption) ?_
      try simp only [Act.put, List.setIfInBounds_toArray, List.set_cons_zero, List.set_cons_succ]
      refine take_opG 14 17 (v := _) rfl rfl (by kernel_rfl) (by kernel_rfl) (by decide) (by kernel_rfl) (by kernel_rfl) (fun _ _ _ h => h) (Or.inr ⟨by rfl, rfl⟩) (by assumption) ?_
      try simp only [Act.put, List.setIfInBounds_toArray, List.set_cons_zero, List.set_cons_succ]
      refine take_opG 15 18 (v := ?_) rfl rfl (by kernel_rfl) (by kernel_rfl) (by decide) (by kernel_rfl) (by kernel_rfl) (fun _ _ _ h => h) (Or.inl ⟨by rfl, ?_⟩) (by assumption) ?_
      rotate_left 1
      · (intro w hSw; (try dsimp only at hSw); go_simp; (try with_reducible rfl))
      try simp only [Act.put, List.setIfInBounds_toArray, List.set_cons_zero, List.set_cons_succ]
      refine last_opG (by kernel_rfl) (by kernel_rfl) rfl (fun K hK => ?_)
      go_simp
      refine hK.out _ _ ?_
      clear hK K hS
      go_wp2
      go_ret
      exact ⟨rfl, HF2.out⟩
end Go.Proofs.YtggfoihfenlckaaGreat
/- tributaryref22: numbers, own: the walks. Printed by wip/bungen.py. -/
namespace Go.Proofs.YtggfoihfenlckaaGreat
open Go.RowKit
end Go.Proofs.YtggfoihfenlckaaGreat
/- tributaryref22: Right: the walk. Printed by wip/bungen.py. -/
namespace Go.Proofs.YtggfoihfenlckaaGreat
open Go.RowKit
end Go.Proofs.YtggfoihfenlckaaGreat
/- tributaryref22: Small: the walk; what came in. -/
namespace Go.Proofs.YtggfoihfenlckaaGreat
open Go.RowKit
end Go.Proofs.YtggfoihfenlckaaGreat
/- What came in: a bundle, a vector. -/
namespace Go.Proofs.YtggfoihfenlckaaGreat
open Go.RowKit Go.WideShapes Go.ChangeShapes
section
variable {H : Type} {enc : TypeId × Value → H} {w : World}
set_option maxRecDepth 100000 in
theorem open_vec_cells {fuel : Nat} {c0 c1 c2 c3 : Value} {x : DataW H × List MemPlace} (h : DataW.trod enc Tryz.prog w 0 (fun _ => true) true fuel 42 [c0, c1, c2, c3] = some x) :
    ∃ v0 v1 v2 v3 : Int, c0 = .int .i64 v0 ∧ c1 = .int .i64 v1 ∧ c2 = .int .i64 v2 ∧ c3 = .int .i64 v3 ∧ ∀ v ∈ [v0, v1, v2, v3], -9223372036854775808 ≤ v ∧ v ≤ 9223372036854775807 := by
  obtain ⟨z0, z1, z2, z3, m, _, k0, k1, k2, k3⟩ := trod_array4 Tryz.underlying42 Tryz.cells_I64 h
  obtain ⟨v0, e0, _, w0⟩ := DataW.trod_int Tryz.underlying2 k0
  obtain ⟨v1, e1, _, w1⟩ := DataW.trod_int Tryz.underlying2 k1
  obtain ⟨v2, e2, _, w2⟩ := DataW.trod_int Tryz.underlying2 k2
  obtain ⟨v3, e3, _, w3⟩ := DataW.trod_int Tryz.underlying2 k3
  simp at e0 e1 e2 e3
  refine ⟨v0, v1, v2, v3, e0, e1, e2, e3, fun v hv => ?_⟩
  simp only [List.mem_cons, List.not_mem_nil, or_false] at hv
  rcases hv with rfl | rfl | rfl | rfl
  · exact wfInt w0
  · exact wfInt w1
  · exact wfInt w2
  · exact wfInt w3
end
end Go.Proofs.YtggfoihfenlckaaGreat
/- op: Kind, of; tributaryref15: Kind, act: the walks. Printed by wip/opgen.py. -/
namespace Go.Proofs.YtggfoihfenlckaaGreat
open Go.RowKit
/-- A key's kind by its first byte. -/
def kindB (x : Int) : Int := if x = 102 then 1 else if x = 115 then 2 else if x = 99 then 3 else if x = 114 then 4 else if x = 109 then 5 else 0
def kindOf (s : ByteArray) : Int := if h : 0 < s.size then kindB (s[0].toNat : Int) else 0
theorem kindOf_pos {s : ByteArray} (h : 0 < s.size) : kindOf s = kindB (s[0].toNat : Int) := dif_pos h
theorem str_nil {s : ByteArray} (h : ¬ 0 < s.size) : s = ByteArray.empty := ByteArray.ext (Array.eq_empty_of_size_eq_zero (by have : s.data.size = s.size := rfl; omega))
theorem str_full {s : ByteArray} (h : 0 < s.size) : s.toList.isEmpty = false := by
  rw [ByteArray.toList_eq]
  cases hl : s.data.toList with
  | nil =>
    have : s.data.toList.length = s.size := Array.length_toList
    rw [hl] at this
    simp at this
    omega
  | cons _ _ => rfl
def ofA (a : Int) : Int := if a = 1 ∨ a = 2 then 1 else if a = 3 ∨ a = 4 then 2 else if a = 5 then 3 else if a = 6 then 4 else if a = 7 then 0 else -1
set_option maxHeartbeats 2000000 in
set_option maxRecDepth 1000000 in
theorem opKind_any (s : ByteArray) (w : World) : Calls Tryz.prog 172 #[.string s] w fun e w' => e = .returned (.int .i64 (kindOf s)) ∧ Frm NoS w w' := by
  by_cases hp : 0 < s.size
  · have hem := str_full hp
    rw [kindOf_pos hp]
    go_enter Tryz.func172, Tryz.ntmps172
    go_wp2
    all_goals
      go_ret
      exact ⟨by unfold kindB; simp_all, Frm.refl _ _⟩
  · obtain rfl := str_nil hp
    go_enter Tryz.func172, Tryz.ntmps172
    go_wp2
    go_ret
    exact ⟨rfl, Frm.refl _ _⟩
set_option maxRecDepth 1000000 in
theorem opOf_any (a : Int) (w : World) : Calls Tryz.prog 171 #[.int .i64 a] w fun e w' => e = .returned (.int .i64 (ofA a)) ∧ Frm NoS w w' := by
  go_enter Tryz.func171, Tryz.ntmps171
  go_wp2
  all_goals
    go_ret
    exact ⟨by unfold ofA; simp_all, Frm.refl _ _⟩
def actB (a k : Int) : Bool := if a = 1 ∨ a = 2 then k == 1 else if a = 3 ∨ a = 4 then k == 2 else if a = 5 then k == 3 else if a = 6 then k == 4 else a == 7
set_option maxRecDepth 1000000 in
theorem r15act_any (a k : Int) (w : World) : Calls Tryz.prog 73 #[.int .i64 a, .int .i64 k] w fun e w' => e = .returned (.bool (actB a k)) ∧ Frm NoS w w' := by
  go_enter Tryz.func73, Tryz.ntmps73
  go_wp2
  all_goals
    go_ret
    exact ⟨by unfold actB; simp_all, Frm.refl _ _⟩
set_option maxHeartbeats 4000000 in
set_option maxRecDepth 1000000 in
theorem r15Kind_any (s : ByteArray) (w : World) : Calls Tryz.prog 74 #[.string s] w fun e w' => e = .returned (.int .i64 (kindOf s)) ∧ Frm NoS w w' := by
  by_cases hp : 0 < s.size
  · rw [kindOf_pos hp]
    obtain ⟨x, hx⟩ : ∃ x : Int, (s[0].toNat : Int) = x := ⟨_, rfl⟩
    rw [hx]
    have HX := Lib.hid hx; clear hx
    go_enter Tryz.func74, Tryz.ntmps74
    go_wp2
    go_loopw [7] (fun i W => ∃ k : Nat, k ≤ 5 ∧ i = .int .i64 k ∧ (0 < k → x ≠ 102) ∧ (1 < k → x ≠ 115) ∧ (2 < k → x ≠ 99) ∧ (3 < k → x ≠ 114) ∧ (4 < k → x ≠ 109) ∧ Frm NoS w W) (fun i _ => 5 - (intOf i).toNat)
    case atStart => exact ⟨0, by omega, rfl, by omega, by omega, by omega, by omega, by omega, Frm.refl _ _⟩
    case round =>
      obtain ⟨k, hk, rfl, h0, h1, h2, h3, h4, hw⟩ := hrel
      have HW := Lib.hid hw; clear hw
      rcases (by omega : k = 0 ∨ k = 1 ∨ k = 2 ∨ k = 3 ∨ k = 4 ∨ k = 5) with rfl | rfl | rfl | rfl | rfl | rfl
      · go_wp2_with fail
        go_big_quiet (fail)
        go_wp2
        · rename_i hbeq
          have hx : x = 102 := by rw [← HX.out]; exact eq_of_beq hbeq
          go_ret
          exact ⟨by rw [hx]; rfl, HW.out.drewN1⟩
        · rename_i hbeq
          have hx : x ≠ 102 := fun e => by rw [← HX.out] at e; exact absurd e (ne_of_beq_false hbeq)
          clear hbeq
          go_roundw
          case rel => exact ⟨1, by omega, by go_num, fun _ => hx, fun h => by omega, fun h => by omega, fun h => by omega, fun h => by omega, HW.out.drewN1⟩
          case measure => simp [intOf]
      · go_wp2_with fail
        go_big_quiet (fail)
        go_wp2
        · rename_i hbeq
          have hx : x = 115 := by rw [← HX.out]; exact eq_of_beq hbeq
          go_ret
          exact ⟨by rw [hx]; rfl, HW.out.drewN1⟩
        · rename_i hbeq
          have hx : x ≠ 115 := fun e => by rw [← HX.out] at e; exact absurd e (ne_of_beq_false hbeq)
          clear hbeq
          go_roundw
          case rel => exact ⟨2, by omega, by go_num, fun h => h0 (by omega), fun _ => hx, fun h => by omega, fun h => by omega, fun h => by omega, HW.out.drewN1⟩
          case measure => simp [intOf]
      · go_wp2_with fail
        go_big_quiet (fail)
        go_wp2
        · rename_i hbeq
          have hx : x = 99 := by rw [← HX.out]; exact eq_of_beq hbeq
          go_ret
          exact ⟨by rw [hx]; rfl, HW.out.drewN1⟩
        · rename_i hbeq
          have hx : x ≠ 99 := fun e => by rw [← HX.out] at e; exact absurd e (ne_of_beq_false hbeq)
          clear hbeq
          go_roundw
          case rel => exact ⟨3, by omega, by go_num, fun h => h0 (by omega), fun h => h1 (by omega), fun _ => hx, fun h => by omega, fun h => by omega, HW.out.drewN1⟩
          case measure => simp [intOf]
      · go_wp2_with fail
        go_big_quiet (fail)
        go_wp2
        · rename_i hbeq
          have hx : x = 114 := by rw [← HX.out]; exact eq_of_beq hbeq
          go_ret
          exact ⟨by rw [hx]; rfl, HW.out.drewN1⟩
        · rename_i hbeq
          have hx : x ≠ 114 := fun e => by rw [← HX.out] at e; exact absurd e (ne_of_beq_false hbeq)
          clear hbeq
          go_roundw
          case rel => exact ⟨4, by omega, by go_num, fun h => h0 (by omega), fun h => h1 (by omega), fun h => h2 (by omega), fun _ => hx, fun h => by omega, HW.out.drewN1⟩
          case measure => simp [intOf]
      · go_wp2_with fail
        go_big_quiet (fail)
        go_wp2
        · rename_i hbeq
          have hx : x = 109 := by rw [← HX.out]; exact eq_of_beq hbeq
          go_ret
          exact ⟨by rw [hx]; rfl, HW.out.drewN1⟩
        · rename_i hbeq
          have hx : x ≠ 109 := fun e => by rw [← HX.out] at e; exact absurd e (ne_of_beq_false hbeq)
          clear hbeq
          go_roundw
          case rel => exact ⟨5, by omega, by go_num, fun h => h0 (by omega), fun h => h1 (by omega), fun h => h2 (by omega), fun h => h3 (by omega), fun _ => hx, HW.out.drewN1⟩
          case measure => simp [intOf]
      · go_wp2
        go_ret
        exact ⟨by unfold kindB; simp [h0, h1, h2, h3, h4], HW.out⟩
  · obtain rfl := str_nil hp
    clear hp
    go_enter Tryz.func74, Tryz.ntmps74
    go_wp2
    go_loopw [7] (fun i W => ∃ k : Nat, k ≤ 5 ∧ i = .int .i64 k ∧ Frm NoS w W) (fun i _ => 5 - (intOf i).toNat)
    case atStart => exact ⟨0, by omega, rfl, Frm.refl _ _⟩
    case round =>
      obtain ⟨k, hk, rfl, hw⟩ := hrel
      have HW := Lib.hid hw; clear hw
      by_cases hlt : k < 5
      · go_wp2_with fail
        go_big_quiet (fail)
        go_wp2
        go_roundw
        case rel => exact ⟨k + 1, by omega, by go_num, HW.out.drewN1⟩
        case measure => simp [intOf]; omega
      · obtain rfl : k = 5 := by omega
        go_wp2
        go_ret
        exact ⟨rfl, HW.out⟩
end Go.Proofs.YtggfoihfenlckaaGreat
/- Paths: slices.ContainsFunc over strings, op.checkPath; tributaryref15.Path: the walks. Printed by wip/opgen2.py. -/
namespace Go.Proofs.YtggfoihfenlckaaGreat
open Go.RowKit
/-- Strings that lie one behind the other. -/
def StrsAt (w : World) (v : Value) (ss : List ByteArray) : Prop := Rd w v ss.length (ss.map Value.string)
theorem StrsAt.keep0 {w w' : World} {v : Value} {ss : List ByteArray} (h : StrsAt w v ss) (f : Frm NoS w w') : StrsAt w' v ss := Rd.keep0 h f
theorem StrsAt.sl {w : World} {v : Value} {ss : List ByteArray} (h : StrsAt w v ss) : ∃ a c, v = .slice a ss.length c := Rd.sl h
theorem str_at {w : World} {b off c n : Nat} {ss : List ByteArray} (h : Rd w (.slice (some ⟨b, off, none⟩) n c) n (ss.map Value.string)) (k : Nat) (hk : k < ss.length) : w.cell? ⟨b, off + k, none⟩ = some (.string (ss.getD k ByteArray.empty)) := by
  rcases h with ⟨ad, h1, h2, h3⟩ | ⟨b', off', c', h1, h2, h3, h4⟩
  · have : ss = [] := by simpa using h3
    subst this
    cases hk
  · injection h1 with e1 e2 e3
    injection e1 with e1
    injection e1 with e1 e4
    subst e1 e4
    refine h4 k _ ?_
    simp [List.getD_eq_getElem?_getD, hk]
theorem Rd.cap {w : World} {b off c n : Nat} {xs : List Value} (h : Rd w (.slice (some ⟨b, off, none⟩) n c) n xs) : n ≤ c := by
  rcases h with ⟨ad, h1, h2, h3⟩ | ⟨b', off', c', h1, h2, h3, h4⟩
  · injection h1 with e1 e2 e3
    omega
  · injection h1 with e1 e2 e3
    omega
def p1 (s : ByteArray) : Bool := decide (30 < s.size) || (kindOf s == 0)
def p2 (s : ByteArray) : Bool := !(kindOf s == 5)
theorem any_take {p : ByteArray → Bool} {ss : List ByteArray} {k : Nat} (hk : k < ss.length) : (ss.take (k + 1)).any p = ((ss.take k).any p || p (ss.getD k ByteArray.empty)) := by
  rw [take_succ ByteArray.empty hk, List.any_append]
  simp
theorem any_here {p : ByteArray → Bool} {ss : List ByteArray} {k : Nat} (hk : k < ss.length) (h : p (ss.getD k ByteArray.empty) = true) : ss.any p = true :=
  List.any_eq_true.2 ⟨_, getD_mem ByteArray.empty hk, h⟩
set_option maxRecDepth 1000000 in
theorem opPath1_any (s : ByteArray) (w : World) : Calls Tryz.prog 193 #[.string s] w fun e w' => e = .returned (.bool (p1 s)) ∧ Frm NoS w w' := by
  have HK := Lib.hid (opKind_any s w)
  unfold p1
  by_cases hs : 30 < s.size
  · have h2 : ¬ (s.size : Int) ≤ 30 := by omega
    rw [show decide (30 < s.size) = true from decide_eq_true hs]
    go_enter Tryz.func193, Tryz.ntmps193
    go_wp2
    go_ret
    exact ⟨rfl, Frm.refl _ _⟩
  · have h2 : (s.size : Int) ≤ 30 := by omega
    rw [show decide (30 < s.size) = false from decide_eq_false hs]
    generalize kindOf s = k at *
    go_enter Tryz.func193, Tryz.ntmps193
    go_wp2_with (go_at_call 172; go_loud (refine HK.out.mono ?_); rintro e w1 ⟨rfl, hw1⟩; have HW1 := Lib.hid hw1; clear hw1)
    go_ret
    exact ⟨by simp; intro h; omega, HW1.out⟩
set_option maxRecDepth 1000000 in
theorem opPath2_any (s : ByteArray) (w : World) : Calls Tryz.prog 194 #[.string s] w fun e w' => e = .returned (.bool (p2 s)) ∧ Frm NoS w w' := by
  have HK := Lib.hid (opKind_any s w)
  unfold p2
  generalize kindOf s = k at *
  go_enter Tryz.func194, Tryz.ntmps194
  go_wp2_with (go_at_call 172; go_loud (refine HK.out.mono ?_); rintro e w1 ⟨rfl, hw1⟩; have HW1 := Lib.hid hw1; clear hw1)
  go_ret
  exact ⟨by first | rfl | simp [bne], HW1.out⟩
structure IdxPost (b : Bool) (w : World) (e : Ending) (w' : World) : Prop where
  frm : Frm NoS w w'
  yes : b = true → ∃ k : Nat, e = .returned (.int .i64 k)
  no : b = false → e = .returned (.int .i64 (-1))
set_option maxHeartbeats 2000000 in
set_option maxRecDepth 1000000 in
theorem strIdx1_any (ss : List ByteArray) (w : World) (v : Value) (h : StrsAt w v ss) (hl : ss.length ≤ 100000) :
    Calls Tryz.prog 205 #[v, .func (.func 193) #[] #[]] w (IdxPost (ss.any p1) w) := by
  have eg : ∀ args w, (callFunc 193 args).run Tryz.prog w = .ok (.enter 193 args) w := enters_of Tryz.func193 (by kernel_rfl) rfl
  have HP := Lib.hid opPath1_any
  rcases Rd.shape h with ⟨ad, rfl, h0⟩ | ⟨b, off, c, rfl, hmax⟩
  · have HANY := Lib.hid (show ss.any p1 = false by rw [List.eq_nil_of_length_eq_zero h0]; rfl)
    clear h h0
    go_enter Tryz.func205, Tryz.ntmps205
    go_wp2
    go_loop [8] (fun i => i = .int .i64 0) (fun _ => 0)
    case atStart => rfl
    case round =>
      obtain rfl := hrel
      go_wp2
      go_ret
      exact ⟨Frm.refl _ _, fun h => (by rw [HANY.out] at h; cases h), fun _ => rfl⟩
  · have HH := Lib.hid h; clear h
    generalize hn : ss.length = n at *
    have HN := Lib.hid hn; clear hn
    go_enter Tryz.func205, Tryz.ntmps205
    go_wp2
    go_loopw [8] (fun i W => ∃ k : Nat, k ≤ n ∧ i = .int .i64 k ∧ (ss.take k).any p1 = false ∧ Frm NoS w W) (fun i _ => n - (intOf i).toNat)
    case atStart => exact ⟨0, Nat.zero_le _, rfl, by simp, Frm.refl _ _⟩
    case round =>
      obtain ⟨k, hk, rfl, ha, hw⟩ := hrel
      have HAN := Lib.hid ha; clear ha
      have HW := Lib.hid hw; clear hw
      by_cases hlt : k < n
      · have hlk : k < ss.length := by rw [HN.out]; exact hlt
        have hrd : Rd w (.slice (some ⟨b, off, none⟩) n c) n (ss.map Value.string) := by have h := HH.out; unfold StrsAt at h; rw [HN.out] at h; exact h
        have q0 := HW.out.cell' (str_at hrd k hlk) id
        clear hrd
        have HT := Lib.hid (any_take (p := p1) hlk)
        have HE := Lib.hid (any_here (p := p1) hlk)
        generalize ss.getD k ByteArray.empty = s at *
        cases hp : p1 s with
        | true =>
          have HC := Lib.hid (fun W => hp ▸ HP.out s W)
          have HEX := Lib.hid (HE.out hp)
          clear hp HE HT
          go_wp2_with (go_at_call 193; go_loud (refine (HC.out _).mono ?_); rintro e w1 ⟨rfl, hw1⟩; have HW1 := Lib.hid (HW.out.then1 hw1); clear hw1)
          go_ret
          exact ⟨HW1.out, fun _ => ⟨k, rfl⟩, fun h => (by rw [HEX.out] at h; cases h)⟩
        | false =>
          have HC := Lib.hid (fun W => hp ▸ HP.out s W)
          have HTX := Lib.hid (show (ss.take (k + 1)).any p1 = false by rw [HT.out, HAN.out, hp]; rfl)
          clear hp HE HT
          go_wp2_with (go_at_call 193; go_loud (refine (HC.out _).mono ?_); rintro e w1 ⟨rfl, hw1⟩; have HW1 := Lib.hid (HW.out.then1 hw1); clear hw1)
          go_roundw
          case rel => exact ⟨k + 1, by omega, by go_num, HTX.out, HW1.out⟩
          case measure => simp [intOf]; omega
      · obtain rfl : n = k := by omega
        have hall : ss.any p1 = false := by
          have := HAN.out
          rwa [List.take_of_length_le (by rw [HN.out]; exact Nat.le_refl _)] at this
        have HALL := Lib.hid hall; clear hall
        go_wp2
        go_ret
        exact ⟨HW.out, fun h => (by rw [HALL.out] at h; cases h), fun _ => rfl⟩
set_option maxRecDepth 1000000 in
theorem strHas1_any (ss : List ByteArray) (w : World) (v : Value) (h : StrsAt w v ss) (hl : ss.length ≤ 100000) :
    Calls Tryz.prog 192 #[v, .func (.func 193) #[] #[]] w fun e w' => e = .returned (.bool (ss.any p1)) ∧ Frm NoS w w' := by
  have HI := Lib.hid (strIdx1_any ss w v h hl)
  obtain ⟨a, c, rfl⟩ := h.sl
  clear h
  generalize ss.length = n at *
  cases ha : ss.any p1 with
  | true =>
    have HA := Lib.hid ha; clear ha
    go_enter Tryz.func192, Tryz.ntmps192
    go_wp2_with (go_at_call 205; go_loud (refine HI.out.mono ?_); rintro e w1 ⟨hw1, hy, -⟩; obtain ⟨k, he⟩ := hy HA.out; subst he; have HW1 := Lib.hid hw1; clear hw1 hy)
    go_ret
    exact ⟨by first | rfl | (simp; omega), HW1.out⟩
  | false =>
    have HA := Lib.hid ha; clear ha
    go_enter Tryz.func192, Tryz.ntmps192
    go_wp2_with (go_at_call 205; go_loud (refine HI.out.mono ?_); rintro e w1 ⟨hw1, -, hy⟩; have he := hy HA.out; subst he; have HW1 := Lib.hid hw1; clear hw1 hy)
    go_ret
    exact ⟨by first | rfl | (simp; omega), HW1.out⟩
set_option maxHeartbeats 2000000 in
set_option maxRecDepth 1000000 in
theorem strIdx2_any (ss : List ByteArray) (w : World) (v : Value) (h : StrsAt w v ss) (hl : ss.length ≤ 100000) :
    Calls Tryz.prog 205 #[v, .func (.func 194) #[] #[]] w (IdxPost (ss.any p2) w) := by
  have eg : ∀ args w, (callFunc 194 args).run Tryz.prog w = .ok (.enter 194 args) w := enters_of Tryz.func194 (by kernel_rfl) rfl
  have HP := Lib.hid opPath2_any
  rcases Rd.shape h with ⟨ad, rfl, h0⟩ | ⟨b, off, c, rfl, hmax⟩
  · have HANY := Lib.hid (show ss.any p2 = false by rw [List.eq_nil_of_length_eq_zero h0]; rfl)
    clear h h0
    go_enter Tryz.func205, Tryz.ntmps205
    go_wp2
    go_loop [8] (fun i => i = .int .i64 0) (fun _ => 0)
    case atStart => rfl
    case round =>
      obtain rfl := hrel
      go_wp2
      go_ret
      exact ⟨Frm.refl _ _, fun h => (by rw [HANY.out] at h; cases h), fun _ => rfl⟩
  · have HH := Lib.hid h; clear h
    generalize hn : ss.length = n at *
    have HN := Lib.hid hn; clear hn
    go_enter Tryz.func205, Tryz.ntmps205
    go_wp2
    go_loopw [8] (fun i W => ∃ k : Nat, k ≤ n ∧ i = .int .i64 k ∧ (ss.take k).any p2 = false ∧ Frm NoS w W) (fun i _ => n - (intOf i).toNat)
    case atStart => exact ⟨0, Nat.zero_le _, rfl, by simp, Frm.refl _ _⟩
    case round =>
      obtain ⟨k, hk, rfl, ha, hw⟩ := hrel
      have HAN := Lib.hid ha; clear ha
      have HW := Lib.hid hw; clear hw
      by_cases hlt : k < n
      · have hlk : k < ss.length := by rw [HN.out]; exact hlt
        have hrd : Rd w (.slice (some ⟨b, off, none⟩) n c) n (ss.map Value.string) := by have h := HH.out; unfold StrsAt at h; rw [HN.out] at h; exact h
        have q0 := HW.out.cell' (str_at hrd k hlk) id
        clear hrd
        have HT := Lib.hid (any_take (p := p2) hlk)
        have HE := Lib.hid (any_here (p := p2) hlk)
        generalize ss.getD k ByteArray.empty = s at *
        cases hp : p2 s with
        | true =>
          have HC := Lib.hid (fun W => hp ▸ HP.out s W)
          have HEX := Lib.hid (HE.out hp)
          clear hp HE HT
          go_wp2_with (go_at_call 194; go_loud (refine (HC.out _).mono ?_); rintro e w1 ⟨rfl, hw1⟩; have HW1 := Lib.hid (HW.out.then1 hw1); clear hw1)
          go_ret
          exact ⟨HW1.out, fun _ => ⟨k, rfl⟩, fun h => (by rw [HEX.out] at h; cases h)⟩
        | false =>
          have HC := Lib.hid (fun W => hp ▸ HP.out s W)
          have HTX := Lib.hid (show (ss.take (k + 1)).any p2 = false by rw [HT.out, HAN.out, hp]; rfl)
          clear hp HE HT
          go_wp2_with (go_at_call 194; go_loud (refine (HC.out _).mono ?_); rintro e w1 ⟨rfl, hw1⟩; have HW1 := Lib.hid (HW.out.then1 hw1); clear hw1)
          go_roundw
          case rel => exact ⟨k + 1, by omega, by go_num, HTX.out, HW1.out⟩
          case measure => simp [intOf]; omega
      · obtain rfl : n = k := by omega
        have hall : ss.any p2 = false := by
          have := HAN.out
          rwa [List.take_of_length_le (by rw [HN.out]; exact Nat.le_refl _)] at this
        have HALL := Lib.hid hall; clear hall
        go_wp2
        go_ret
        exact ⟨HW.out, fun h => (by rw [HALL.out] at h; cases h), fun _ => rfl⟩
set_option maxRecDepth 1000000 in
theorem strHas2_any (ss : List ByteArray) (w : World) (v : Value) (h : StrsAt w v ss) (hl : ss.length ≤ 100000) :
    Calls Tryz.prog 192 #[v, .func (.func 194) #[] #[]] w fun e w' => e = .returned (.bool (ss.any p2)) ∧ Frm NoS w w' := by
  have HI := Lib.hid (strIdx2_any ss w v h hl)
  obtain ⟨a, c, rfl⟩ := h.sl
  clear h
  generalize ss.length = n at *
  cases ha : ss.any p2 with
  | true =>
    have HA := Lib.hid ha; clear ha
    go_enter Tryz.func192, Tryz.ntmps192
    go_wp2_with (go_at_call 205; go_loud (refine HI.out.mono ?_); rintro e w1 ⟨hw1, hy, -⟩; obtain ⟨k, he⟩ := hy HA.out; subst he; have HW1 := Lib.hid hw1; clear hw1 hy)
    go_ret
    exact ⟨by first | rfl | (simp; omega), HW1.out⟩
  | false =>
    have HA := Lib.hid ha; clear ha
    go_enter Tryz.func192, Tryz.ntmps192
    go_wp2_with (go_at_call 205; go_loud (refine HI.out.mono ?_); rintro e w1 ⟨hw1, -, hy⟩; have he := hy HA.out; subst he; have HW1 := Lib.hid hw1; clear hw1 hy)
    go_ret
    exact ⟨by first | rfl | (simp; omega), HW1.out⟩
/-- Why a path can't be; 0: it can. -/
def pathE (ss : List ByteArray) : Int := if ss.length < 1 ∨ 3 < ss.length ∨ ss.any p1 = true then 1 else if (ss.take (ss.length - 1)).any p2 = true then 6 else 0
theorem StrsAt.cut {w : World} {b off c n : Nat} {ss : List ByteArray} (h : Rd w (.slice (some ⟨b, off, none⟩) n c) n (ss.map Value.string)) (hn : n = ss.length) (m : Nat) (hm : m ≤ n) : StrsAt w (.slice (some ⟨b, off, none⟩) m c) (ss.take m) := by
  rcases h with ⟨ad, h1, h2, h3⟩ | ⟨b', off', c', h1, h2, h3, h4⟩
  · have : ss = [] := by simpa using h3
    subst this
    have hm0 : m = 0 := by simp at hn; omega
    subst hm0
    injection h1 with e1 e2 e3
    subst e1 e3
    exact .inl ⟨_, rfl, rfl, rfl⟩
  · injection h1 with e1 e2 e3
    injection e1 with e1
    injection e1 with e1 e4
    subst e1 e4 e3
    have hl : (ss.take m).length = m := by rw [List.length_take]; omega
    unfold StrsAt
    rw [hl]
    refine .inr ⟨b, off, c, rfl, by omega, h3, fun j u hu => h4 j u ?_⟩
    rw [List.map_take, List.getElem?_take] at hu
    split at hu
    · exact hu
    · cases hu
theorem pathE_len {ss : List ByteArray} (h : ss.length < 1 ∨ 3 < ss.length) : pathE ss = 1 := by unfold pathE; rw [if_pos (by rcases h with h | h; exact .inl h; exact .inr (.inl h))]
theorem pathE_any {ss : List ByteArray} (h : ss.any p1 = true) : pathE ss = 1 := by unfold pathE; rw [if_pos (.inr (.inr h))]
theorem pathE_not {ss : List ByteArray} (h1 : ¬ (ss.length < 1 ∨ 3 < ss.length)) (h2 : ss.any p1 = false) : pathE ss = if (ss.take (ss.length - 1)).any p2 = true then 6 else 0 := by
  unfold pathE
  rw [if_neg fun h => ?_]
  rcases h with h | h | h
  · exact h1 (.inl h)
  · exact h1 (.inr h)
  · rw [h2] at h; cases h
theorem pathE_six {ss : List ByteArray} (h1 : ¬ (ss.length < 1 ∨ 3 < ss.length)) (h2 : ss.any p1 = false) (h3 : (ss.take (ss.length - 1)).any p2 = true) : pathE ss = 6 := by rw [pathE_not h1 h2, if_pos h3]
theorem pathE_ok {ss : List ByteArray} (h1 : ¬ (ss.length < 1 ∨ 3 < ss.length)) (h2 : ss.any p1 = false) (h3 : (ss.take (ss.length - 1)).any p2 = false) : pathE ss = 0 := by rw [pathE_not h1 h2, if_neg (by rw [h3]; exact Bool.false_ne_true)]
set_option maxHeartbeats 2000000 in
set_option maxRecDepth 1000000 in
theorem opPath_any (ss : List ByteArray) (w : World) (v : Value) (h : StrsAt w v ss) (hl : ss.length ≤ 100000) :
    Calls Tryz.prog 170 #[v] w fun e w' => e = .returned (.int .i64 (pathE ss)) ∧ Frm NoS w w' := by
  by_cases h1 : ss.length < 1 ∨ 3 < ss.length
  · rw [pathE_len h1]
    obtain ⟨a, c, rfl⟩ := h.sl
    clear h
    generalize ss.length = n at *
    rcases h1 with h1 | h1
    · obtain rfl : n = 0 := by omega
      go_enter Tryz.func170, Tryz.ntmps170
      go_wp2
      go_ret
      exact ⟨rfl, Frm.refl _ _⟩
    · have h2 : ¬ (n : Int) ≤ 3 := by omega
      go_enter Tryz.func170, Tryz.ntmps170
      go_wp2
      go_ret
      exact ⟨rfl, Frm.refl _ _⟩
  · have HH1 := Lib.hid (strHas1_any ss w v h hl)
    rcases Rd.shape h with ⟨ad, rfl, h0⟩ | ⟨b, off, c, rfl, hmax⟩
    · omega
    have HC := Lib.hid (fun W (f : Frm NoS w W) => StrsAt.cut (Rd.keep0 h f) rfl (ss.length - 1) (by omega))
    have HH2 := Lib.hid (fun W (f : Frm NoS w W) => strHas2_any (ss.take (ss.length - 1)) W _ (HC.out W f) (by rw [List.length_take]; omega))
    have hn1 : 1 ≤ ss.length := by omega
    have hnc : ss.length - 1 ≤ c := by have := Rd.cap h; omega
    have hn3 : ss.length ≤ 3 := by omega
    have hw1 : IntKind.i64.wrap ((ss.length : Int) - 1) = ((ss.length - 1 : Nat) : Int) := by rw [IntKind.wrap_i64]; omega
    have hw2 : ((ss.length : Int) - 1) = ((ss.length - 1 : Nat) : Int) := by omega
    generalize hq1 : ss.any p1 = q1 at *
    generalize hq2 : (ss.take (ss.length - 1)).any p2 = q2 at *
    cases q1 with
    | true =>
      rw [pathE_any hq1]
      clear h HC HH2 hq1 hq2 h1 hw1 hw2 hnc
      generalize ss.length = n at *
      go_enter Tryz.func170, Tryz.ntmps170
      go_wp2_with (go_at_call 192; go_loud (refine HH1.out.mono ?_); rintro e w1 ⟨rfl, hw1⟩; have HW1 := Lib.hid hw1; clear hw1)
      go_ret
      exact ⟨rfl, HW1.out⟩
    | false =>
      cases q2 with
      | true =>
        rw [pathE_six h1 hq1 hq2]
        clear h HC hq1 hq2 h1
        generalize ss.length - 1 = m at *
        generalize ss.length = n at *
        go_enter Tryz.func170, Tryz.ntmps170
        go_wp2_with (go_at_call 192; first | (have HH1 := HW1; go_loud (refine (HH2.out _ HW1.out).mono ?_); rintro e w2 ⟨rfl, hw9⟩; have HW2 := Lib.hid (HW1.out.then1 hw9); clear hw9) | (refine HH1.out.mono ?_; rintro e w1 ⟨rfl, hw9⟩; have HW1 := Lib.hid hw9; clear hw9))
        go_ret
        exact ⟨rfl, HW2.out⟩
      | false =>
        rw [pathE_ok h1 hq1 hq2]
        clear h HC hq1 hq2 h1
        generalize ss.length - 1 = m at *
        generalize ss.length = n at *
        go_enter Tryz.func170, Tryz.ntmps170
        go_wp2_with (go_at_call 192; first | (have HH1 := HW1; go_loud (refine (HH2.out _ HW1.out).mono ?_); rintro e w2 ⟨rfl, hw9⟩; have HW2 := Lib.hid (HW1.out.then1 hw9); clear hw9) | (refine HH1.out.mono ?_; rintro e w1 ⟨rfl, hw9⟩; have HW1 := Lib.hid hw9; clear hw9))
        go_ret
        exact ⟨rfl, HW2.out⟩
end Go.Proofs.YtggfoihfenlckaaGreat