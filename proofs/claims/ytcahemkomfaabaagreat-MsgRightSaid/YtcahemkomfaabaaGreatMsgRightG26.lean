/- Words for the law MsgRight: R9, BunR. -/
import Derived.Test.YtcahemkomfaabaaGreatMsgRightG9
import Derived.Test.YtcahemkomfaabaaGreatMsgRightG25
set_option linter.unusedSimpArgs false
set_option linter.unusedVariables false
/- tributaryref09: Right, Small: the walks. -/
namespace Go.Proofs.YtcahemkomfaabaaGreat
open Go.RowKit
set_option maxRecDepth 100000 in
theorem r9Small_any (Q : Nat → Prop) (es : List Ent) (ks : KidsL) (c : CtxL) (left : Int) (w : World) (ev kv cv : Value) (h : CauAt Q w ev kv cv es ks c) (hok : TrOk es ks) (hcl : c.length ≤ 140737488351232) (h1 : left ≤ 1000) (h2 : 0 ≤ left) :
 Calls Tryz.prog 29 #[.agg #[ev, kv, cv], .int .i64 left] w fun e w' => e = .returned (.bool (decide (0 ≤ roomT es ks left 8) && decide ((c.length : Int) ≤ left))) ∧ Frm NoS w w' := by
 obtain ⟨a0, c0, a1, c1, a2, c2, rfl, rfl, rfl⟩ := h.shape
 have HC := Lib.hid (fun W (f : Frm NoS w W) => r8Small_any Q es ks left W _ _ (h.tree.keep0 f) hok h1 h2)
 clear h hok
 generalize c.length = k at *
 cases hb : decide (0 ≤ roomT es ks left 8) with
 | false =>
  rw [hb] at HC
  clear hb
  have HBX := Lib.hid (box3 w (.slice a0 es.length c0) (.slice a1 ks.len c1) (.slice a2 k c2) 32)
  go_enter Tryz.func29, Tryz.ntmps29
  go_wp2_with (go_at_call 83; refine (HC.out _ (Frm.alloc _ _ _)).mono ?_; rintro e w1 ⟨rfl, hw1⟩; obtain ⟨y0, y1, y2⟩ := HBX.out w1 hw1; have HW1 := Lib.hid ((Frm.alloc NoS _ _).then1 hw1); clear hw1)
  go_ret
  exact ⟨rfl, HW1.out⟩
 | true =>
  rw [hb] at HC
  clear hb
  have HBX := Lib.hid (box3 w (.slice a0 es.length c0) (.slice a1 ks.len c1) (.slice a2 k c2) 32)
  go_enter Tryz.func29, Tryz.ntmps29
  go_wp2_with (go_at_call 83; refine (HC.out _ (Frm.alloc _ _ _)).mono ?_; rintro e w1 ⟨rfl, hw1⟩; obtain ⟨y0, y1, y2⟩ := HBX.out w1 hw1; have HW1 := Lib.hid ((Frm.alloc NoS _ _).then1 hw1); clear hw1)
  go_ret
  exact ⟨rfl, HW1.out⟩
set_option maxHeartbeats 2000000 in
set_option maxRecDepth 1000000 in
theorem r9Right_any (Q : Nat → Prop) (es : List Ent) (ks : KidsL) (c : CtxL) (w : World) (ev kv cv : Value) (h : CauAt Q w ev kv cv es ks c) (hok : CauOk es ks c) :
 Calls Tryz.prog 72 #[.agg #[ev, kv, cv]] w fun e w' => e = .returned (.bool (tf (CauRight es ks c))) ∧ Frm NoS w w' := by
 obtain ⟨a0, c0, a1, c1, a2, c2, rfl, rfl, rfl⟩ := h.shape
 have HT := Lib.hid (fun W (f : Frm NoS w W) => r8Right_any Q es ks W _ _ (h.tree.keep0 f) hok.tree)
 have HX := Lib.hid (fun W (f : Frm NoS w W) => r7Right_any W _ c (Rd.keep0 h.ctx f) hok.fits (by have := hok.len; omega))
 have HD := Lib.hid (fun W (f : Frm NoS w W) hd => r8Dots_any Q es ks W _ _ (h.tree.keep0 f) hok.small hd)
 have HL := Lib.hid (fun W (f : Frm NoS w W) vd d (hv : CtxAt W vd d) (rd : RightC d) (ld : d.length ≤ 8000) (rc : RightC c) => r7Leq_any W vd _ d c hv (Rd.keep0 h.ctx f) rd rc (by omega) (by have := hok.len; omega))
 have HBX := Lib.hid (box3 w (.slice a0 es.length c0) (.slice a1 ks.len c1) (.slice a2 c.length c2) 32)
 clear h hok
 cases hr : rightT 5 es ks with
 | false =>
  rw [hr] at HT
  rw [tf_false fun h => by rw [h.tree] at hr; cases hr]
  clear hr HX HD HL
  generalize es.length = n at *
  generalize ks.len = m at *
  generalize c.length = k at *
  have hfa : Frm NoS w (w.alloc (.cells #[.slice a0 n c0, .slice a1 m c1, .slice a2 k c2] 32)) := Frm.alloc _ _ _
  go_enter Tryz.func72, Tryz.ntmps72
  go_wp2_with fail
  refine wp_region_G (S := fun w' => w'.cell? ⟨w.heap.size, 0, none⟩ = some (.slice a0 n c0) ∧ w'.cell? ⟨w.heap.size, 1, none⟩ = some (.slice a1 m c1) ∧ w'.cell? ⟨w.heap.size, 2, none⟩ = some (.slice a2 k c2)) 16 (by kernel_rfl) (HBX.out _ (Frm.drew _ _)) ?_
  intro hS
  have HFY := Lib.hid (hfa.drew1)
  generalize (w.alloc (.cells #[.slice a0 n c0, .slice a1 m c1, .slice a2 k c2] 32)).drew = Y at *
  clear hfa
  refine tkG 0 3 rfl rfl (v := ?_) (.inl ⟨by rfl, ?_⟩) ?_
  rotate_left 1
  · (intro w hSw; (try dsimp only at hSw); go_simp; (try with_reducible rfl))
  try simp only [Act.put, List.setIfInBounds_toArray, List.set_cons_zero, List.set_cons_succ]
  refine tkG 1 4 rfl rfl (v := ?_) (.inl ⟨by rfl, ?_⟩) ?_
  rotate_left 1
  · (intro w hSw; (try dsimp only at hSw); go_simp; (try with_reducible rfl))
  try simp only [Act.put, List.setIfInBounds_toArray, List.set_cons_zero, List.set_cons_succ]
  refine one_opG (i := 2) (by kernel_rfl) rfl (fun K hK => ?_)
  go_simp
  refine (HT.out _ HFY.out).mono ?_
  rintro e Y1 ⟨rfl, hf1⟩
  have hS := (⟨hf1.cell' hS.1 id, hf1.cell' hS.2.1 id, hf1.cell' hS.2.2 id⟩ : Y1.cell? ⟨w.heap.size, 0, none⟩ = some (.slice a0 n c0) ∧ Y1.cell? ⟨w.heap.size, 1, none⟩ = some (.slice a1 m c1) ∧ Y1.cell? ⟨w.heap.size, 2, none⟩ = some (.slice a2 k c2))
  refine hK.out _ _ hS ?_
  clear hK K
  have HF1 := Lib.hid hf1; clear hf1
  try simp only [Act.put, List.setIfInBounds_toArray, List.set_cons_zero, List.set_cons_succ]
  refine tkG 3 6 rfl rfl (v := ?_) (.inl ⟨by rfl, ?_⟩) ?_
  rotate_left 1
  · (intro w hSw; (try dsimp only at hSw); go_simp; (try with_reducible rfl))
  try simp only [Act.put, List.setIfInBounds_toArray, List.set_cons_zero, List.set_cons_succ]
  refine tkS 4 7 rfl rfl ?_
  try simp only [Act.put, List.setIfInBounds_toArray, List.set_cons_zero, List.set_cons_succ]
  refine tkS 5 8 rfl rfl ?_
  try simp only [Act.put, List.setIfInBounds_toArray, List.set_cons_zero, List.set_cons_succ]
  refine tkS 6 9 rfl rfl ?_
  try simp only [Act.put, List.setIfInBounds_toArray, List.set_cons_zero, List.set_cons_succ]
  refine tkG 7 10 rfl rfl (v := ?_) (.inl ⟨by rfl, ?_⟩) ?_
  rotate_left 1
  · (intro w hSw; (try dsimp only at hSw); go_simp; (try with_reducible rfl))
  try simp only [Act.put, List.setIfInBounds_toArray, List.set_cons_zero, List.set_cons_succ]
  refine tkG 8 11 rfl rfl (v := ?_) (.inl ⟨by rfl, ?_⟩) ?_
  rotate_left 1
  · (intro w hSw; (try dsimp only at hSw); go_simp; (try with_reducible rfl))
  try simp only [Act.put, List.setIfInBounds_toArray, List.set_cons_zero, List.set_cons_succ]
  refine tkS 9 12 rfl rfl ?_
  try simp only [Act.put, List.setIfInBounds_toArray, List.set_cons_zero, List.set_cons_succ]
  refine tkS 10 13 rfl rfl ?_
  try simp only [Act.put, List.setIfInBounds_toArray, List.set_cons_zero, List.set_cons_succ]
  refine tkS 11 14 rfl rfl ?_
  try simp only [Act.put, List.setIfInBounds_toArray, List.set_cons_zero, List.set_cons_succ]
  refine tkS 12 15 rfl rfl ?_
  try simp only [Act.put, List.setIfInBounds_toArray, List.set_cons_zero, List.set_cons_succ]
  refine tkS 13 16 rfl rfl ?_
  try simp only [Act.put, List.setIfInBounds_toArray, List.set_cons_zero, List.set_cons_succ]
  refine tkS 14 17 rfl rfl ?_
  try simp only [Act.put, List.setIfInBounds_toArray, List.set_cons_zero, List.set_cons_succ]
  refine tkG 15 18 rfl rfl (v := ?_) (.inl ⟨by rfl, ?_⟩) ?_
  rotate_left 1
  · (intro w hSw; (try dsimp only at hSw); go_simp; (try with_reducible rfl))
  try simp only [Act.put, List.setIfInBounds_toArray, List.set_cons_zero, List.set_cons_succ]
  refine last_opG (by kernel_rfl) (by kernel_rfl) rfl (fun K hK => ?_)
  go_simp
  refine hK.out _ _ ?_
  clear hK K hS
  go_wp2
  go_ret
  exact ⟨rfl, HFY.out.then1 HF1.out⟩
 | true =>
  rw [hr] at HT
  by_cases hc : RightC c
  · rw [tf_true hc] at HX
    have HOK := Lib.hid (rightT_dots hr)
    have hpost : ∀ d, OfC (dotsT es ks) d → tf (LeqC d c) = tf (CauRight es ks c) := fun d hd => tf_congr ⟨fun h => ⟨hr, hc, (hd.leq HOK.out).1 h⟩, fun h => (hd.leq HOK.out).2 h.dots⟩
    have HPOST := Lib.hid hpost; clear hpost
    have HRC := Lib.hid hc; clear hc hr
    generalize tf (CauRight es ks c) = y at *
    generalize es.length = n at *
    generalize ks.len = m at *
    generalize c.length = k at *
    have hfa : Frm NoS w (w.alloc (.cells #[.slice a0 n c0, .slice a1 m c1, .slice a2 k c2] 32)) := Frm.alloc _ _ _
    go_enter Tryz.func72, Tryz.ntmps72
    go_wp2_with fail
    refine wp_region_G (S := fun w' => w'.cell? ⟨w.heap.size, 0, none⟩ = some (.slice a0 n c0) ∧ w'.cell? ⟨w.heap.size, 1, none⟩ = some (.slice a1 m c1) ∧ w'.cell? ⟨w.heap.size, 2, none⟩ = some (.slice a2 k c2)) 16 (by kernel_rfl) (HBX.out _ (Frm.drew _ _)) ?_
    intro hS
    have HFY := Lib.hid (hfa.drew1)
    generalize (w.alloc (.cells #[.slice a0 n c0, .slice a1 m c1, .slice a2 k c2] 32)).drew = Y at *
    clear hfa
    refine tkG 0 3 rfl rfl (v := ?_) (.inl ⟨by rfl, ?_⟩) ?_
    rotate_left 1
    · (intro w hSw; (try dsimp only at hSw); go_simp; (try with_reducible rfl))
    try simp only [Act.put, List.setIfInBounds_toArray, List.set_cons_zero, List.set_cons_succ]
    refine tkG 1 4 rfl rfl (v := ?_) (.inl ⟨by rfl, ?_⟩) ?_
    rotate_left 1
    · (intro w hSw; (try dsimp only at hSw); go_simp; (try with_reducible rfl))
    try simp only [Act.put, List.setIfInBounds_toArray, List.set_cons_zero, List.set_cons_succ]
    refine one_opG (i := 2) (by kernel_rfl) rfl (fun K hK => ?_)
    go_simp
    refine (HT.out _ HFY.out).mono ?_
    rintro e Y1 ⟨rfl, hf1⟩
    have hS := (⟨hf1.cell' hS.1 id, hf1.cell' hS.2.1 id, hf1.cell' hS.2.2 id⟩ : Y1.cell? ⟨w.heap.size, 0, none⟩ = some (.slice a0 n c0) ∧ Y1.cell? ⟨w.heap.size, 1, none⟩ = some (.slice a1 m c1) ∧ Y1.cell? ⟨w.heap.size, 2, none⟩ = some (.slice a2 k c2))
    refine hK.out _ _ hS ?_
    clear hK K
    have HF1 := Lib.hid (HFY.out.then1 hf1); clear hf1
    try simp only [Act.put, List.setIfInBounds_toArray, List.set_cons_zero, List.set_cons_succ]
    refine tkG 3 6 rfl rfl (v := ?_) (.inl ⟨by rfl, ?_⟩) ?_
    rotate_left 1
    · (intro w hSw; (try dsimp only at hSw); go_simp; (try with_reducible rfl))
    try simp only [Act.put, List.setIfInBounds_toArray, List.set_cons_zero, List.set_cons_succ]
    refine tkG 4 7 rfl rfl (v := ?_) (.inl ⟨by rfl, ?_⟩) ?_
    rotate_left 1
    · (intro w hSw; (try dsimp only at hSw); go_simp; (try with_reducible rfl))
    try simp only [Act.put, List.setIfInBounds_toArray, List.set_cons_zero, List.set_cons_succ]
    refine tkG 5 8 rfl rfl (v := ?_) (.inl ⟨by rfl, ?_⟩) ?_
    rotate_left 1
    · (intro w hSw; (try dsimp only at hSw); go_simp; (try with_reducible rfl))
    try simp only [Act.put, List.setIfInBounds_toArray, List.set_cons_zero, List.set_cons_succ]
    refine one_opG (i := 6) (by kernel_rfl) rfl (fun K hK => ?_)
    go_simp
    refine (HX.out _ HF1.out).mono ?_
    rintro e Y2 ⟨rfl, hf2⟩
    have hS := (⟨hf2.cell' hS.1 id, hf2.cell' hS.2.1 id, hf2.cell' hS.2.2 id⟩ : Y2.cell? ⟨w.heap.size, 0, none⟩ = some (.slice a0 n c0) ∧ Y2.cell? ⟨w.heap.size, 1, none⟩ = some (.slice a1 m c1) ∧ Y2.cell? ⟨w.heap.size, 2, none⟩ = some (.slice a2 k c2))
    refine hK.out _ _ hS ?_
    clear hK K
    have HF2 := Lib.hid (HF1.out.then1 hf2); clear hf2
    try simp only [Act.put, List.setIfInBounds_toArray, List.set_cons_zero, List.set_cons_succ]
    refine tkG 7 10 rfl rfl (v := ?_) (.inl ⟨by rfl, ?_⟩) ?_
    rotate_left 1
    · (intro w hSw; (try dsimp only at hSw); go_simp; (try with_reducible rfl))
    try simp only [Act.put, List.setIfInBounds_toArray, List.set_cons_zero, List.set_cons_succ]
    refine tkG 8 11 rfl rfl (v := ?_) (.inl ⟨by rfl, ?_⟩) ?_
    rotate_left 1
    · (intro w hSw; (try dsimp only at hSw); go_simp; (try with_reducible rfl))
    try simp only [Act.put, List.setIfInBounds_toArray, List.set_cons_zero, List.set_cons_succ]
    refine tkG 9 12 rfl rfl (v := ?_) (.inl ⟨by rfl, ?_⟩) ?_
    rotate_left 1
    · (intro w hSw; (try dsimp only at hSw); go_simp; (try with_reducible rfl))
    try simp only [Act.put, List.setIfInBounds_toArray, List.set_cons_zero, List.set_cons_succ]
    refine tkG 10 13 rfl rfl (v := ?_) (.inl ⟨by rfl, ?_⟩) ?_
    rotate_left 1
    · (intro w hSw; (try dsimp only at hSw); go_simp; (try with_reducible rfl))
    try simp only [Act.put, List.setIfInBounds_toArray, List.set_cons_zero, List.set_cons_succ]
    refine tkG 12 15 rfl rfl (v := ?_) (.inl ⟨by rfl, ?_⟩) ?_
    rotate_left 1
    · (intro w hSw; (try dsimp only at hSw); go_simp; (try with_reducible rfl))
    try simp only [Act.put, List.setIfInBounds_toArray, List.set_cons_zero, List.set_cons_succ]
    refine tkG 13 16 rfl rfl (v := ?_) (.inl ⟨by rfl, ?_⟩) ?_
    rotate_left 1
    · (intro w hSw; (try dsimp only at hSw); go_simp; (try with_reducible rfl))
    try simp only [Act.put, List.setIfInBounds_toArray, List.set_cons_zero, List.set_cons_succ]
    refine one_opG (i := 11) (by kernel_rfl) rfl (fun K hK => ?_)
    go_simp
    refine (HD.out _ HF2.out HOK.out).mono ?_
    rintro e Y3 ⟨v3, d, rfl, ho3, hof, hl3⟩
    obtain ⟨a3, c3, rfl⟩ := ho3.shape
    have hf3 := ho3.frm
    have hS := (⟨hf3.cell' hS.1 id, hf3.cell' hS.2.1 id, hf3.cell' hS.2.2 id⟩ : Y3.cell? ⟨w.heap.size, 0, none⟩ = some (.slice a0 n c0) ∧ Y3.cell? ⟨w.heap.size, 1, none⟩ = some (.slice a1 m c1) ∧ Y3.cell? ⟨w.heap.size, 2, none⟩ = some (.slice a2 k c2))
    refine hK.out _ _ hS ?_
    clear hK K
    have HF3 := Lib.hid (HF2.out.then1 hf3); clear hf3
    have HO3 := Lib.hid ho3; clear ho3
    have HOF := Lib.hid hof; clear hof
    have HL3 := Lib.hid hl3; clear hl3
    try simp only [Act.put, List.setIfInBounds_toArray, List.set_cons_zero, List.set_cons_succ]
    refine one_opG (i := 14) (by kernel_rfl) rfl (fun K hK => ?_)
    go_simp
    refine (HL.out _ HF3.out _ d HO3.out.rd HOF.out.right HL3.out HRC.out).mono ?_
    rintro e Y4 ⟨rfl, hf4⟩
    rw [HPOST.out d HOF.out]
    have hS := (⟨hf4.cell' hS.1 id, hf4.cell' hS.2.1 id, hf4.cell' hS.2.2 id⟩ : Y4.cell? ⟨w.heap.size, 0, none⟩ = some (.slice a0 n c0) ∧ Y4.cell? ⟨w.heap.size, 1, none⟩ = some (.slice a1 m c1) ∧ Y4.cell? ⟨w.heap.size, 2, none⟩ = some (.slice a2 k c2))
    refine hK.out _ _ hS ?_
    clear hK K
    have HF4 := Lib.hid (HF3.out.then1 hf4); clear hf4
    try simp only [Act.put, List.setIfInBounds_toArray, List.set_cons_zero, List.set_cons_succ]
    refine tkG 15 18 rfl rfl (v := ?_) (.inl ⟨by rfl, ?_⟩) ?_
    rotate_left 1
    · (intro w hSw; (try dsimp only at hSw); go_simp; (try with_reducible rfl))
    try simp only [Act.put, List.setIfInBounds_toArray, List.set_cons_zero, List.set_cons_succ]
    refine last_opG (by kernel_rfl) (by kernel_rfl) rfl (fun K hK => ?_)
    go_simp
    refine hK.out _ _ ?_
    clear hK K hS
    go_wp2
    go_ret
    exact ⟨rfl, HF4.out⟩
  · rw [tf_false hc] at HX
    rw [tf_false fun h => hc h.ctx]
    clear hc hr HD HL
    generalize es.length = n at *
    generalize ks.len = m at *
    generalize c.length = k at *
    have hfa : Frm NoS w (w.alloc (.cells #[.slice a0 n c0, .slice a1 m c1, .slice a2 k c2] 32)) := Frm.alloc _ _ _
    go_enter Tryz.func72, Tryz.ntmps72
    go_wp2_with fail
    refine wp_region_G (S := fun w' => w'.cell? ⟨w.heap.size, 0, none⟩ = some (.slice a0 n c0) ∧ w'.cell? ⟨w.heap.size, 1, none⟩ = some (.slice a1 m c1) ∧ w'.cell? ⟨w.heap.size, 2, none⟩ = some (.slice a2 k c2)) 16 (by kernel_rfl) (HBX.out _ (Frm.drew _ _)) ?_
    intro hS
    have HFY := Lib.hid (hfa.drew1)
    generalize (w.alloc (.cells #[.slice a0 n c0, .slice a1 m c1, .slice a2 k c2] 32)).drew = Y at *
    clear hfa
    refine tkG 0 3 rfl rfl (v := ?_) (.inl ⟨by rfl, ?_⟩) ?_
    rotate_left 1
    · (intro w hSw; (try dsimp only at hSw); go_simp; (try with_reducible rfl))
    try simp only [Act.put, List.setIfInBounds_toArray, List.set_cons_zero, List.set_cons_succ]
    refine tkG 1 4 rfl rfl (v := ?_) (.inl ⟨by rfl, ?_⟩) ?_
    rotate_left 1
    · (intro w hSw; (try dsimp only at hSw); go_simp; (try with_reducible rfl))
    try simp only [Act.put, List.setIfInBounds_toArray, List.set_cons_zero, List.set_cons_succ]
    refine one_opG (i := 2) (by kernel_rfl) rfl (fun K hK => ?_)
    go_simp
    refine (HT.out _ HFY.out).mono ?_
    rintro e Y1 ⟨rfl, hf1⟩
    have hS := (⟨hf1.cell' hS.1 id, hf1.cell' hS.2.1 id, hf1.cell' hS.2.2 id⟩ : Y1.cell? ⟨w.heap.size, 0, none⟩ = some (.slice a0 n c0) ∧ Y1.cell? ⟨w.heap.size, 1, none⟩ = some (.slice a1 m c1) ∧ Y1.cell? ⟨w.heap.size, 2, none⟩ = some (.slice a2 k c2))
    refine hK.out _ _ hS ?_
    clear hK K
    have HF1 := Lib.hid (HFY.out.then1 hf1); clear hf1
    try simp only [Act.put, List.setIfInBounds_toArray, List.set_cons_zero, List.set_cons_succ]
    refine tkG 3 6 rfl rfl (v := ?_) (.inl ⟨by rfl, ?_⟩) ?_
    rotate_left 1
    · (intro w hSw; (try dsimp only at hSw); go_simp; (try with_reducible rfl))
    try simp only [Act.put, List.setIfInBounds_toArray, List.set_cons_zero, List.set_cons_succ]
    refine tkG 4 7 rfl rfl (v := ?_) (.inl ⟨by rfl, ?_⟩) ?_
    rotate_left 1
    · (intro w hSw; (try dsimp only at hSw); go_simp; (try with_reducible rfl))
    try simp only [Act.put, List.setIfInBounds_toArray, List.set_cons_zero, List.set_cons_succ]
    refine tkG 5 8 rfl rfl (v := ?_) (.inl ⟨by rfl, ?_⟩) ?_
    rotate_left 1
    · (intro w hSw; (try dsimp only at hSw); go_simp; (try with_reducible rfl))
    try simp only [Act.put, List.setIfInBounds_toArray, List.set_cons_zero, List.set_cons_succ]
    refine one_opG (i := 6) (by kernel_rfl) rfl (fun K hK => ?_)
    go_simp
    refine (HX.out _ HF1.out).mono ?_
    rintro e Y2 ⟨rfl, hf2⟩
    have hS := (⟨hf2.cell' hS.1 id, hf2.cell' hS.2.1 id, hf2.cell' hS.2.2 id⟩ : Y2.cell? ⟨w.heap.size, 0, none⟩ = some (.slice a0 n c0) ∧ Y2.cell? ⟨w.heap.size, 1, none⟩ = some (.slice a1 m c1) ∧ Y2.cell? ⟨w.heap.size, 2, none⟩ = some (.slice a2 k c2))
    refine hK.out _ _ hS ?_
    clear hK K
    have HF2 := Lib.hid (HF1.out.then1 hf2); clear hf2
    try simp only [Act.put, List.setIfInBounds_toArray, List.set_cons_zero, List.set_cons_succ]
    refine tkG 7 10 rfl rfl (v := ?_) (.inl ⟨by rfl, ?_⟩) ?_
    rotate_left 1
    · (intro w hSw; (try dsimp only at hSw); go_simp; (try with_reducible rfl))
    try simp only [Act.put, List.setIfInBounds_toArray, List.set_cons_zero, List.set_cons_succ]
    refine tkG 8 11 rfl rfl (v := ?_) (.inl ⟨by rfl, ?_⟩) ?_
    rotate_left 1
    · (intro w hSw; (try dsimp only at hSw); go_simp; (try with_reducible rfl))
    try simp only [Act.put, List.setIfInBounds_toArray, List.set_cons_zero, List.set_cons_succ]
    refine tkS 9 12 rfl rfl ?_
    try simp only [Act.put, List.setIfInBounds_toArray, List.set_cons_zero, List.set_cons_succ]
    refine tkS 10 13 rfl rfl ?_
    try simp only [Act.put, List.setIfInBounds_toArray, List.set_cons_zero, List.set_cons_succ]
    refine tkS 11 14 rfl rfl ?_
    try simp only [Act.put, List.setIfInBounds_toArray, List.set_cons_zero, List.set_cons_succ]
    refine tkS 12 15 rfl rfl ?_
    try simp only [Act.put, List.setIfInBounds_toArray, List.set_cons_zero, List.set_cons_succ]
    refine tkS 13 16 rfl rfl ?_
    try simp only [Act.put, List.setIfInBounds_toArray, List.set_cons_zero, List.set_cons_succ]
    refine tkS 14 17 rfl rfl ?_
    try simp only [Act.put, List.setIfInBounds_toArray, List.set_cons_zero, List.set_cons_succ]
    refine tkG 15 18 rfl rfl (v := ?_) (.inl ⟨by rfl, ?_⟩) ?_
    rotate_left 1
    · (intro w hSw; (try dsimp only at hSw); go_simp; (try with_reducible rfl))
    try simp only [Act.put, List.setIfInBounds_toArray, List.set_cons_zero, List.set_cons_succ]
    refine last_opG (by kernel_rfl) (by kernel_rfl) rfl (fun K hK => ?_)
    go_simp
    refine hK.out _ _ ?_
    clear hK K hS
    go_wp2
    go_ret
    exact ⟨rfl, HF2.out⟩
end Go.Proofs.YtcahemkomfaabaaGreat
/- tributaryref22: numbers, own: the walks. Printed by wip/bungen.py. -/
namespace Go.Proofs.YtcahemkomfaabaaGreat
open Go.RowKit
set_option maxHeartbeats 4000000 in
set_option maxRecDepth 1000000 in
theorem r22numbers_any (w : World) (dc af la v0 v1 v2 v3 : Int) (a0 a1 a2 : Option Addr) (n m k c0 c1 c2 : Nat) :
 Calls Tryz.prog 71 #[.agg #[.int .i64 dc, .int .i64 af, .int .i64 la, .int .i64 v0, .int .i64 v1, .int .i64 v2, .int .i64 v3, .slice a0 n c0, .slice a1 m c1, .slice a2 k c2]] w fun e w' => e = .returned (.bool (tf (BunNums dc af la (vecF v0 v1 v2 v3)))) ∧ Frm NoS w w' := by
 obtain ⟨α, hne, K, hK1, hK0, hK2⟩ := worlds (w.alloc (.cells #[.int .i64 dc, .int .i64 af, .int .i64 la, .int .i64 v0, .int .i64 v1, .int .i64 v2, .int .i64 v3, .slice a0 n c0, .slice a1 m c1, .slice a2 k c2] 60))
 have kb := fun s => box10 w _ _ _ _ _ _ _ _ _ _ _ (K s) (hK1 s)
 have k0 := fun s => (kb s).1
 have k1 := fun s => (kb s).2.1
 have k2 := fun s => (kb s).2.2.1
 have k3 := fun s => (kb s).2.2.2.1
 have k4 := fun s => (kb s).2.2.2.2.1
 have k5 := fun s => (kb s).2.2.2.2.2.1
 have k6 := fun s => (kb s).2.2.2.2.2.2.1
 have k7 := fun s => (kb s).2.2.2.2.2.2.2.1
 have k8 := fun s => (kb s).2.2.2.2.2.2.2.2.1
 have k9 := fun s => (kb s).2.2.2.2.2.2.2.2.2
 clear kb
 cases h0 : decide (0 ≤ dc) with
 | false =>
  rw [tf_false (fun h => by obtain ⟨g0, g1, g2, g3, g4, g5, g6⟩ := h; simp at h0; omega)]
  go_enter Tryz.func71, Tryz.ntmps71
  go_wp2_with fail
  refine wp_region_new K (by kernel_rfl) (by kernel_rfl) hK0 ?_
  repeat (go_big_quiet_step (fail))
  refine wpQuiet_nil ?_
  intro w' hw'
  obtain ⟨s, rfl⟩ := hw'
  have hfs := (Frm.alloc NoS w _).then1 (hK1 s)
  go_wp2
  go_ret
  exact ⟨rfl, hfs⟩
 | true =>
  cases h1 : decide (dc < 4) with
  | false =>
   rw [tf_false (fun h => by obtain ⟨g0, g1, g2, g3, g4, g5, g6⟩ := h; simp at h1; omega)]
   go_enter Tryz.func71, Tryz.ntmps71
   go_wp2_with fail
   refine wp_region_new K (by kernel_rfl) (by kernel_rfl) hK0 ?_
   repeat (go_big_quiet_step (fail))
   refine wpQuiet_nil ?_
   intro w' hw'
   obtain ⟨s, rfl⟩ := hw'
   have hfs := (Frm.alloc NoS w _).then1 (hK1 s)
   go_wp2
   go_ret
   exact ⟨rfl, hfs⟩
  | true =>
   cases h2 : decide (0 ≤ af) with
   | false =>
    rw [tf_false (fun h => by obtain ⟨g0, g1, g2, g3, g4, g5, g6⟩ := h; simp at h2; omega)]
    go_enter Tryz.func71, Tryz.ntmps71
    go_wp2_with fail
    refine wp_region_new K (by kernel_rfl) (by kernel_rfl) hK0 ?_
    repeat (go_big_quiet_step (fail))
    refine wpQuiet_nil ?_
    intro w' hw'
    obtain ⟨s, rfl⟩ := hw'
    have hfs := (Frm.alloc NoS w _).then1 (hK1 s)
    go_wp2
    go_ret
    exact ⟨rfl, hfs⟩
   | true =>
    cases h3 : decide (af < la) with
    | false =>
     rw [tf_false (fun h => by obtain ⟨g0, g1, g2, g3, g4, g5, g6⟩ := h; simp at h3; omega)]
     go_enter Tryz.func71, Tryz.ntmps71
     go_wp2_with fail
     refine wp_region_new K (by kernel_rfl) (by kernel_rfl) hK0 ?_
     repeat (go_big_quiet_step (fail))
     refine wpQuiet_nil ?_
     intro w' hw'
     obtain ⟨s, rfl⟩ := hw'
     have hfs := (Frm.alloc NoS w _).then1 (hK1 s)
     go_wp2
     go_ret
     exact ⟨rfl, hfs⟩
    | true =>
     cases h4 : decide (la ≤ 1099511627776) with
     | false =>
      rw [tf_false (fun h => by obtain ⟨g0, g1, g2, g3, g4, g5, g6⟩ := h; simp at h4; omega)]
      go_enter Tryz.func71, Tryz.ntmps71
      go_wp2_with fail
      refine wp_region_new K (by kernel_rfl) (by kernel_rfl) hK0 ?_
      repeat (go_big_quiet_step (fail))
      refine wpQuiet_nil ?_
      intro w' hw'
      obtain ⟨s, rfl⟩ := hw'
      have hfs := (Frm.alloc NoS w _).then1 (hK1 s)
      go_wp2
      go_ret
      exact ⟨rfl, hfs⟩
     | true =>
      obtain ⟨dn, hdn⟩ : ∃ dn : Nat, dc = dn := ⟨dc.toNat, by simp at h0; omega⟩
      subst hdn
      have hd4 : dn < 4 := by simp at h1; omega
      have kd : ∀ s, (K s).cell? ⟨w.heap.size, 3 + dn, none⟩ = some (.int .i64 (vecF v0 v1 v2 v3 dn)) := fun s => by
       rcases (by omega : dn = 0 ∨ dn = 1 ∨ dn = 2 ∨ dn = 3) with rfl | rfl | rfl | rfl
       · exact k3 s
       · exact k4 s
       · exact k5 s
       · exact k6 s
      have hd4i : (dn : Int) < 4 := by omega
      have hd0b : decide ((0 : Int) ≤ (dn : Int)) = true := by simp
      have HMY := Lib.hid (fun W => r7May_any W v0 v1 v2 v3)
      by_cases hm : MayV (vecF v0 v1 v2 v3)
      · rw [tf_true hm] at HMY
        obtain ⟨fd, hfd⟩ : ∃ fd, fd = vecF v0 v1 v2 v3 dn := ⟨_, rfl⟩
        have hy : tf (BunNums dn af la (vecF v0 v1 v2 v3)) = decide (fd ≤ af) := by
         simp at h0 h1 h2 h3 h4
         refine (tf_bool ?_).symm
         rw [decide_eq_true_iff, hfd]
         exact ⟨fun h => ⟨by omega, h1, h2, h3, h4, h, hm⟩, fun h => h.2.2.2.2.2.1⟩
        rw [hy]
        rw [← hfd] at kd
        clear hy hfd hm
        go_enter Tryz.func71, Tryz.ntmps71
        go_wp2_with fail
        refine wp_region_new K (by kernel_rfl) (by kernel_rfl) hK0 ?_
        repeat (go_big_quiet_step ((go_at_call 36; exact Calls.in_class hK2 (HMY.out _))))
        refine wpQuiet_nil ?_
        intro w' hw'
        obtain ⟨s, rfl⟩ := hw'
        have hfs := (Frm.alloc NoS w _).then1 (hK1 s)
        go_wp2
        go_ret
        exact ⟨rfl, hfs⟩
      · rw [tf_false hm] at HMY
        rw [tf_false (fun h => hm h.2.2.2.2.2.2)]
        clear hm
        go_enter Tryz.func71, Tryz.ntmps71
        go_wp2_with fail
        refine wp_region_new K (by kernel_rfl) (by kernel_rfl) hK0 ?_
        repeat (go_big_quiet_step ((go_at_call 36; exact Calls.in_class hK2 (HMY.out _))))
        refine wpQuiet_nil ?_
        intro w' hw'
        obtain ⟨s, rfl⟩ := hw'
        have hfs := (Frm.alloc NoS w _).then1 (hK1 s)
        go_wp2
        go_ret
        exact ⟨rfl, hfs⟩
set_option maxRecDepth 1000000 in
theorem r22own_ok (w : World) (dc af la v0 v1 v2 v3 : Int) (a0 a1 a2 : Option Addr) (n m k c0 c1 c2 : Nat) (hn : BunNums dc af la (vecF v0 v1 v2 v3)) :
 Calls Tryz.prog 74 #[.agg #[.int .i64 dc, .int .i64 af, .int .i64 la, .int .i64 v0, .int .i64 v1, .int .i64 v2, .int .i64 v3, .slice a0 n c0, .slice a1 m c1, .slice a2 k c2]] w fun e w' => ∃ v', e = .returned v' ∧ CtxAt w' v' [(dc, af + 1, la)] ∧ Frm NoS w w' := by
 have hb : 0 ≤ af ∧ af < la ∧ la ≤ 1099511627776 := ⟨hn.2.2.1, hn.2.2.2.1, hn.2.2.2.2.1⟩
 have hwr : IntKind.i64.wrap (af + 1) = af + 1 := by simp [IntKind.wrap, IntKind.bits, IntKind.signed]; omega
 clear hn
 go_enter Tryz.func74, Tryz.ntmps74
 go_wp2
 go_ret
 have hc := heap_alloc_new (w.alloc (.cells #[.int .i64 dc, .int .i64 af, .int .i64 la, .int .i64 v0, .int .i64 v1, .int .i64 v2, .int .i64 v3, .slice a0 n c0, .slice a1 m c1, .slice a2 k c2] 60)) (.cells #[.int .i64 dc, .int .i64 (af + 1), .int .i64 la] 122)
 refine ⟨_, rfl, .inr ⟨_, 0, 1, rfl, Nat.le_refl _, by simp [maxLen], fun j u hu => ?_⟩, (Frm.alloc NoS _ _).alloc1⟩
 rw [Nat.zero_add]
 have hu2 : ([.int .i64 dc, .int .i64 (af + 1), .int .i64 la] : List Value)[j]? = some u := hu
 have := cell_at' hc j (by simpa using hu2)
 simpa using this
end Go.Proofs.YtcahemkomfaabaaGreat
