/- Words for the law MsgSet: BunQ. -/
import Derived.Test.YtcahemkomfaabaaGreatMsgSetG10
set_option linter.unusedSimpArgs false
set_option linter.unusedVariables false
set_option maxHeartbeats 32000000
set_option maxRecDepth 1000000
namespace Go.Proofs.YtcahemkomfaabaaGreat
open Go.RowKit
theorem bRight_any (Q : Nat → Prop) (es : List Ent) (ks : KidsL) (c : CtxL) (w : World) (dc af la v0 v1 v2 v3 : Int) (ev kv cv : Value) (h : CauAt Q w ev kv cv es ks c) (hok : CauOk es ks c) :
 Calls Tryz.prog 34 #[.agg #[.int .i64 dc, .int .i64 af, .int .i64 la, .int .i64 v0, .int .i64 v1, .int .i64 v2, .int .i64 v3, ev, kv, cv]] w fun e w' => e = .returned (.bool (tf (BunRight dc af la (vecF v0 v1 v2 v3) es ks c))) ∧ Frm NoS w w' := by
 obtain ⟨a0, c0, a1, c1, a2, c2, rfl, rfl, rfl⟩ := h.shape
 have HNM := Lib.hid (fun W => bnames_any W dc af la v0 v1 v2 v3 a0 a1 a2 es.length ks.len c.length c0 c1 c2)
 have HCR := Lib.hid (fun W (f : Frm NoS w W) => caRight_any Q es ks c W _ _ _ (h.keep0 f) hok)
 have HDT := Lib.hid (fun W (f : Frm NoS w W) => tDots_any Q es ks W _ _ (h.tree.keep0 f) hok.tree (Nat.le_trans hok.small (by decide)))
 have HOW := Lib.hid (fun W hn => bown_ok W dc af la v0 v1 v2 v3 a0 a1 a2 es.length ks.len c.length c0 c1 c2 hn)
 have HMA := Lib.hid (fun W hn => bmay_ok W dc af la v0 v1 v2 v3 a0 a1 a2 es.length ks.len c.length c0 c1 c2 hn)
 have HCX := Lib.hid (fun W (f : Frm NoS w W) => (show CtxAt W (.slice a2 c.length c2) c from Rd.keep0 h.ctx f))
 have HCF := Lib.hid hok.fits
 have hcl := hok.len
 have hdl : (dotsT es ks).length ≤ 2000 := Nat.le_trans (dotsT_length_le es ks) hok.small
 have HDL := Lib.hid hdl; clear hdl
 have HL0 := Lib.hid (fun W va vb a b ha hb fa fb la lb => cLeq_any W va vb a b ha hb fa fb la lb)
 clear h hok
 have HBX := Lib.hid (box10 w (.int .i64 dc) (.int .i64 af) (.int .i64 la) (.int .i64 v0) (.int .i64 v1) (.int .i64 v2) (.int .i64 v3) (.slice a0 es.length c0) (.slice a1 ks.len c1) (.slice a2 c.length c2) 64)
 have hfa : Frm NoS w (w.alloc (.cells #[.int .i64 dc, .int .i64 af, .int .i64 la, .int .i64 v0, .int .i64 v1, .int .i64 v2, .int .i64 v3, .slice a0 es.length c0, .slice a1 ks.len c1, .slice a2 c.length c2] 64)) := Frm.alloc _ _ _
 have HFA := Lib.hid hfa; clear hfa
 by_cases hn : BunNums dc af la (vecF v0 v1 v2 v3)
 rotate_left 1
 · rw [tf_false hn] at HNM
   rw [tf_false fun h => hn h.nums]
   clear hn HCR HDT HOW HMA HCX HCF HL0 hcl HDL
   generalize es.length = n at *
   generalize ks.len = m at *
   generalize c.length = k at *
   go_enter Tryz.func34, Tryz.ntmps34
   go_wp2_with (go_at_call 85; refine (HNM.out _).mono ?_; rintro e w1 ⟨rfl, hw1⟩; have HW1 := Lib.hid (HFA.out.then1 hw1); clear hw1)
   go_ret
   exact ⟨rfl, HW1.out⟩
 rw [tf_true hn] at HNM
 by_cases hc : CauRight es ks c
 rotate_left 1
 · rw [tf_false hc] at HCR
   rw [tf_false fun h => hc ⟨h.tree, h.ctx, h.dots⟩]
   clear hn hc HDT HOW HMA HCX HCF HL0 hcl HDL
   generalize es.length = n at *
   generalize ks.len = m at *
   generalize c.length = k at *
   go_enter Tryz.func34, Tryz.ntmps34
   go_wp2_with (first
    | (go_at_call 85; refine (HNM.out _).mono ?_; rintro e w1 ⟨rfl, hw1⟩; obtain ⟨y0, y1, y2, y3, y4, y5, y6, y7, y8, y9⟩ := HBX.out w1 hw1; have HW1 := Lib.hid (HFA.out.then1 hw1); clear hw1)
    | (go_at_call 79; refine (HCR.out _ HW1.out).mono ?_; rintro e w2 ⟨rfl, hw2⟩; have HW2 := Lib.hid (HW1.out.then1 hw2); clear hw2))
   go_ret
   exact ⟨rfl, HW2.out⟩
 rw [tf_true hc] at HCR
 rcases Nat.eq_zero_or_pos es.length with he0 | hep
 rotate_left 1
 · rw [tf_false fun h => by rw [h.bare] at hep; cases hep]
   clear hn hc HDT HOW HMA HCX HCF HL0 hcl HDL
   generalize es.length = n at *
   generalize ks.len = m at *
   generalize c.length = k at *
   go_enter Tryz.func34, Tryz.ntmps34
   go_wp2_with (first
    | (go_at_call 85; refine (HNM.out _).mono ?_; rintro e w1 ⟨rfl, hw1⟩; obtain ⟨y0, y1, y2, y3, y4, y5, y6, y7, y8, y9⟩ := HBX.out w1 hw1; have HW1 := Lib.hid hw1; clear hw1)
    | (go_at_call 79; refine (HCR.out _ (HFA.out.then1 HW1.out)).mono ?_; rintro e w2 ⟨rfl, hw2⟩; clear y0 y1 y2 y3 y4 y5 y6 y7 y8 y9; obtain ⟨y0, y1, y2, y3, y4, y5, y6, y7, y8, y9⟩ := HBX.out w2 (HW1.out.then1 hw2); have HW2 := Lib.hid (HW1.out.then1 hw2); clear hw2))
   go_ret
   exact ⟨rfl, HFA.out.then1 HW2.out⟩
 have hes : es = [] := List.eq_nil_of_length_eq_zero he0
 have HRT := Lib.hid hc.tree
 have HRC := Lib.hid hc.ctx
 have HDO := Lib.hid (rightT_dots hc.tree)
 have HOR := Lib.hid hn.own_right
 have HMR := Lib.hid (right_full (v := setF (vecF v0 v1 v2 v3) dc la) fun d h0 h4 => (hn.may_set (x := la) (by have := hn.2.2.1; have := hn.2.2.2.1; omega) hn.2.2.2.2.1 d h0 h4).2)
 have hp1 : ∀ d, OfC (dotsT es ks) d → tf (RightC d ∧ RightC [(dc, af + 1, la)] ∧ LeqC d [(dc, af + 1, la)]) = tf (DotsLeq (dotsT es ks) [(dc, af + 1, la)]) := fun d hd => tf_congr ⟨fun h => (hd.leq HDO.out).1 h.2.2, fun h => ⟨hd.right, HOR.out, (hd.leq HDO.out).2 h⟩⟩
 have hp2 : tf (RightC [(dc, af + 1, la)] ∧ RightC c ∧ LeqC [(dc, af + 1, la)] c) = tf (LeqC [(dc, af + 1, la)] c) := tf_congr ⟨fun h => h.2.2, fun h => ⟨HOR.out, HRC.out, h⟩⟩
 have hp3 : tf (RightC c ∧ RightC (fullL (setF (vecF v0 v1 v2 v3) dc la)) ∧ LeqC c (fullL (setF (vecF v0 v1 v2 v3) dc la))) = tf (LeqC c (fullL (setF (vecF v0 v1 v2 v3) dc la))) := tf_congr ⟨fun h => h.2.2, fun h => ⟨HRC.out, HMR.out, h⟩⟩
 have HP1 := Lib.hid hp1; clear hp1
 have HP2 := Lib.hid hp2; clear hp2
 have HP3 := Lib.hid hp3; clear hp3
 have hall : tf (BunRight dc af la (vecF v0 v1 v2 v3) es ks c) = (tf (DotsLeq (dotsT es ks) [(dc, af + 1, la)]) && (tf (LeqC [(dc, af + 1, la)] c) && tf (LeqC c (fullL (setF (vecF v0 v1 v2 v3) dc la))))) := by
  rw [Bool.eq_iff_iff]
  simp only [Bool.and_eq_true, tf_iff]
  exact ⟨fun h => ⟨h.mine, h.own, h.may⟩, fun h => ⟨hn, hc.tree, hc.ctx, hc.dots, hes, h.1, h.2.1, h.2.2⟩⟩
 rw [hall]
 have HNN := Lib.hid hn
 have HCL := Lib.hid hcl
 clear hall hn hc hes hcl
 generalize tf (LeqC c (fullL (setF (vecF v0 v1 v2 v3) dc la))) = b3 at *
 generalize setF (vecF v0 v1 v2 v3) dc la = g at *
 generalize tf (LeqC [(dc, af + 1, la)] c) = b2 at *
 generalize tf (DotsLeq (dotsT es ks) [(dc, af + 1, la)]) = b1 at *
 generalize hel : es.length = n at *
 subst he0
 have HEL := Lib.hid hel; clear hel
 generalize ks.len = m at *
 generalize hck : c.length = k at *
 have HCK := Lib.hid hck; clear hck
 cases b1 with
 | false =>
  go_enter Tryz.func34, Tryz.ntmps34
  go_wp2_with (first
   | (go_at_call 85; refine (HNM.out _).mono ?_; rintro e w1 ⟨rfl, hw1⟩; obtain ⟨y0, y1, y2, y3, y4, y5, y6, y7, y8, y9⟩ := HBX.out w1 hw1; have HW1 := Lib.hid hw1; clear hw1)
   | (go_at_call 79; refine (HCR.out _ (HFA.out.then1 HW1.out)).mono ?_; rintro e w2 ⟨rfl, hw2⟩; clear y0 y1 y2 y3 y4 y5 y6 y7 y8 y9; obtain ⟨y0, y1, y2, y3, y4, y5, y6, y7, y8, y9⟩ := HBX.out w2 (HW1.out.then1 hw2); have HW2 := Lib.hid (HW1.out.then1 hw2); clear hw2)
   | (go_at_call 86; refine (HDT.out _ (HFA.out.then1 HW2.out)).mono ?_; rintro e w3 ⟨hf3, hd3, -⟩; obtain ⟨v3', d, rfl, ho3, hof, hl3⟩ := hd3 HRT.out; clear hd3; obtain ⟨a3, c3, rfl⟩ := ho3.shape; clear y0 y1 y2 y3 y4 y5 y6 y7 y8 y9; obtain ⟨y0, y1, y2, y3, y4, y5, y6, y7, y8, y9⟩ := HBX.out w3 (HW2.out.then1 hf3); have HW3 := Lib.hid (HW2.out.then1 hf3); clear hf3; have HO3 := Lib.hid ho3; clear ho3; have HOF := Lib.hid hof; clear hof; have HL3 := Lib.hid hl3; clear hl3))
  refine wp_region_G (S := fun w' => w'.cell? ⟨w.heap.size, 0, none⟩ = some (.int .i64 dc) ∧ w'.cell? ⟨w.heap.size, 1, none⟩ = some (.int .i64 af) ∧ w'.cell? ⟨w.heap.size, 2, none⟩ = some (.int .i64 la) ∧ w'.cell? ⟨w.heap.size, 3, none⟩ = some (.int .i64 v0) ∧ w'.cell? ⟨w.heap.size, 4, none⟩ = some (.int .i64 v1) ∧ w'.cell? ⟨w.heap.size, 5, none⟩ = some (.int .i64 v2) ∧ w'.cell? ⟨w.heap.size, 6, none⟩ = some (.int .i64 v3) ∧ w'.cell? ⟨w.heap.size, 7, none⟩ = some (.slice a0 0 c0) ∧ w'.cell? ⟨w.heap.size, 8, none⟩ = some (.slice a1 m c1) ∧ w'.cell? ⟨w.heap.size, 9, none⟩ = some (.slice a2 k c2)) 20 (by kernel_rfl) ⟨y0, y1, y2, y3, y4, y5, y6, y7, y8, y9⟩ ?_
  intro hS
  have HKS := Lib.hid (fun Y Y' (f : Frm NoS Y Y') (hS : Y.cell? ⟨w.heap.size, 0, none⟩ = some (.int .i64 dc) ∧ Y.cell? ⟨w.heap.size, 1, none⟩ = some (.int .i64 af) ∧ Y.cell? ⟨w.heap.size, 2, none⟩ = some (.int .i64 la) ∧ Y.cell? ⟨w.heap.size, 3, none⟩ = some (.int .i64 v0) ∧ Y.cell? ⟨w.heap.size, 4, none⟩ = some (.int .i64 v1) ∧ Y.cell? ⟨w.heap.size, 5, none⟩ = some (.int .i64 v2) ∧ Y.cell? ⟨w.heap.size, 6, none⟩ = some (.int .i64 v3) ∧ Y.cell? ⟨w.heap.size, 7, none⟩ = some (.slice a0 0 c0) ∧ Y.cell? ⟨w.heap.size, 8, none⟩ = some (.slice a1 m c1) ∧ Y.cell? ⟨w.heap.size, 9, none⟩ = some (.slice a2 k c2)) => (⟨f.cell' hS.1 id, f.cell' hS.2.1 id, f.cell' hS.2.2.1 id, f.cell' hS.2.2.2.1 id, f.cell' hS.2.2.2.2.1 id, f.cell' hS.2.2.2.2.2.1 id, f.cell' hS.2.2.2.2.2.2.1 id, f.cell' hS.2.2.2.2.2.2.2.1 id, f.cell' hS.2.2.2.2.2.2.2.2.1 id, f.cell' hS.2.2.2.2.2.2.2.2.2 id⟩ : Y'.cell? ⟨w.heap.size, 0, none⟩ = some (.int .i64 dc) ∧ Y'.cell? ⟨w.heap.size, 1, none⟩ = some (.int .i64 af) ∧ Y'.cell? ⟨w.heap.size, 2, none⟩ = some (.int .i64 la) ∧ Y'.cell? ⟨w.heap.size, 3, none⟩ = some (.int .i64 v0) ∧ Y'.cell? ⟨w.heap.size, 4, none⟩ = some (.int .i64 v1) ∧ Y'.cell? ⟨w.heap.size, 5, none⟩ = some (.int .i64 v2) ∧ Y'.cell? ⟨w.heap.size, 6, none⟩ = some (.int .i64 v3) ∧ Y'.cell? ⟨w.heap.size, 7, none⟩ = some (.slice a0 0 c0) ∧ Y'.cell? ⟨w.heap.size, 8, none⟩ = some (.slice a1 m c1) ∧ Y'.cell? ⟨w.heap.size, 9, none⟩ = some (.slice a2 k c2)))
  have HFY := Lib.hid ((HFA.out.then1 HW3.out).then1 (Frm.drew NoS w3))
  have HDY := Lib.hid (HO3.out.rd.keep0 (Frm.drew NoS w3))
  clear y0 y1 y2 y3 y4 y5 y6 y7 y8 y9 HW3 HO3
  generalize w3.drew = Y at *
  refine tkG 0 29 rfl rfl (v := ?_) (.inl ⟨by rfl, ?_⟩) ?_
  rotate_left 1
  · (intro w hSw; (try dsimp only at hSw); go_simp; (try with_reducible rfl))
  refine tkG 1 30 rfl rfl (v := ?_) (.inl ⟨by rfl, ?_⟩) ?_
  rotate_left 1
  · (intro w hSw; (try dsimp only at hSw); go_simp; (try with_reducible rfl))
  try simp only [Act.put, List.setIfInBounds_toArray, List.set_cons_zero, List.set_cons_succ]
  refine one_opG (i := 2) (by kernel_rfl) rfl (fun K hK => ?_)
  go_simp
  refine (HOW.out _ HNN.out).mono ?_
  rintro e Y1 ⟨v1', rfl, hc1, hf1⟩; obtain ⟨b1a, b1c, rfl⟩ : ∃ a c, v1' = .slice a 1 c := Rd.sl hc1
  have hS := HKS.out _ _ hf1 hS
  refine hK.out _ _ hS ?_
  clear hK K
  have HF1 := Lib.hid (HFY.out.then1 hf1); have HD1 := Lib.hid (HDY.out.keep0 hf1); have HC1 := Lib.hid hc1; clear hc1 hf1
  try simp only [Act.put, List.setIfInBounds_toArray, List.set_cons_zero, List.set_cons_succ]
  refine one_opG (i := 3) (by kernel_rfl) rfl (fun K hK => ?_)
  go_simp
  refine (HL0.out _ _ _ d _ HD1.out HC1.out HOF.out.right.fits HOR.out.fits (by have := HL3.out; omega) (by simp)).mono ?_
  rintro e Y2 ⟨rfl, hf2⟩; rw [HP1.out d HOF.out]
  have hS := HKS.out _ _ hf2 hS
  refine hK.out _ _ hS ?_
  clear hK K
  have HF2 := Lib.hid (HF1.out.then1 hf2); clear hf2
  try simp only [Act.put, List.setIfInBounds_toArray, List.set_cons_zero, List.set_cons_succ]
  refine tkG 4 33 rfl rfl (v := ?_) (.inl ⟨by rfl, ?_⟩) ?_
  rotate_left 1
  · (intro w hSw; (try dsimp only at hSw); go_simp; (try with_reducible rfl))
  refine tkS 5 34 rfl rfl ?_
  try simp only [Act.put, List.setIfInBounds_toArray, List.set_cons_zero, List.set_cons_succ]
  refine tkS 6 35 rfl rfl ?_
  refine tkS 7 36 rfl rfl ?_
  try simp only [Act.put, List.setIfInBounds_toArray, List.set_cons_zero, List.set_cons_succ]
  refine tkS 8 37 rfl rfl ?_
  refine tkS 9 38 rfl rfl ?_
  try simp only [Act.put, List.setIfInBounds_toArray, List.set_cons_zero, List.set_cons_succ]
  refine tkS 10 39 rfl rfl ?_
  refine tkG 11 40 rfl rfl (v := ?_) (.inl ⟨by rfl, ?_⟩) ?_
  rotate_left 1
  · (intro w hSw; (try dsimp only at hSw); go_simp; (try with_reducible rfl))
  try simp only [Act.put, List.setIfInBounds_toArray, List.set_cons_zero, List.set_cons_succ]
  refine tkG 12 41 rfl rfl (v := ?_) (.inl ⟨by rfl, ?_⟩) ?_
  rotate_left 1
  · (intro w hSw; (try dsimp only at hSw); go_simp; (try with_reducible rfl))
  refine tkS 13 42 rfl rfl ?_
  try simp only [Act.put, List.setIfInBounds_toArray, List.set_cons_zero, List.set_cons_succ]
  refine tkS 14 43 rfl rfl ?_
  refine tkS 15 44 rfl rfl ?_
  try simp only [Act.put, List.setIfInBounds_toArray, List.set_cons_zero, List.set_cons_succ]
  refine tkS 16 45 rfl rfl ?_
  refine tkS 17 46 rfl rfl ?_
  try simp only [Act.put, List.setIfInBounds_toArray, List.set_cons_zero, List.set_cons_succ]
  refine tkS 18 47 rfl rfl ?_
  refine tkG 19 48 rfl rfl (v := ?_) (.inl ⟨by rfl, ?_⟩) ?_
  rotate_left 1
  · (intro w hSw; (try dsimp only at hSw); go_simp; (try with_reducible rfl))
  try simp only [Act.put, List.setIfInBounds_toArray, List.set_cons_zero, List.set_cons_succ]
  refine last_opG (by kernel_rfl) (by kernel_rfl) rfl (fun K hK => ?_)
  go_simp
  refine hK.out _ _ ?_
  clear hK K hS
  go_wp2
  go_ret
  exact ⟨rfl, HF2.out⟩
 | true =>
  cases b2 with
  | false =>
   go_enter Tryz.func34, Tryz.ntmps34
   go_wp2_with (first
    | (go_at_call 85; refine (HNM.out _).mono ?_; rintro e w1 ⟨rfl, hw1⟩; obtain ⟨y0, y1, y2, y3, y4, y5, y6, y7, y8, y9⟩ := HBX.out w1 hw1; have HW1 := Lib.hid hw1; clear hw1)
    | (go_at_call 79; refine (HCR.out _ (HFA.out.then1 HW1.out)).mono ?_; rintro e w2 ⟨rfl, hw2⟩; clear y0 y1 y2 y3 y4 y5 y6 y7 y8 y9; obtain ⟨y0, y1, y2, y3, y4, y5, y6, y7, y8, y9⟩ := HBX.out w2 (HW1.out.then1 hw2); have HW2 := Lib.hid (HW1.out.then1 hw2); clear hw2)
    | (go_at_call 86; refine (HDT.out _ (HFA.out.then1 HW2.out)).mono ?_; rintro e w3 ⟨hf3, hd3, -⟩; obtain ⟨v3', d, rfl, ho3, hof, hl3⟩ := hd3 HRT.out; clear hd3; obtain ⟨a3, c3, rfl⟩ := ho3.shape; clear y0 y1 y2 y3 y4 y5 y6 y7 y8 y9; obtain ⟨y0, y1, y2, y3, y4, y5, y6, y7, y8, y9⟩ := HBX.out w3 (HW2.out.then1 hf3); have HW3 := Lib.hid (HW2.out.then1 hf3); clear hf3; have HO3 := Lib.hid ho3; clear ho3; have HOF := Lib.hid hof; clear hof; have HL3 := Lib.hid hl3; clear hl3))
   refine wp_region_G (S := fun w' => w'.cell? ⟨w.heap.size, 0, none⟩ = some (.int .i64 dc) ∧ w'.cell? ⟨w.heap.size, 1, none⟩ = some (.int .i64 af) ∧ w'.cell? ⟨w.heap.size, 2, none⟩ = some (.int .i64 la) ∧ w'.cell? ⟨w.heap.size, 3, none⟩ = some (.int .i64 v0) ∧ w'.cell? ⟨w.heap.size, 4, none⟩ = some (.int .i64 v1) ∧ w'.cell? ⟨w.heap.size, 5, none⟩ = some (.int .i64 v2) ∧ w'.cell? ⟨w.heap.size, 6, none⟩ = some (.int .i64 v3) ∧ w'.cell? ⟨w.heap.size, 7, none⟩ = some (.slice a0 0 c0) ∧ w'.cell? ⟨w.heap.size, 8, none⟩ = some (.slice a1 m c1) ∧ w'.cell? ⟨w.heap.size, 9, none⟩ = some (.slice a2 k c2)) 20 (by kernel_rfl) ⟨y0, y1, y2, y3, y4, y5, y6, y7, y8, y9⟩ ?_
   intro hS
   have HKS := Lib.hid (fun Y Y' (f : Frm NoS Y Y') (hS : Y.cell? ⟨w.heap.size, 0, none⟩ = some (.int .i64 dc) ∧ Y.cell? ⟨w.heap.size, 1, none⟩ = some (.int .i64 af) ∧ Y.cell? ⟨w.heap.size, 2, none⟩ = some (.int .i64 la) ∧ Y.cell? ⟨w.heap.size, 3, none⟩ = some (.int .i64 v0) ∧ Y.cell? ⟨w.heap.size, 4, none⟩ = some (.int .i64 v1) ∧ Y.cell? ⟨w.heap.size, 5, none⟩ = some (.int .i64 v2) ∧ Y.cell? ⟨w.heap.size, 6, none⟩ = some (.int .i64 v3) ∧ Y.cell? ⟨w.heap.size, 7, none⟩ = some (.slice a0 0 c0) ∧ Y.cell? ⟨w.heap.size, 8, none⟩ = some (.slice a1 m c1) ∧ Y.cell? ⟨w.heap.size, 9, none⟩ = some (.slice a2 k c2)) => (⟨f.cell' hS.1 id, f.cell' hS.2.1 id, f.cell' hS.2.2.1 id, f.cell' hS.2.2.2.1 id, f.cell' hS.2.2.2.2.1 id, f.cell' hS.2.2.2.2.2.1 id, f.cell' hS.2.2.2.2.2.2.1 id, f.cell' hS.2.2.2.2.2.2.2.1 id, f.cell' hS.2.2.2.2.2.2.2.2.1 id, f.cell' hS.2.2.2.2.2.2.2.2.2 id⟩ : Y'.cell? ⟨w.heap.size, 0, none⟩ = some (.int .i64 dc) ∧ Y'.cell? ⟨w.heap.size, 1, none⟩ = some (.int .i64 af) ∧ Y'.cell? ⟨w.heap.size, 2, none⟩ = some (.int .i64 la) ∧ Y'.cell? ⟨w.heap.size, 3, none⟩ = some (.int .i64 v0) ∧ Y'.cell? ⟨w.heap.size, 4, none⟩ = some (.int .i64 v1) ∧ Y'.cell? ⟨w.heap.size, 5, none⟩ = some (.int .i64 v2) ∧ Y'.cell? ⟨w.heap.size, 6, none⟩ = some (.int .i64 v3) ∧ Y'.cell? ⟨w.heap.size, 7, none⟩ = some (.slice a0 0 c0) ∧ Y'.cell? ⟨w.heap.size, 8, none⟩ = some (.slice a1 m c1) ∧ Y'.cell? ⟨w.heap.size, 9, none⟩ = some (.slice a2 k c2)))
   have HFY := Lib.hid ((HFA.out.then1 HW3.out).then1 (Frm.drew NoS w3))
   have HDY := Lib.hid (HO3.out.rd.keep0 (Frm.drew NoS w3))
   clear y0 y1 y2 y3 y4 y5 y6 y7 y8 y9 HW3 HO3
   generalize w3.drew = Y at *
   refine tkG 0 29 rfl rfl (v := ?_) (.inl ⟨by rfl, ?_⟩) ?_
   rotate_left 1
   · (intro w hSw; (try dsimp only at hSw); go_simp; (try with_reducible rfl))
   refine tkG 1 30 rfl rfl (v := ?_) (.inl ⟨by rfl, ?_⟩) ?_
   rotate_left 1
   · (intro w hSw; (try dsimp only at hSw); go_simp; (try with_reducible rfl))
   try simp only [Act.put, List.setIfInBounds_toArray, List.set_cons_zero, List.set_cons_succ]
   refine one_opG (i := 2) (by kernel_rfl) rfl (fun K hK => ?_)
   go_simp
   refine (HOW.out _ HNN.out).mono ?_
   rintro e Y1 ⟨v1', rfl, hc1, hf1⟩; obtain ⟨b1a, b1c, rfl⟩ : ∃ a c, v1' = .slice a 1 c := Rd.sl hc1
   have hS := HKS.out _ _ hf1 hS
   refine hK.out _ _ hS ?_
   clear hK K
   have HF1 := Lib.hid (HFY.out.then1 hf1); have HD1 := Lib.hid (HDY.out.keep0 hf1); have HC1 := Lib.hid hc1; clear hc1 hf1
   try simp only [Act.put, List.setIfInBounds_toArray, List.set_cons_zero, List.set_cons_succ]
   refine one_opG (i := 3) (by kernel_rfl) rfl (fun K hK => ?_)
   go_simp
   refine (HL0.out _ _ _ d _ HD1.out HC1.out HOF.out.right.fits HOR.out.fits (by have := HL3.out; omega) (by simp)).mono ?_
   rintro e Y2 ⟨rfl, hf2⟩; rw [HP1.out d HOF.out]
   have hS := HKS.out _ _ hf2 hS
   refine hK.out _ _ hS ?_
   clear hK K
   have HF2 := Lib.hid (HF1.out.then1 hf2); clear hf2
   try simp only [Act.put, List.setIfInBounds_toArray, List.set_cons_zero, List.set_cons_succ]
   refine tkG 4 33 rfl rfl (v := ?_) (.inl ⟨by rfl, ?_⟩) ?_
   rotate_left 1
   · (intro w hSw; (try dsimp only at hSw); go_simp; (try with_reducible rfl))
   refine tkG 5 34 rfl rfl (v := ?_) (.inl ⟨by rfl, ?_⟩) ?_
   rotate_left 1
   · (intro w hSw; (try dsimp only at hSw); go_simp; (try with_reducible rfl))
   try simp only [Act.put, List.setIfInBounds_toArray, List.set_cons_zero, List.set_cons_succ]
   refine tkG 7 36 rfl rfl (v := ?_) (.inl ⟨by rfl, ?_⟩) ?_
   rotate_left 1
   · (intro w hSw; (try dsimp only at hSw); go_simp; (try with_reducible rfl))
   refine tkG 8 37 rfl rfl (v := ?_) (.inl ⟨by rfl, ?_⟩) ?_
   rotate_left 1
   · (intro w hSw; (try dsimp only at hSw); go_simp; (try with_reducible rfl))
   try simp only [Act.put, List.setIfInBounds_toArray, List.set_cons_zero, List.set_cons_succ]
   refine tkG 9 38 rfl rfl (v := ?_) (.inl ⟨by rfl, ?_⟩) ?_
   rotate_left 1
   · (intro w hSw; (try dsimp only at hSw); go_simp; (try with_reducible rfl))
   try simp only [Act.put, List.setIfInBounds_toArray, List.set_cons_zero, List.set_cons_succ]
   refine one_opG (i := 6) (by kernel_rfl) rfl (fun K hK => ?_)
   go_simp
   refine (HOW.out _ HNN.out).mono ?_
   rintro e Y3 ⟨v3', rfl, hc3, hf3⟩; obtain ⟨b3a, b3c, rfl⟩ : ∃ a c, v3' = .slice a 1 c := Rd.sl hc3
   have hS := HKS.out _ _ hf3 hS
   refine hK.out _ _ hS ?_
   clear hK K
   have HF3 := Lib.hid (HF2.out.then1 hf3); have HC3 := Lib.hid hc3; clear hc3 hf3
   try simp only [Act.put, List.setIfInBounds_toArray, List.set_cons_zero, List.set_cons_succ]
   refine one_opG (i := 10) (by kernel_rfl) rfl (fun K hK => ?_)
   go_simp
   refine (HL0.out _ _ _ _ c HC3.out (HCX.out _ HF3.out) HOR.out.fits HCF.out (by simp) (by have := HCL.out; have := HCK.out; omega)).mono ?_
   rintro e Y4 ⟨rfl, hf4⟩; rw [HP2.out]
   have hS := HKS.out _ _ hf4 hS
   refine hK.out _ _ hS ?_
   clear hK K
   have HF4 := Lib.hid (HF3.out.then1 hf4); clear hf4
   try simp only [Act.put, List.setIfInBounds_toArray, List.set_cons_zero, List.set_cons_succ]
   refine tkG 11 40 rfl rfl (v := ?_) (.inl ⟨by rfl, ?_⟩) ?_
   rotate_left 1
   · (intro w hSw; (try dsimp only at hSw); go_simp; (try with_reducible rfl))
   refine tkG 12 41 rfl rfl (v := ?_) (.inl ⟨by rfl, ?_⟩) ?_
   rotate_left 1
   · (intro w hSw; (try dsimp only at hSw); go_simp; (try with_reducible rfl))
   try simp only [Act.put, List.setIfInBounds_toArray, List.set_cons_zero, List.set_cons_succ]
   refine tkS 13 42 rfl rfl ?_
   refine tkS 14 43 rfl rfl ?_
   try simp only [Act.put, List.setIfInBounds_toArray, List.set_cons_zero, List.set_cons_succ]
   refine tkS 15 44 rfl rfl ?_
   refine tkS 16 45 rfl rfl ?_
   try simp only [Act.put, List.setIfInBounds_toArray, List.set_cons_zero, List.set_cons_succ]
   refine tkS 17 46 rfl rfl ?_
   refine tkS 18 47 rfl rfl ?_
   try simp only [Act.put, List.setIfInBounds_toArray, List.set_cons_zero, List.set_cons_succ]
   refine tkG 19 48 rfl rfl (v := ?_) (.inl ⟨by rfl, ?_⟩) ?_
   rotate_left 1
   · (intro w hSw; (try dsimp only at hSw); go_simp; (try with_reducible rfl))
   try simp only [Act.put, List.setIfInBounds_toArray, List.set_cons_zero, List.set_cons_succ]
   refine last_opG (by kernel_rfl) (by kernel_rfl) rfl (fun K hK => ?_)
   go_simp
   refine hK.out _ _ ?_
   clear hK K hS
   go_wp2
   go_ret
   exact ⟨rfl, HF4.out⟩
  | true =>
   go_enter Tryz.func34, Tryz.ntmps34
   go_wp2_with (first
    | (go_at_call 85; refine (HNM.out _).mono ?_; rintro e w1 ⟨rfl, hw1⟩; obtain ⟨y0, y1, y2, y3, y4, y5, y6, y7, y8, y9⟩ := HBX.out w1 hw1; have HW1 := Lib.hid hw1; clear hw1)
    | (go_at_call 79; refine (HCR.out _ (HFA.out.then1 HW1.out)).mono ?_; rintro e w2 ⟨rfl, hw2⟩; clear y0 y1 y2 y3 y4 y5 y6 y7 y8 y9; obtain ⟨y0, y1, y2, y3, y4, y5, y6, y7, y8, y9⟩ := HBX.out w2 (HW1.out.then1 hw2); have HW2 := Lib.hid (HW1.out.then1 hw2); clear hw2)
    | (go_at_call 86; refine (HDT.out _ (HFA.out.then1 HW2.out)).mono ?_; rintro e w3 ⟨hf3, hd3, -⟩; obtain ⟨v3', d, rfl, ho3, hof, hl3⟩ := hd3 HRT.out; clear hd3; obtain ⟨a3, c3, rfl⟩ := ho3.shape; clear y0 y1 y2 y3 y4 y5 y6 y7 y8 y9; obtain ⟨y0, y1, y2, y3, y4, y5, y6, y7, y8, y9⟩ := HBX.out w3 (HW2.out.then1 hf3); have HW3 := Lib.hid (HW2.out.then1 hf3); clear hf3; have HO3 := Lib.hid ho3; clear ho3; have HOF := Lib.hid hof; clear hof; have HL3 := Lib.hid hl3; clear hl3))
   refine wp_region_G (S := fun w' => w'.cell? ⟨w.heap.size, 0, none⟩ = some (.int .i64 dc) ∧ w'.cell? ⟨w.heap.size, 1, none⟩ = some (.int .i64 af) ∧ w'.cell? ⟨w.heap.size, 2, none⟩ = some (.int .i64 la) ∧ w'.cell? ⟨w.heap.size, 3, none⟩ = some (.int .i64 v0) ∧ w'.cell? ⟨w.heap.size, 4, none⟩ = some (.int .i64 v1) ∧ w'.cell? ⟨w.heap.size, 5, none⟩ = some (.int .i64 v2) ∧ w'.cell? ⟨w.heap.size, 6, none⟩ = some (.int .i64 v3) ∧ w'.cell? ⟨w.heap.size, 7, none⟩ = some (.slice a0 0 c0) ∧ w'.cell? ⟨w.heap.size, 8, none⟩ = some (.slice a1 m c1) ∧ w'.cell? ⟨w.heap.size, 9, none⟩ = some (.slice a2 k c2)) 20 (by kernel_rfl) ⟨y0, y1, y2, y3, y4, y5, y6, y7, y8, y9⟩ ?_
   intro hS
   have HKS := Lib.hid (fun Y Y' (f : Frm NoS Y Y') (hS : Y.cell? ⟨w.heap.size, 0, none⟩ = some (.int .i64 dc) ∧ Y.cell? ⟨w.heap.size, 1, none⟩ = some (.int .i64 af) ∧ Y.cell? ⟨w.heap.size, 2, none⟩ = some (.int .i64 la) ∧ Y.cell? ⟨w.heap.size, 3, none⟩ = some (.int .i64 v0) ∧ Y.cell? ⟨w.heap.size, 4, none⟩ = some (.int .i64 v1) ∧ Y.cell? ⟨w.heap.size, 5, none⟩ = some (.int .i64 v2) ∧ Y.cell? ⟨w.heap.size, 6, none⟩ = some (.int .i64 v3) ∧ Y.cell? ⟨w.heap.size, 7, none⟩ = some (.slice a0 0 c0) ∧ Y.cell? ⟨w.heap.size, 8, none⟩ = some (.slice a1 m c1) ∧ Y.cell? ⟨w.heap.size, 9, none⟩ = some (.slice a2 k c2)) => (⟨f.cell' hS.1 id, f.cell' hS.2.1 id, f.cell' hS.2.2.1 id, f.cell' hS.2.2.2.1 id, f.cell' hS.2.2.2.2.1 id, f.cell' hS.2.2.2.2.2.1 id, f.cell' hS.2.2.2.2.2.2.1 id, f.cell' hS.2.2.2.2.2.2.2.1 id, f.cell' hS.2.2.2.2.2.2.2.2.1 id, f.cell' hS.2.2.2.2.2.2.2.2.2 id⟩ : Y'.cell? ⟨w.heap.size, 0, none⟩ = some (.int .i64 dc) ∧ Y'.cell? ⟨w.heap.size, 1, none⟩ = some (.int .i64 af) ∧ Y'.cell? ⟨w.heap.size, 2, none⟩ = some (.int .i64 la) ∧ Y'.cell? ⟨w.heap.size, 3, none⟩ = some (.int .i64 v0) ∧ Y'.cell? ⟨w.heap.size, 4, none⟩ = some (.int .i64 v1) ∧ Y'.cell? ⟨w.heap.size, 5, none⟩ = some (.int .i64 v2) ∧ Y'.cell? ⟨w.heap.size, 6, none⟩ = some (.int .i64 v3) ∧ Y'.cell? ⟨w.heap.size, 7, none⟩ = some (.slice a0 0 c0) ∧ Y'.cell? ⟨w.heap.size, 8, none⟩ = some (.slice a1 m c1) ∧ Y'.cell? ⟨w.heap.size, 9, none⟩ = some (.slice a2 k c2)))
   have HFY := Lib.hid ((HFA.out.then1 HW3.out).then1 (Frm.drew NoS w3))
   have HDY := Lib.hid (HO3.out.rd.keep0 (Frm.drew NoS w3))
   clear y0 y1 y2 y3 y4 y5 y6 y7 y8 y9 HW3 HO3
   generalize w3.drew = Y at *
   refine tkG 0 29 rfl rfl (v := ?_) (.inl ⟨by rfl, ?_⟩) ?_
   rotate_left 1
   · (intro w hSw; (try dsimp only at hSw); go_simp; (try with_reducible rfl))
   refine tkG 1 30 rfl rfl (v := ?_) (.inl ⟨by rfl, ?_⟩) ?_
   rotate_left 1
   · (intro w hSw; (try dsimp only at hSw); go_simp; (try with_reducible rfl))
   try simp only [Act.put, List.setIfInBounds_toArray, List.set_cons_zero, List.set_cons_succ]
   refine one_opG (i := 2) (by kernel_rfl) rfl (fun K hK => ?_)
   go_simp
   refine (HOW.out _ HNN.out).mono ?_
   rintro e Y1 ⟨v1', rfl, hc1, hf1⟩; obtain ⟨b1a, b1c, rfl⟩ : ∃ a c, v1' = .slice a 1 c := Rd.sl hc1
   have hS := HKS.out _ _ hf1 hS
   refine hK.out _ _ hS ?_
   clear hK K
   have HF1 := Lib.hid (HFY.out.then1 hf1); have HD1 := Lib.hid (HDY.out.keep0 hf1); have HC1 := Lib.hid hc1; clear hc1 hf1
   try simp only [Act.put, List.setIfInBounds_toArray, List.set_cons_zero, List.set_cons_succ]
   refine one_opG (i := 3) (by kernel_rfl) rfl (fun K hK => ?_)
   go_simp
   refine (HL0.out _ _ _ d _ HD1.out HC1.out HOF.out.right.fits HOR.out.fits (by have := HL3.out; omega) (by simp)).mono ?_
   rintro e Y2 ⟨rfl, hf2⟩; rw [HP1.out d HOF.out]
   have hS := HKS.out _ _ hf2 hS
   refine hK.out _ _ hS ?_
   clear hK K
   have HF2 := Lib.hid (HF1.out.then1 hf2); clear hf2
   try simp only [Act.put, List.setIfInBounds_toArray, List.set_cons_zero, List.set_cons_succ]
   refine tkG 4 33 rfl rfl (v := ?_) (.inl ⟨by rfl, ?_⟩) ?_
   rotate_left 1
   · (intro w hSw; (try dsimp only at hSw); go_simp; (try with_reducible rfl))
   refine tkG 5 34 rfl rfl (v := ?_) (.inl ⟨by rfl, ?_⟩) ?_
   rotate_left 1
   · (intro w hSw; (try dsimp only at hSw); go_simp; (try with_reducible rfl))
   try simp only [Act.put, List.setIfInBounds_toArray, List.set_cons_zero, List.set_cons_succ]
   refine tkG 7 36 rfl rfl (v := ?_) (.inl ⟨by rfl, ?_⟩) ?_
   rotate_left 1
   · (intro w hSw; (try dsimp only at hSw); go_simp; (try with_reducible rfl))
   refine tkG 8 37 rfl rfl (v := ?_) (.inl ⟨by rfl, ?_⟩) ?_
   rotate_left 1
   · (intro w hSw; (try dsimp only at hSw); go_simp; (try with_reducible rfl))
   try simp only [Act.put, List.setIfInBounds_toArray, List.set_cons_zero, List.set_cons_succ]
   refine tkG 9 38 rfl rfl (v := ?_) (.inl ⟨by rfl, ?_⟩) ?_
   rotate_left 1
   · (intro w hSw; (try dsimp only at hSw); go_simp; (try with_reducible rfl))
   try simp only [Act.put, List.setIfInBounds_toArray, List.set_cons_zero, List.set_cons_succ]
   refine one_opG (i := 6) (by kernel_rfl) rfl (fun K hK => ?_)
   go_simp
   refine (HOW.out _ HNN.out).mono ?_
   rintro e Y3 ⟨v3', rfl, hc3, hf3⟩; obtain ⟨b3a, b3c, rfl⟩ : ∃ a c, v3' = .slice a 1 c := Rd.sl hc3
   have hS := HKS.out _ _ hf3 hS
   refine hK.out _ _ hS ?_
   clear hK K
   have HF3 := Lib.hid (HF2.out.then1 hf3); have HC3 := Lib.hid hc3; clear hc3 hf3
   try simp only [Act.put, List.setIfInBounds_toArray, List.set_cons_zero, List.set_cons_succ]
   refine one_opG (i := 10) (by kernel_rfl) rfl (fun K hK => ?_)
   go_simp
   refine (HL0.out _ _ _ _ c HC3.out (HCX.out _ HF3.out) HOR.out.fits HCF.out (by simp) (by have := HCL.out; have := HCK.out; omega)).mono ?_
   rintro e Y4 ⟨rfl, hf4⟩; rw [HP2.out]
   have hS := HKS.out _ _ hf4 hS
   refine hK.out _ _ hS ?_
   clear hK K
   have HF4 := Lib.hid (HF3.out.then1 hf4); clear hf4
   try simp only [Act.put, List.setIfInBounds_toArray, List.set_cons_zero, List.set_cons_succ]
   refine tkG 11 40 rfl rfl (v := ?_) (.inl ⟨by rfl, ?_⟩) ?_
   rotate_left 1
   · (intro w hSw; (try dsimp only at hSw); go_simp; (try with_reducible rfl))
   refine tkG 12 41 rfl rfl (v := ?_) (.inl ⟨by rfl, ?_⟩) ?_
   rotate_left 1
   · (intro w hSw; (try dsimp only at hSw); go_simp; (try with_reducible rfl))
   try simp only [Act.put, List.setIfInBounds_toArray, List.set_cons_zero, List.set_cons_succ]
   refine tkG 13 42 rfl rfl (v := ?_) (.inl ⟨by rfl, ?_⟩) ?_
   rotate_left 1
   · (intro w hSw; (try dsimp only at hSw); go_simp; (try with_reducible rfl))
   refine tkG 14 43 rfl rfl (v := ?_) (.inl ⟨by rfl, ?_⟩) ?_
   rotate_left 1
   · (intro w hSw; (try dsimp only at hSw); go_simp; (try with_reducible rfl))
   try simp only [Act.put, List.setIfInBounds_toArray, List.set_cons_zero, List.set_cons_succ]
   refine tkG 15 44 rfl rfl (v := ?_) (.inl ⟨by rfl, ?_⟩) ?_
   rotate_left 1
   · (intro w hSw; (try dsimp only at hSw); go_simp; (try with_reducible rfl))
   refine tkG 16 45 rfl rfl (v := ?_) (.inl ⟨by rfl, ?_⟩) ?_
   rotate_left 1
   · (intro w hSw; (try dsimp only at hSw); go_simp; (try with_reducible rfl))
   try simp only [Act.put, List.setIfInBounds_toArray, List.set_cons_zero, List.set_cons_succ]
   refine one_opG (i := 17) (by kernel_rfl) rfl (fun K hK => ?_)
   go_simp
   refine (HMA.out _ HNN.out).mono ?_
   rintro e Y5 ⟨v5', rfl, ho5, hl5⟩; obtain ⟨b5a, b5c, rfl⟩ := ho5.shape; have hf5 := ho5.frm
   have hS := HKS.out _ _ hf5 hS
   refine hK.out _ _ hS ?_
   clear hK K
   have HF5 := Lib.hid (HF4.out.then1 hf5); have HO5 := Lib.hid ho5; have HL5 := Lib.hid hl5; clear ho5 hf5 hl5
   try simp only [Act.put, List.setIfInBounds_toArray, List.set_cons_zero, List.set_cons_succ]
   refine one_opG (i := 18) (by kernel_rfl) rfl (fun K hK => ?_)
   go_simp
   refine (HL0.out _ _ _ c _ (HCX.out _ HF5.out) HO5.out.rd HCF.out HMR.out.fits (by have := HCL.out; have := HCK.out; omega) (by have := HL5.out; omega)).mono ?_
   rintro e Y6 ⟨rfl, hf6⟩; rw [HP3.out]
   have hS := HKS.out _ _ hf6 hS
   refine hK.out _ _ hS ?_
   clear hK K
   have HF6 := Lib.hid (HF5.out.then1 hf6); clear hf6
   try simp only [Act.put, List.setIfInBounds_toArray, List.set_cons_zero, List.set_cons_succ]
   refine tkG 19 48 rfl rfl (v := ?_) (.inl ⟨by rfl, ?_⟩) ?_
   rotate_left 1
   · (intro w hSw; (try dsimp only at hSw); go_simp; (try with_reducible rfl))
   try simp only [Act.put, List.setIfInBounds_toArray, List.set_cons_zero, List.set_cons_succ]
   refine last_opG (by kernel_rfl) (by kernel_rfl) rfl (fun K hK => ?_)
   go_simp
   refine hK.out _ _ ?_
   clear hK K hS
   go_wp2
   go_ret
   exact ⟨rfl, HF6.out⟩
end Go.Proofs.YtcahemkomfaabaaGreat
