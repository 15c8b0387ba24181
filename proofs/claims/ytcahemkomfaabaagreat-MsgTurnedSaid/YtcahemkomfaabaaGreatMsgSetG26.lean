/- Words for the law MsgSet: BunS. -/
import Derived.Test.YtcahemkomfaabaaGreatMsgSetG25
set_option linter.unusedSimpArgs false
set_option linter.unusedVariables false
set_option maxHeartbeats 32000000
set_option maxRecDepth 1000000
namespace Go.Proofs.YtcahemkomfaabaaGreat
open Go.RowKit
theorem vec_set (W : World) (T : TypeId) (v0 v1 v2 v3 x : Int) (dn : Nat) (h : dn < 4) :
 (∀ j : Nat, j < 4 → (W.alloc (.cells (([.int .i64 v0, .int .i64 v1, .int .i64 v2, .int .i64 v3] : List Value).set dn (.int .i64 x)).toArray T)).cell? ⟨W.heap.size, j, none⟩ = some (.int .i64 (setF (vecF v0 v1 v2 v3) dn x j))) ∧
 Frm NoS W (W.alloc (.cells (([.int .i64 v0, .int .i64 v1, .int .i64 v2, .int .i64 v3] : List Value).set dn (.int .i64 x)).toArray T)) := by
 refine ⟨fun j hj => ?_, Frm.alloc _ _ _⟩
 have h1 := heap_alloc_new W (.cells (([.int .i64 v0, .int .i64 v1, .int .i64 v2, .int .i64 v3] : List Value).set dn (.int .i64 x)).toArray T)
 rcases (by omega : dn = 0 ∨ dn = 1 ∨ dn = 2 ∨ dn = 3) with rfl | rfl | rfl | rfl <;> rcases (by omega : j = 0 ∨ j = 1 ∨ j = 2 ∨ j = 3) with rfl | rfl | rfl | rfl <;> exact cell_at' h1 _ rfl
theorem vec_cell (W : World) (T : TypeId) (v0 v1 v2 v3 : Int) (dn : Nat) (h : dn < 4) :
 (W.alloc (.cells #[.int .i64 v0, .int .i64 v1, .int .i64 v2, .int .i64 v3] T)).cell? ⟨W.heap.size, dn, none⟩ = some (.int .i64 (vecF v0 v1 v2 v3 dn)) ∧ (W.alloc (.cells #[.int .i64 v0, .int .i64 v1, .int .i64 v2, .int .i64 v3] T)).frozen? ⟨W.heap.size, dn, none⟩ = false := by
 have h1 := heap_alloc_new W (.cells #[.int .i64 v0, .int .i64 v1, .int .i64 v2, .int .i64 v3] T)
 refine ⟨?_, free_at' h1 dn⟩
 rcases (by omega : dn = 0 ∨ dn = 1 ∨ dn = 2 ∨ dn = 3) with rfl | rfl | rfl | rfl <;> exact cell_at' h1 _ rfl
theorem r22Right_any (Q : Nat → Prop) (es : List Ent) (ks : KidsL) (c : CtxL) (w : World) (dc af la v0 v1 v2 v3 : Int) (ev kv cv : Value) (h : CauAt Q w ev kv cv es ks c) (hok : CauOk es ks c) :
 Calls Tryz.prog 23 #[.agg #[.int .i64 dc, .int .i64 af, .int .i64 la, .int .i64 v0, .int .i64 v1, .int .i64 v2, .int .i64 v3, ev, kv, cv]] w fun e w' => e = .returned (.bool (tf (BunRight dc af la (vecF v0 v1 v2 v3) es ks c))) ∧ Frm NoS w w' := by
 obtain ⟨a0, c0, a1, c1, a2, c2, rfl, rfl, rfl⟩ := h.shape
 have HNM := Lib.hid (fun W => r22numbers_any W dc af la v0 v1 v2 v3 a0 a1 a2 es.length ks.len c.length c0 c1 c2)
 have HCR := Lib.hid (fun W (f : Frm NoS w W) => r9Right_any Q es ks c W _ _ _ (h.keep0 f) hok)
 have HDT := Lib.hid (fun W (f : Frm NoS w W) hd => r8Dots_any Q es ks W _ _ (h.tree.keep0 f) hok.small hd)
 have HOW := Lib.hid (fun W hn => r22own_ok W dc af la v0 v1 v2 v3 a0 a1 a2 es.length ks.len c.length c0 c1 c2 hn)
 have HCX := Lib.hid (fun W (f : Frm NoS w W) => (show CtxAt W (.slice a2 c.length c2) c from Rd.keep0 h.ctx f))
 have hcl := hok.len
 have HL0 := Lib.hid (fun W va vb a b ha hb ra rb la lb => r7Leq_any W va vb a b ha hb ra rb la lb)
 have HB0 := Lib.hid (fun W va vb a b ha hb ra rb la lb => r7By_minus W va vb a b ha hb ra rb la lb)
 clear h hok
 have HBX := Lib.hid (box10 w (.int .i64 dc) (.int .i64 af) (.int .i64 la) (.int .i64 v0) (.int .i64 v1) (.int .i64 v2) (.int .i64 v3) (.slice a0 es.length c0) (.slice a1 ks.len c1) (.slice a2 c.length c2) 60)
 have hfa : Frm NoS w (w.alloc (.cells #[.int .i64 dc, .int .i64 af, .int .i64 la, .int .i64 v0, .int .i64 v1, .int .i64 v2, .int .i64 v3, .slice a0 es.length c0, .slice a1 ks.len c1, .slice a2 c.length c2] 60)) := Frm.alloc _ _ _
 have HFA := Lib.hid hfa; clear hfa
 by_cases hn : BunNums dc af la (vecF v0 v1 v2 v3)
 rotate_left 1
 · rw [tf_false hn] at HNM
   rw [tf_false fun h => hn h.nums]
   clear hn HCR HDT HOW HCX HL0 HB0 hcl
   generalize es.length = n at *
   generalize ks.len = m at *
   generalize c.length = k at *
   go_enter Tryz.func23, Tryz.ntmps23
   go_wp2_with (go_at_call 71; refine (HNM.out _).mono ?_; rintro e w1 ⟨rfl, hw1⟩; have HW1 := Lib.hid (HFA.out.then1 hw1); clear hw1)
   go_ret
   exact ⟨rfl, HW1.out⟩
 rw [tf_true hn] at HNM
 by_cases hc : CauRight es ks c
 rotate_left 1
 · rw [tf_false hc] at HCR
   rw [tf_false fun h => hc ⟨h.tree, h.ctx, h.dots⟩]
   clear hn hc HDT HOW HCX HL0 HB0 hcl
   generalize es.length = n at *
   generalize ks.len = m at *
   generalize c.length = k at *
   go_enter Tryz.func23, Tryz.ntmps23
   go_wp2_with (first
    | (go_at_call 71; refine (HNM.out _).mono ?_; rintro e w1 ⟨rfl, hw1⟩; obtain ⟨y0, y1, y2, y3, y4, y5, y6, y7, y8, y9⟩ := HBX.out w1 hw1; have HW1 := Lib.hid (HFA.out.then1 hw1); clear hw1)
    | (go_at_call 72; refine (HCR.out _ HW1.out).mono ?_; rintro e w2 ⟨rfl, hw2⟩; have HW2 := Lib.hid (HW1.out.then1 hw2); clear hw2))
   go_ret
   exact ⟨rfl, HW2.out⟩
 rw [tf_true hc] at HCR
 rcases Nat.eq_zero_or_pos es.length with he0 | hep
 rotate_left 1
 · rw [tf_false fun h => by rw [h.bare] at hep; cases hep]
   clear hn hc HDT HOW HCX HL0 HB0 hcl
   generalize es.length = n at *
   generalize ks.len = m at *
   generalize c.length = k at *
   go_enter Tryz.func23, Tryz.ntmps23
   go_wp2_with (first
    | (go_at_call 71; refine (HNM.out _).mono ?_; rintro e w1 ⟨rfl, hw1⟩; obtain ⟨y0, y1, y2, y3, y4, y5, y6, y7, y8, y9⟩ := HBX.out w1 hw1; have HW1 := Lib.hid hw1; clear hw1)
    | (go_at_call 72; refine (HCR.out _ (HFA.out.then1 HW1.out)).mono ?_; rintro e w2 ⟨rfl, hw2⟩; clear y0 y1 y2 y3 y4 y5 y6 y7 y8 y9; obtain ⟨y0, y1, y2, y3, y4, y5, y6, y7, y8, y9⟩ := HBX.out w2 (HW1.out.then1 hw2); have HW2 := Lib.hid (HW1.out.then1 hw2); clear hw2))
   go_ret
   exact ⟨rfl, HFA.out.then1 HW2.out⟩
 have hes : es = [] := List.eq_nil_of_length_eq_zero he0
 have HRT := Lib.hid hc.tree
 have HRC := Lib.hid hc.ctx
 have HDO := Lib.hid (rightT_dots hc.tree)
 have HOR := Lib.hid hn.own_right
 have HNN := Lib.hid hn
 have hp1 : ∀ d, OfC (dotsT es ks) d → tf (LeqC d [(dc, af + 1, la)]) = tf (DotsLeq (dotsT es ks) [(dc, af + 1, la)]) := fun d hd => tf_congr (hd.leq HDO.out)
 have hp3 : ∀ q, ByC 2 c [(dc, af + 1, la)] q → tf (LeqC q (fullL (setF (vecF v0 v1 v2 v3) dc af))) = tf (LeqC c (fullL (setF (vecF v0 v1 v2 v3) dc la))) := fun q hq => tf_congr (bun_law HNN.out HRC.out hq).symm
 have hfr : RightC (fullL (setF (vecF v0 v1 v2 v3) dc af)) := right_full fun d h0 h4 => (hn.may_set (x := af) hn.2.2.1 (by have := hn.2.2.2.1; have := hn.2.2.2.2.1; omega) d h0 h4).2
 have HFR := Lib.hid hfr; clear hfr
 have HP1 := Lib.hid hp1; clear hp1
 have HP3 := Lib.hid hp3; clear hp3
 have hall : tf (BunRight dc af la (vecF v0 v1 v2 v3) es ks c) = (tf (DotsLeq (dotsT es ks) [(dc, af + 1, la)]) && (tf (LeqC [(dc, af + 1, la)] c) && tf (LeqC c (fullL (setF (vecF v0 v1 v2 v3) dc la))))) := by
  rw [Bool.eq_iff_iff]
  simp only [Bool.and_eq_true, tf_iff]
  exact ⟨fun h => ⟨h.mine, h.own, h.may⟩, fun h => ⟨hn, hc.tree, hc.ctx, hc.dots, hes, h.1, h.2.1, h.2.2⟩⟩
 rw [hall]
 have HCL := Lib.hid hcl
 obtain ⟨dn, hdn⟩ : ∃ dn : Nat, dc = dn := ⟨dc.toNat, by have := hn.1; omega⟩
 have hd4 : dn < 4 := by have := hn.2.1; omega
 have hd4i : (dn : Int) < 4 := by omega
 have hd4b : decide ((dn : Int) < 4) = true := by simpa using hd4i
 clear hall hn hc hes hcl
 subst hdn
 generalize tf (LeqC c (fullL (setF (vecF v0 v1 v2 v3) dn la))) = b3 at *
 generalize hb2 : tf (LeqC [((dn : Int), af + 1, la)] c) = b2 at *
 have HP2 := Lib.hid hb2; clear hb2
 generalize tf (DotsLeq (dotsT es ks) [((dn : Int), af + 1, la)]) = b1 at *
 have HVS := Lib.hid (fun W => vec_set W 23 v0 v1 v2 v3 af dn hd4)
 have HVC := Lib.hid (fun W => vec_cell W 23 v0 v1 v2 v3 dn hd4)
 generalize hgg : setF (vecF v0 v1 v2 v3) dn af = g at *
 clear hgg
 have HVF := Lib.hid (show fullL (vecF (g 0) (g 1) (g 2) (g 3)) = fullL g from fullL_congr fun d h0 h4 => by rcases four h0 h4 with rfl | rfl | rfl | rfl <;> simp [vecF])
 generalize hel : es.length = n at *
 subst he0
 clear hel
 generalize ks.len = m at *
 generalize hck : c.length = k at *
 have HCK := Lib.hid hck; clear hck
 cases b1 with
 | false =>
  go_enter Tryz.func23, Tryz.ntmps23
  go_wp2_with (first
   | (go_at_call 71; refine (HNM.out _).mono ?_; rintro e w1 ⟨rfl, hw1⟩; obtain ⟨y0, y1, y2, y3, y4, y5, y6, y7, y8, y9⟩ := HBX.out w1 hw1; have HW1 := Lib.hid hw1; clear hw1)
   | (go_at_call 72; refine (HCR.out _ (HFA.out.then1 HW1.out)).mono ?_; rintro e w2 ⟨rfl, hw2⟩; clear y0 y1 y2 y3 y4 y5 y6 y7 y8 y9; obtain ⟨y0, y1, y2, y3, y4, y5, y6, y7, y8, y9⟩ := HBX.out w2 (HW1.out.then1 hw2); obtain ⟨hvc, hvf⟩ := HVC.out w2; have hbl : w.heap.size < w2.heap.size := World.block_lt_of_cell? _ _ y0; have HW2 := Lib.hid (HW1.out.then1 hw2); clear hw2))
  clear y0 y1 y2 y3 y4 y5 y6 y7 y8 y9 hvc hvf hbl
  have hvs := HVS.out w2
  have HFV := Lib.hid (HW2.out.then1 hvs.2)
  obtain ⟨y0, y1, y2, y3, y4, y5, y6, y7, y8, y9⟩ := HBX.out _ HFV.out
  have vs0 := hvs.1 0 (by decide)
  have vs1 := hvs.1 1 (by decide)
  have vs2 := hvs.1 2 (by decide)
  have vs3 := hvs.1 3 (by decide)
  clear hvs HW2
  generalize w2.heap.size = vb at *
  generalize (w2.alloc (.cells (([.int .i64 v0, .int .i64 v1, .int .i64 v2, .int .i64 v3] : List Value).set dn (.int .i64 af)).toArray 23)) = X0 at *
  refine wp_region_G (S := fun w' => w'.cell? ⟨w.heap.size, 0, none⟩ = some (.int .i64 dn) ∧ w'.cell? ⟨w.heap.size, 1, none⟩ = some (.int .i64 af) ∧ w'.cell? ⟨w.heap.size, 2, none⟩ = some (.int .i64 la) ∧ w'.cell? ⟨w.heap.size, 3, none⟩ = some (.int .i64 v0) ∧ w'.cell? ⟨w.heap.size, 4, none⟩ = some (.int .i64 v1) ∧ w'.cell? ⟨w.heap.size, 5, none⟩ = some (.int .i64 v2) ∧ w'.cell? ⟨w.heap.size, 6, none⟩ = some (.int .i64 v3) ∧ w'.cell? ⟨w.heap.size, 7, none⟩ = some (.slice a0 0 c0) ∧ w'.cell? ⟨w.heap.size, 8, none⟩ = some (.slice a1 m c1) ∧ w'.cell? ⟨w.heap.size, 9, none⟩ = some (.slice a2 k c2) ∧ w'.cell? ⟨vb, 0, none⟩ = some (.int .i64 (g 0)) ∧ w'.cell? ⟨vb, 1, none⟩ = some (.int .i64 (g 1)) ∧ w'.cell? ⟨vb, 2, none⟩ = some (.int .i64 (g 2)) ∧ w'.cell? ⟨vb, 3, none⟩ = some (.int .i64 (g 3))) 6 (by kernel_rfl) ⟨y0, y1, y2, y3, y4, y5, y6, y7, y8, y9, vs0, vs1, vs2, vs3⟩ ?_
  intro hS
  have HKS := Lib.hid (fun Y Y' (f : Frm NoS Y Y') (hS : Y.cell? ⟨w.heap.size, 0, none⟩ = some (.int .i64 dn) ∧ Y.cell? ⟨w.heap.size, 1, none⟩ = some (.int .i64 af) ∧ Y.cell? ⟨w.heap.size, 2, none⟩ = some (.int .i64 la) ∧ Y.cell? ⟨w.heap.size, 3, none⟩ = some (.int .i64 v0) ∧ Y.cell? ⟨w.heap.size, 4, none⟩ = some (.int .i64 v1) ∧ Y.cell? ⟨w.heap.size, 5, none⟩ = some (.int .i64 v2) ∧ Y.cell? ⟨w.heap.size, 6, none⟩ = some (.int .i64 v3) ∧ Y.cell? ⟨w.heap.size, 7, none⟩ = some (.slice a0 0 c0) ∧ Y.cell? ⟨w.heap.size, 8, none⟩ = some (.slice a1 m c1) ∧ Y.cell? ⟨w.heap.size, 9, none⟩ = some (.slice a2 k c2) ∧ Y.cell? ⟨vb, 0, none⟩ = some (.int .i64 (g 0)) ∧ Y.cell? ⟨vb, 1, none⟩ = some (.int .i64 (g 1)) ∧ Y.cell? ⟨vb, 2, none⟩ = some (.int .i64 (g 2)) ∧ Y.cell? ⟨vb, 3, none⟩ = some (.int .i64 (g 3))) => (⟨f.cell' hS.1 id, f.cell' hS.2.1 id, f.cell' hS.2.2.1 id, f.cell' hS.2.2.2.1 id, f.cell' hS.2.2.2.2.1 id, f.cell' hS.2.2.2.2.2.1 id, f.cell' hS.2.2.2.2.2.2.1 id, f.cell' hS.2.2.2.2.2.2.2.1 id, f.cell' hS.2.2.2.2.2.2.2.2.1 id, f.cell' hS.2.2.2.2.2.2.2.2.2.1 id, f.cell' hS.2.2.2.2.2.2.2.2.2.2.1 id, f.cell' hS.2.2.2.2.2.2.2.2.2.2.2.1 id, f.cell' hS.2.2.2.2.2.2.2.2.2.2.2.2.1 id, f.cell' hS.2.2.2.2.2.2.2.2.2.2.2.2.2 id⟩ : Y'.cell? ⟨w.heap.size, 0, none⟩ = some (.int .i64 dn) ∧ Y'.cell? ⟨w.heap.size, 1, none⟩ = some (.int .i64 af) ∧ Y'.cell? ⟨w.heap.size, 2, none⟩ = some (.int .i64 la) ∧ Y'.cell? ⟨w.heap.size, 3, none⟩ = some (.int .i64 v0) ∧ Y'.cell? ⟨w.heap.size, 4, none⟩ = some (.int .i64 v1) ∧ Y'.cell? ⟨w.heap.size, 5, none⟩ = some (.int .i64 v2) ∧ Y'.cell? ⟨w.heap.size, 6, none⟩ = some (.int .i64 v3) ∧ Y'.cell? ⟨w.heap.size, 7, none⟩ = some (.slice a0 0 c0) ∧ Y'.cell? ⟨w.heap.size, 8, none⟩ = some (.slice a1 m c1) ∧ Y'.cell? ⟨w.heap.size, 9, none⟩ = some (.slice a2 k c2) ∧ Y'.cell? ⟨vb, 0, none⟩ = some (.int .i64 (g 0)) ∧ Y'.cell? ⟨vb, 1, none⟩ = some (.int .i64 (g 1)) ∧ Y'.cell? ⟨vb, 2, none⟩ = some (.int .i64 (g 2)) ∧ Y'.cell? ⟨vb, 3, none⟩ = some (.int .i64 (g 3))))
  have HFY := Lib.hid ((HFA.out.then1 HFV.out).then1 (Frm.drew NoS X0))
  clear y0 y1 y2 y3 y4 y5 y6 y7 y8 y9 vs0 vs1 vs2 vs3 HFV
  generalize X0.drew = Y at *
  refine tkG 0 29 rfl rfl (v := ?_) (.inl ⟨by rfl, ?_⟩) ?_
  rotate_left 1
  · (intro w hSw; (try dsimp only at hSw); go_simp; (try with_reducible rfl))
  refine tkG 1 30 rfl rfl (v := ?_) (.inl ⟨by rfl, ?_⟩) ?_
  rotate_left 1
  · (intro w hSw; (try dsimp only at hSw); go_simp; (try with_reducible rfl))
  try simp only [Act.put, List.setIfInBounds_toArray, List.set_cons_zero, List.set_cons_succ]
  refine tkG 2 31 rfl rfl (v := ?_) (.inl ⟨by rfl, ?_⟩) ?_
  rotate_left 1
  · (intro w hSw; (try dsimp only at hSw); go_simp; (try with_reducible rfl))
  refine tkG 3 32 rfl rfl (v := ?_) (.inl ⟨by rfl, ?_⟩) ?_
  rotate_left 1
  · (intro w hSw; (try dsimp only at hSw); go_simp; (try with_reducible rfl))
  try simp only [Act.put, List.setIfInBounds_toArray, List.set_cons_zero, List.set_cons_succ]
  refine one_opG (i := 4) (by kernel_rfl) rfl (fun K hK => ?_)
  go_simp
  refine (HOW.out _ HNN.out).mono ?_
  rintro e Y1 ⟨v1', rfl, hc1, hf1⟩; obtain ⟨b1a, b1c, rfl⟩ : ∃ a c, v1' = .slice a 1 c := Rd.sl hc1
  have hS := HKS.out _ _ hf1 hS
  refine hK.out _ _ hS ?_
  clear hK K
  have HF1 := Lib.hid (HFY.out.then1 hf1); have HC1 := Lib.hid hc1; clear hc1 hf1
  try simp only [Act.put, List.setIfInBounds_toArray, List.set_cons_zero, List.set_cons_succ]
  refine one_opG (i := 5) (by kernel_rfl) rfl (fun K hK => ?_)
  go_simp
  refine (HB0.out _ _ _ c _ (HCX.out _ HF1.out) HC1.out HRC.out HOR.out (by have := HCL.out; have := HCK.out; omega) (by simp)).mono ?_
  rintro e Y2 ⟨v2', q, rfl, ho2, hby, -⟩; obtain ⟨b2a, b2c, rfl⟩ := ho2.shape; have hf2 := ho2.frm
  have hS := HKS.out _ _ hf2 hS
  refine hK.out _ _ hS ?_
  clear hK K
  have HF2 := Lib.hid (HF1.out.then1 hf2); have HO2 := Lib.hid ho2; have HBC := Lib.hid hby; clear ho2 hf2 hby
  try simp only [Act.put, List.setIfInBounds_toArray, List.set_cons_zero, List.set_cons_succ]
  refine last_opG (by kernel_rfl) (by kernel_rfl) rfl (fun K hK => ?_)
  go_simp
  refine hK.out _ _ ?_
  clear hK K
  go_wp2_with fail
  refine wp_region_G (S := fun w' => w'.cell? ⟨w.heap.size, 0, none⟩ = some (.int .i64 dn) ∧ w'.cell? ⟨w.heap.size, 1, none⟩ = some (.int .i64 af) ∧ w'.cell? ⟨w.heap.size, 2, none⟩ = some (.int .i64 la) ∧ w'.cell? ⟨w.heap.size, 3, none⟩ = some (.int .i64 v0) ∧ w'.cell? ⟨w.heap.size, 4, none⟩ = some (.int .i64 v1) ∧ w'.cell? ⟨w.heap.size, 5, none⟩ = some (.int .i64 v2) ∧ w'.cell? ⟨w.heap.size, 6, none⟩ = some (.int .i64 v3) ∧ w'.cell? ⟨w.heap.size, 7, none⟩ = some (.slice a0 0 c0) ∧ w'.cell? ⟨w.heap.size, 8, none⟩ = some (.slice a1 m c1) ∧ w'.cell? ⟨w.heap.size, 9, none⟩ = some (.slice a2 k c2) ∧ w'.cell? ⟨vb, 0, none⟩ = some (.int .i64 (g 0)) ∧ w'.cell? ⟨vb, 1, none⟩ = some (.int .i64 (g 1)) ∧ w'.cell? ⟨vb, 2, none⟩ = some (.int .i64 (g 2)) ∧ w'.cell? ⟨vb, 3, none⟩ = some (.int .i64 (g 3))) 21 (by kernel_rfl) ⟨(Frm.drew NoS Y2).cell' hS.1 id, (Frm.drew NoS Y2).cell' hS.2.1 id, (Frm.drew NoS Y2).cell' hS.2.2.1 id, (Frm.drew NoS Y2).cell' hS.2.2.2.1 id, (Frm.drew NoS Y2).cell' hS.2.2.2.2.1 id, (Frm.drew NoS Y2).cell' hS.2.2.2.2.2.1 id, (Frm.drew NoS Y2).cell' hS.2.2.2.2.2.2.1 id, (Frm.drew NoS Y2).cell' hS.2.2.2.2.2.2.2.1 id, (Frm.drew NoS Y2).cell' hS.2.2.2.2.2.2.2.2.1 id, (Frm.drew NoS Y2).cell' hS.2.2.2.2.2.2.2.2.2.1 id, (Frm.drew NoS Y2).cell' hS.2.2.2.2.2.2.2.2.2.2.1 id, (Frm.drew NoS Y2).cell' hS.2.2.2.2.2.2.2.2.2.2.2.1 id, (Frm.drew NoS Y2).cell' hS.2.2.2.2.2.2.2.2.2.2.2.2.1 id, (Frm.drew NoS Y2).cell' hS.2.2.2.2.2.2.2.2.2.2.2.2.2 id⟩ ?_
  clear hS
  intro hS
  have HKS := Lib.hid (fun Y Y' (f : Frm NoS Y Y') (hS : Y.cell? ⟨w.heap.size, 0, none⟩ = some (.int .i64 dn) ∧ Y.cell? ⟨w.heap.size, 1, none⟩ = some (.int .i64 af) ∧ Y.cell? ⟨w.heap.size, 2, none⟩ = some (.int .i64 la) ∧ Y.cell? ⟨w.heap.size, 3, none⟩ = some (.int .i64 v0) ∧ Y.cell? ⟨w.heap.size, 4, none⟩ = some (.int .i64 v1) ∧ Y.cell? ⟨w.heap.size, 5, none⟩ = some (.int .i64 v2) ∧ Y.cell? ⟨w.heap.size, 6, none⟩ = some (.int .i64 v3) ∧ Y.cell? ⟨w.heap.size, 7, none⟩ = some (.slice a0 0 c0) ∧ Y.cell? ⟨w.heap.size, 8, none⟩ = some (.slice a1 m c1) ∧ Y.cell? ⟨w.heap.size, 9, none⟩ = some (.slice a2 k c2) ∧ Y.cell? ⟨vb, 0, none⟩ = some (.int .i64 (g 0)) ∧ Y.cell? ⟨vb, 1, none⟩ = some (.int .i64 (g 1)) ∧ Y.cell? ⟨vb, 2, none⟩ = some (.int .i64 (g 2)) ∧ Y.cell? ⟨vb, 3, none⟩ = some (.int .i64 (g 3))) => (⟨f.cell' hS.1 id, f.cell' hS.2.1 id, f.cell' hS.2.2.1 id, f.cell' hS.2.2.2.1 id, f.cell' hS.2.2.2.2.1 id, f.cell' hS.2.2.2.2.2.1 id, f.cell' hS.2.2.2.2.2.2.1 id, f.cell' hS.2.2.2.2.2.2.2.1 id, f.cell' hS.2.2.2.2.2.2.2.2.1 id, f.cell' hS.2.2.2.2.2.2.2.2.2.1 id, f.cell' hS.2.2.2.2.2.2.2.2.2.2.1 id, f.cell' hS.2.2.2.2.2.2.2.2.2.2.2.1 id, f.cell' hS.2.2.2.2.2.2.2.2.2.2.2.2.1 id, f.cell' hS.2.2.2.2.2.2.2.2.2.2.2.2.2 id⟩ : Y'.cell? ⟨w.heap.size, 0, none⟩ = some (.int .i64 dn) ∧ Y'.cell? ⟨w.heap.size, 1, none⟩ = some (.int .i64 af) ∧ Y'.cell? ⟨w.heap.size, 2, none⟩ = some (.int .i64 la) ∧ Y'.cell? ⟨w.heap.size, 3, none⟩ = some (.int .i64 v0) ∧ Y'.cell? ⟨w.heap.size, 4, none⟩ = some (.int .i64 v1) ∧ Y'.cell? ⟨w.heap.size, 5, none⟩ = some (.int .i64 v2) ∧ Y'.cell? ⟨w.heap.size, 6, none⟩ = some (.int .i64 v3) ∧ Y'.cell? ⟨w.heap.size, 7, none⟩ = some (.slice a0 0 c0) ∧ Y'.cell? ⟨w.heap.size, 8, none⟩ = some (.slice a1 m c1) ∧ Y'.cell? ⟨w.heap.size, 9, none⟩ = some (.slice a2 k c2) ∧ Y'.cell? ⟨vb, 0, none⟩ = some (.int .i64 (g 0)) ∧ Y'.cell? ⟨vb, 1, none⟩ = some (.int .i64 (g 1)) ∧ Y'.cell? ⟨vb, 2, none⟩ = some (.int .i64 (g 2)) ∧ Y'.cell? ⟨vb, 3, none⟩ = some (.int .i64 (g 3))))
  have HF3 := Lib.hid (HF2.out.then1 (Frm.drew NoS Y2))
  have HQ3 := Lib.hid (HO2.out.rd.keep0 (Frm.drew NoS Y2))
  have HQL := Lib.hid (show q.length ≤ 4 * (c.length + 1) from HBC.out.minus_length HRC.out HOR.out)
  generalize Y2.drew = Z at *
  refine tkG 0 35 rfl rfl (v := ?_) (.inl ⟨by rfl, ?_⟩) ?_
  rotate_left 1
  · (intro w hSw; (try dsimp only at hSw); go_simp; (try with_reducible rfl))
  refine tkG 1 36 rfl rfl (v := ?_) (.inl ⟨by rfl, ?_⟩) ?_
  rotate_left 1
  · (intro w hSw; (try dsimp only at hSw); go_simp; (try with_reducible rfl))
  try simp only [Act.put, List.setIfInBounds_toArray, List.set_cons_zero, List.set_cons_succ]
  refine tkG 2 37 rfl rfl (v := ?_) (.inl ⟨by rfl, ?_⟩) ?_
  rotate_left 1
  · (intro w hSw; (try dsimp only at hSw); go_simp; (try with_reducible rfl))
  refine tkG 4 39 rfl rfl (v := ?_) (.inl ⟨by rfl, ?_⟩) ?_
  rotate_left 1
  · (intro w hSw; (try dsimp only at hSw); go_simp; (try with_reducible rfl))
  try simp only [Act.put, List.setIfInBounds_toArray, List.set_cons_zero, List.set_cons_succ]
  refine one_opG (i := 3) (by kernel_rfl) rfl (fun K hK => ?_)
  go_simp
  refine (HDT.out _ HF3.out HDO.out).mono ?_
  rintro e Z1 ⟨v1', d, rfl, ho4, hof, hl4⟩; obtain ⟨d1a, d1c, rfl⟩ := ho4.shape; have hf4 := ho4.frm
  have hS := HKS.out _ _ hf4 hS
  refine hK.out _ _ hS ?_
  clear hK K
  have HF4 := Lib.hid (HF3.out.then1 hf4); have HQ4 := Lib.hid (HQ3.out.keep0 hf4); have HO4 := Lib.hid ho4; have HOF := Lib.hid hof; have HL4 := Lib.hid hl4; clear ho4 hf4 hof hl4
  try simp only [Act.put, List.setIfInBounds_toArray, List.set_cons_zero, List.set_cons_succ]
  refine one_opG (i := 5) (by kernel_rfl) rfl (fun K hK => ?_)
  go_simp
  refine (HOW.out _ HNN.out).mono ?_
  rintro e Z2 ⟨v2', rfl, hc5, hf5⟩; obtain ⟨d2a, d2c, rfl⟩ : ∃ a c, v2' = .slice a 1 c := Rd.sl hc5
  have hS := HKS.out _ _ hf5 hS
  refine hK.out _ _ hS ?_
  clear hK K
  have HF5 := Lib.hid (HF4.out.then1 hf5); have HQ5 := Lib.hid (HQ4.out.keep0 hf5); have HD5 := Lib.hid (HO4.out.rd.keep0 hf5); have HC5 := Lib.hid hc5; clear hc5 hf5
  try simp only [Act.put, List.setIfInBounds_toArray, List.set_cons_zero, List.set_cons_succ]
  refine one_opG (i := 6) (by kernel_rfl) rfl (fun K hK => ?_)
  go_simp
  refine (HL0.out _ _ _ d _ HD5.out HC5.out HOF.out.right HOR.out (by have := HL4.out; omega) (by simp)).mono ?_
  rintro e Z3 ⟨rfl, hf6⟩; rw [HP1.out d HOF.out]
  have hS := HKS.out _ _ hf6 hS
  refine hK.out _ _ hS ?_
  clear hK K
  have HF6 := Lib.hid (HF5.out.then1 hf6); have HQ6 := Lib.hid (HQ5.out.keep0 hf6); clear hf6
  try simp only [Act.put, List.setIfInBounds_toArray, List.set_cons_zero, List.set_cons_succ]
  refine tkG 7 42 rfl rfl (v := ?_) (.inl ⟨by rfl, ?_⟩) ?_
  rotate_left 1
  · (intro w hSw; (try dsimp only at hSw); go_simp; (try with_reducible rfl))
  refine tkS 8 43 rfl rfl ?_
  try simp only [Act.put, List.setIfInBounds_toArray, List.set_cons_zero, List.set_cons_succ]
  refine tkS 9 44 rfl rfl ?_
  refine tkS 10 45 rfl rfl ?_
  try simp only [Act.put, List.setIfInBounds_toArray, List.set_cons_zero, List.set_cons_succ]
  refine tkS 11 46 rfl rfl ?_
  refine tkS 12 47 rfl rfl ?_
  try simp only [Act.put, List.setIfInBounds_toArray, List.set_cons_zero, List.set_cons_succ]
  refine tkS 13 48 rfl rfl ?_
  refine tkG 14 49 rfl rfl (v := ?_) (.inl ⟨by rfl, ?_⟩) ?_
  rotate_left 1
  · (intro w hSw; (try dsimp only at hSw); go_simp; (try with_reducible rfl))
  try simp only [Act.put, List.setIfInBounds_toArray, List.set_cons_zero, List.set_cons_succ]
  refine tkG 15 50 rfl rfl (v := ?_) (.inl ⟨by rfl, ?_⟩) ?_
  rotate_left 1
  · (intro w hSw; (try dsimp only at hSw); go_simp; (try with_reducible rfl))
  refine tkS 16 51 rfl rfl ?_
  try simp only [Act.put, List.setIfInBounds_toArray, List.set_cons_zero, List.set_cons_succ]
  refine tkS 17 52 rfl rfl ?_
  refine tkS 18 53 rfl rfl ?_
  try simp only [Act.put, List.setIfInBounds_toArray, List.set_cons_zero, List.set_cons_succ]
  refine tkS 19 54 rfl rfl ?_
  refine tkG 20 55 rfl rfl (v := ?_) (.inl ⟨by rfl, ?_⟩) ?_
  rotate_left 1
  · (intro w hSw; (try dsimp only at hSw); go_simp; (try with_reducible rfl))
  try simp only [Act.put, List.setIfInBounds_toArray, List.set_cons_zero, List.set_cons_succ]
  refine last_opG (by kernel_rfl) (by kernel_rfl) rfl (fun K hK => ?_)
  go_simp
  refine hK.out _ _ ?_
  clear hK K hS
  go_wp2
  go_ret
  exact ⟨rfl, HF6.out⟩
 | true =>
  cases b2 with
  | false =>
   go_enter Tryz.func23, Tryz.ntmps23
   go_wp2_with (first
    | (go_at_call 71; refine (HNM.out _).mono ?_; rintro e w1 ⟨rfl, hw1⟩; obtain ⟨y0, y1, y2, y3, y4, y5, y6, y7, y8, y9⟩ := HBX.out w1 hw1; have HW1 := Lib.hid hw1; clear hw1)
    | (go_at_call 72; refine (HCR.out _ (HFA.out.then1 HW1.out)).mono ?_; rintro e w2 ⟨rfl, hw2⟩; clear y0 y1 y2 y3 y4 y5 y6 y7 y8 y9; obtain ⟨y0, y1, y2, y3, y4, y5, y6, y7, y8, y9⟩ := HBX.out w2 (HW1.out.then1 hw2); obtain ⟨hvc, hvf⟩ := HVC.out w2; have hbl : w.heap.size < w2.heap.size := World.block_lt_of_cell? _ _ y0; have HW2 := Lib.hid (HW1.out.then1 hw2); clear hw2))
   clear y0 y1 y2 y3 y4 y5 y6 y7 y8 y9 hvc hvf hbl
   have hvs := HVS.out w2
   have HFV := Lib.hid (HW2.out.then1 hvs.2)
   obtain ⟨y0, y1, y2, y3, y4, y5, y6, y7, y8, y9⟩ := HBX.out _ HFV.out
   have vs0 := hvs.1 0 (by decide)
   have vs1 := hvs.1 1 (by decide)
   have vs2 := hvs.1 2 (by decide)
   have vs3 := hvs.1 3 (by decide)
   clear hvs HW2
   generalize w2.heap.size = vb at *
   generalize (w2.alloc (.cells (([.int .i64 v0, .int .i64 v1, .int .i64 v2, .int .i64 v3] : List Value).set dn (.int .i64 af)).toArray 23)) = X0 at *
   refine wp_region_G (S := fun w' => w'.cell? ⟨w.heap.size, 0, none⟩ = some (.int .i64 dn) ∧ w'.cell? ⟨w.heap.size, 1, none⟩ = some (.int .i64 af) ∧ w'.cell? ⟨w.heap.size, 2, none⟩ = some (.int .i64 la) ∧ w'.cell? ⟨w.heap.size, 3, none⟩ = some (.int .i64 v0) ∧ w'.cell? ⟨w.heap.size, 4, none⟩ = some (.int .i64 v1) ∧ w'.cell? ⟨w.heap.size, 5, none⟩ = some (.int .i64 v2) ∧ w'.cell? ⟨w.heap.size, 6, none⟩ = some (.int .i64 v3) ∧ w'.cell? ⟨w.heap.size, 7, none⟩ = some (.slice a0 0 c0) ∧ w'.cell? ⟨w.heap.size, 8, none⟩ = some (.slice a1 m c1) ∧ w'.cell? ⟨w.heap.size, 9, none⟩ = some (.slice a2 k c2) ∧ w'.cell? ⟨vb, 0, none⟩ = some (.int .i64 (g 0)) ∧ w'.cell? ⟨vb, 1, none⟩ = some (.int .i64 (g 1)) ∧ w'.cell? ⟨vb, 2, none⟩ = some (.int .i64 (g 2)) ∧ w'.cell? ⟨vb, 3, none⟩ = some (.int .i64 (g 3))) 6 (by kernel_rfl) ⟨y0, y1, y2, y3, y4, y5, y6, y7, y8, y9, vs0, vs1, vs2, vs3⟩ ?_
   intro hS
   have HKS := Lib.hid (fun Y Y' (f : Frm NoS Y Y') (hS : Y.cell? ⟨w.heap.size, 0, none⟩ = some (.int .i64 dn) ∧ Y.cell? ⟨w.heap.size, 1, none⟩ = some (.int .i64 af) ∧ Y.cell? ⟨w.heap.size, 2, none⟩ = some (.int .i64 la) ∧ Y.cell? ⟨w.heap.size, 3, none⟩ = some (.int .i64 v0) ∧ Y.cell? ⟨w.heap.size, 4, none⟩ = some (.int .i64 v1) ∧ Y.cell? ⟨w.heap.size, 5, none⟩ = some (.int .i64 v2) ∧ Y.cell? ⟨w.heap.size, 6, none⟩ = some (.int .i64 v3) ∧ Y.cell? ⟨w.heap.size, 7, none⟩ = some (.slice a0 0 c0) ∧ Y.cell? ⟨w.heap.size, 8, none⟩ = some (.slice a1 m c1) ∧ Y.cell? ⟨w.heap.size, 9, none⟩ = some (.slice a2 k c2) ∧ Y.cell? ⟨vb, 0, none⟩ = some (.int .i64 (g 0)) ∧ Y.cell? ⟨vb, 1, none⟩ = some (.int .i64 (g 1)) ∧ Y.cell? ⟨vb, 2, none⟩ = some (.int .i64 (g 2)) ∧ Y.cell? ⟨vb, 3, none⟩ = some (.int .i64 (g 3))) => (⟨f.cell' hS.1 id, f.cell' hS.2.1 id, f.cell' hS.2.2.1 id, f.cell' hS.2.2.2.1 id, f.cell' hS.2.2.2.2.1 id, f.cell' hS.2.2.2.2.2.1 id, f.cell' hS.2.2.2.2.2.2.1 id, f.cell' hS.2.2.2.2.2.2.2.1 id, f.cell' hS.2.2.2.2.2.2.2.2.1 id, f.cell' hS.2.2.2.2.2.2.2.2.2.1 id, f.cell' hS.2.2.2.2.2.2.2.2.2.2.1 id, f.cell' hS.2.2.2.2.2.2.2.2.2.2.2.1 id, f.cell' hS.2.2.2.2.2.2.2.2.2.2.2.2.1 id, f.cell' hS.2.2.2.2.2.2.2.2.2.2.2.2.2 id⟩ : Y'.cell? ⟨w.heap.size, 0, none⟩ = some (.int .i64 dn) ∧ Y'.cell? ⟨w.heap.size, 1, none⟩ = some (.int .i64 af) ∧ Y'.cell? ⟨w.heap.size, 2, none⟩ = some (.int .i64 la) ∧ Y'.cell? ⟨w.heap.size, 3, none⟩ = some (.int .i64 v0) ∧ Y'.cell? ⟨w.heap.size, 4, none⟩ = some (.int .i64 v1) ∧ Y'.cell? ⟨w.heap.size, 5, none⟩ = some (.int .i64 v2) ∧ Y'.cell? ⟨w.heap.size, 6, none⟩ = some (.int .i64 v3) ∧ Y'.cell? ⟨w.heap.size, 7, none⟩ = some (.slice a0 0 c0) ∧ Y'.cell? ⟨w.heap.size, 8, none⟩ = some (.slice a1 m c1) ∧ Y'.cell? ⟨w.heap.size, 9, none⟩ = some (.slice a2 k c2) ∧ Y'.cell? ⟨vb, 0, none⟩ = some (.int .i64 (g 0)) ∧ Y'.cell? ⟨vb, 1, none⟩ = some (.int .i64 (g 1)) ∧ Y'.cell? ⟨vb, 2, none⟩ = some (.int .i64 (g 2)) ∧ Y'.cell? ⟨vb, 3, none⟩ = some (.int .i64 (g 3))))
   have HFY := Lib.hid ((HFA.out.then1 HFV.out).then1 (Frm.drew NoS X0))
   clear y0 y1 y2 y3 y4 y5 y6 y7 y8 y9 vs0 vs1 vs2 vs3 HFV
   generalize X0.drew = Y at *
   refine tkG 0 29 rfl rfl (v := ?_) (.inl ⟨by rfl, ?_⟩) ?_
   rotate_left 1
   · (intro w hSw; (try dsimp only at hSw); go_simp; (try with_reducible rfl))
   refine tkG 1 30 rfl rfl (v := ?_) (.inl ⟨by rfl, ?_⟩) ?_
   rotate_left 1
   · (intro w hSw; (try dsimp only at hSw); go_simp; (try with_reducible rfl))
   try simp only [Act.put, List.setIfInBounds_toArray, List.set_cons_zero, List.set_cons_succ]
   refine tkG 2 31 rfl rfl (v := ?_) (.inl ⟨by rfl, ?_⟩) ?_
   rotate_left 1
   · (intro w hSw; (try dsimp only at hSw); go_simp; (try with_reducible rfl))
   refine tkG 3 32 rfl rfl (v := ?_) (.inl ⟨by rfl, ?_⟩) ?_
   rotate_left 1
   · (intro w hSw; (try dsimp only at hSw); go_simp; (try with_reducible rfl))
   try simp only [Act.put, List.setIfInBounds_toArray, List.set_cons_zero, List.set_cons_succ]
   refine one_opG (i := 4) (by kernel_rfl) rfl (fun K hK => ?_)
   go_simp
   refine (HOW.out _ HNN.out).mono ?_
   rintro e Y1 ⟨v1', rfl, hc1, hf1⟩; obtain ⟨b1a, b1c, rfl⟩ : ∃ a c, v1' = .slice a 1 c := Rd.sl hc1
   have hS := HKS.out _ _ hf1 hS
   refine hK.out _ _ hS ?_
   clear hK K
   have HF1 := Lib.hid (HFY.out.then1 hf1); have HC1 := Lib.hid hc1; clear hc1 hf1
   try simp only [Act.put, List.setIfInBounds_toArray, List.set_cons_zero, List.set_cons_succ]
   refine one_opG (i := 5) (by kernel_rfl) rfl (fun K hK => ?_)
   go_simp
   refine (HB0.out _ _ _ c _ (HCX.out _ HF1.out) HC1.out HRC.out HOR.out (by have := HCL.out; have := HCK.out; omega) (by simp)).mono ?_
   rintro e Y2 ⟨v2', q, rfl, ho2, hby, -⟩; obtain ⟨b2a, b2c, rfl⟩ := ho2.shape; have hf2 := ho2.frm
   have hS := HKS.out _ _ hf2 hS
   refine hK.out _ _ hS ?_
   clear hK K
   have HF2 := Lib.hid (HF1.out.then1 hf2); have HO2 := Lib.hid ho2; have HBC := Lib.hid hby; clear ho2 hf2 hby
   try simp only [Act.put, List.setIfInBounds_toArray, List.set_cons_zero, List.set_cons_succ]
   refine last_opG (by kernel_rfl) (by kernel_rfl) rfl (fun K hK => ?_)
   go_simp
   refine hK.out _ _ ?_
   clear hK K
   go_wp2_with fail
   refine wp_region_G (S := fun w' => w'.cell? ⟨w.heap.size, 0, none⟩ = some (.int .i64 dn) ∧ w'.cell? ⟨w.heap.size, 1, none⟩ = some (.int .i64 af) ∧ w'.cell? ⟨w.heap.size, 2, none⟩ = some (.int .i64 la) ∧ w'.cell? ⟨w.heap.size, 3, none⟩ = some (.int .i64 v0) ∧ w'.cell? ⟨w.heap.size, 4, none⟩ = some (.int .i64 v1) ∧ w'.cell? ⟨w.heap.size, 5, none⟩ = some (.int .i64 v2) ∧ w'.cell? ⟨w.heap.size, 6, none⟩ = some (.int .i64 v3) ∧ w'.cell? ⟨w.heap.size, 7, none⟩ = some (.slice a0 0 c0) ∧ w'.cell? ⟨w.heap.size, 8, none⟩ = some (.slice a1 m c1) ∧ w'.cell? ⟨w.heap.size, 9, none⟩ = some (.slice a2 k c2) ∧ w'.cell? ⟨vb, 0, none⟩ = some (.int .i64 (g 0)) ∧ w'.cell? ⟨vb, 1, none⟩ = some (.int .i64 (g 1)) ∧ w'.cell? ⟨vb, 2, none⟩ = some (.int .i64 (g 2)) ∧ w'.cell? ⟨vb, 3, none⟩ = some (.int .i64 (g 3))) 21 (by kernel_rfl) ⟨(Frm.drew NoS Y2).cell' hS.1 id, (Frm.drew NoS Y2).cell' hS.2.1 id, (Frm.drew NoS Y2).cell' hS.2.2.1 id, (Frm.drew NoS Y2).cell' hS.2.2.2.1 id, (Frm.drew NoS Y2).cell' hS.2.2.2.2.1 id, (Frm.drew NoS Y2).cell' hS.2.2.2.2.2.1 id, (Frm.drew NoS Y2).cell' hS.2.2.2.2.2.2.1 id, (Frm.drew NoS Y2).cell' hS.2.2.2.2.2.2.2.1 id, (Frm.drew NoS Y2).cell' hS.2.2.2.2.2.2.2.2.1 id, (Frm.drew NoS Y2).cell' hS.2.2.2.2.2.2.2.2.2.1 id, (Frm.drew NoS Y2).cell' hS.2.2.2.2.2.2.2.2.2.2.1 id, (Frm.drew NoS Y2).cell' hS.2.2.2.2.2.2.2.2.2.2.2.1 id, (Frm.drew NoS Y2).cell' hS.2.2.2.2.2.2.2.2.2.2.2.2.1 id, (Frm.drew NoS Y2).cell' hS.2.2.2.2.2.2.2.2.2.2.2.2.2 id⟩ ?_
   clear hS
   intro hS
   have HKS := Lib.hid (fun Y Y' (f : Frm NoS Y Y') (hS : Y.cell? ⟨w.heap.size, 0, none⟩ = some (.int .i64 dn) ∧ Y.cell? ⟨w.heap.size, 1, none⟩ = some (.int .i64 af) ∧ Y.cell? ⟨w.heap.size, 2, none⟩ = some (.int .i64 la) ∧ Y.cell? ⟨w.heap.size, 3, none⟩ = some (.int .i64 v0) ∧ Y.cell? ⟨w.heap.size, 4, none⟩ = some (.int .i64 v1) ∧ Y.cell? ⟨w.heap.size, 5, none⟩ = some (.int .i64 v2) ∧ Y.cell? ⟨w.heap.size, 6, none⟩ = some (.int .i64 v3) ∧ Y.cell? ⟨w.heap.size, 7, none⟩ = some (.slice a0 0 c0) ∧ Y.cell? ⟨w.heap.size, 8, none⟩ = some (.slice a1 m c1) ∧ Y.cell? ⟨w.heap.size, 9, none⟩ = some (.slice a2 k c2) ∧ Y.cell? ⟨vb, 0, none⟩ = some (.int .i64 (g 0)) ∧ Y.cell? ⟨vb, 1, none⟩ = some (.int .i64 (g 1)) ∧ Y.cell? ⟨vb, 2, none⟩ = some (.int .i64 (g 2)) ∧ Y.cell? ⟨vb, 3, none⟩ = some (.int .i64 (g 3))) => (⟨f.cell' hS.1 id, f.cell' hS.2.1 id, f.cell' hS.2.2.1 id, f.cell' hS.2.2.2.1 id, f.cell' hS.2.2.2.2.1 id, f.cell' hS.2.2.2.2.2.1 id, f.cell' hS.2.2.2.2.2.2.1 id, f.cell' hS.2.2.2.2.2.2.2.1 id, f.cell' hS.2.2.2.2.2.2.2.2.1 id, f.cell' hS.2.2.2.2.2.2.2.2.2.1 id, f.cell' hS.2.2.2.2.2.2.2.2.2.2.1 id, f.cell' hS.2.2.2.2.2.2.2.2.2.2.2.1 id, f.cell' hS.2.2.2.2.2.2.2.2.2.2.2.2.1 id, f.cell' hS.2.2.2.2.2.2.2.2.2.2.2.2.2 id⟩ : Y'.cell? ⟨w.heap.size, 0, none⟩ = some (.int .i64 dn) ∧ Y'.cell? ⟨w.heap.size, 1, none⟩ = some (.int .i64 af) ∧ Y'.cell? ⟨w.heap.size, 2, none⟩ = some (.int .i64 la) ∧ Y'.cell? ⟨w.heap.size, 3, none⟩ = some (.int .i64 v0) ∧ Y'.cell? ⟨w.heap.size, 4, none⟩ = some (.int .i64 v1) ∧ Y'.cell? ⟨w.heap.size, 5, none⟩ = some (.int .i64 v2) ∧ Y'.cell? ⟨w.heap.size, 6, none⟩ = some (.int .i64 v3) ∧ Y'.cell? ⟨w.heap.size, 7, none⟩ = some (.slice a0 0 c0) ∧ Y'.cell? ⟨w.heap.size, 8, none⟩ = some (.slice a1 m c1) ∧ Y'.cell? ⟨w.heap.size, 9, none⟩ = some (.slice a2 k c2) ∧ Y'.cell? ⟨vb, 0, none⟩ = some (.int .i64 (g 0)) ∧ Y'.cell? ⟨vb, 1, none⟩ = some (.int .i64 (g 1)) ∧ Y'.cell? ⟨vb, 2, none⟩ = some (.int .i64 (g 2)) ∧ Y'.cell? ⟨vb, 3, none⟩ = some (.int .i64 (g 3))))
   have HF3 := Lib.hid (HF2.out.then1 (Frm.drew NoS Y2))
   have HQ3 := Lib.hid (HO2.out.rd.keep0 (Frm.drew NoS Y2))
   have HQL := Lib.hid (show q.length ≤ 4 * (c.length + 1) from HBC.out.minus_length HRC.out HOR.out)
   generalize Y2.drew = Z at *
   refine tkG 0 35 rfl rfl (v := ?_) (.inl ⟨by rfl, ?_⟩) ?_
   rotate_left 1
   · (intro w hSw; (try dsimp only at hSw); go_simp; (try with_reducible rfl))
   refine tkG 1 36 rfl rfl (v := ?_) (.inl ⟨by rfl, ?_⟩) ?_
   rotate_left 1
   · (intro w hSw; (try dsimp only at hSw); go_simp; (try with_reducible rfl))
   try simp only [Act.put, List.setIfInBounds_toArray, List.set_cons_zero, List.set_cons_succ]
   refine tkG 2 37 rfl rfl (v := ?_) (.inl ⟨by rfl, ?_⟩) ?_
   rotate_left 1
   · (intro w hSw; (try dsimp only at hSw); go_simp; (try with_reducible rfl))
   refine tkG 4 39 rfl rfl (v := ?_) (.inl ⟨by rfl, ?_⟩) ?_
   rotate_left 1
   · (intro w hSw; (try dsimp only at hSw); go_simp; (try with_reducible rfl))
   try simp only [Act.put, List.setIfInBounds_toArray, List.set_cons_zero, List.set_cons_succ]
   refine one_opG (i := 3) (by kernel_rfl) rfl (fun K hK => ?_)
   go_simp
   refine (HDT.out _ HF3.out HDO.out).mono ?_
   rintro e Z1 ⟨v1', d, rfl, ho4, hof, hl4⟩; obtain ⟨d1a, d1c, rfl⟩ := ho4.shape; have hf4 := ho4.frm
   have hS := HKS.out _ _ hf4 hS
   refine hK.out _ _ hS ?_
   clear hK K
   have HF4 := Lib.hid (HF3.out.then1 hf4); have HQ4 := Lib.hid (HQ3.out.keep0 hf4); have HO4 := Lib.hid ho4; have HOF := Lib.hid hof; have HL4 := Lib.hid hl4; clear ho4 hf4 hof hl4
   try simp only [Act.put, List.setIfInBounds_toArray, List.set_cons_zero, List.set_cons_succ]
   refine one_opG (i := 5) (by kernel_rfl) rfl (fun K hK => ?_)
   go_simp
   refine (HOW.out _ HNN.out).mono ?_
   rintro e Z2 ⟨v2', rfl, hc5, hf5⟩; obtain ⟨d2a, d2c, rfl⟩ : ∃ a c, v2' = .slice a 1 c := Rd.sl hc5
   have hS := HKS.out _ _ hf5 hS
   refine hK.out _ _ hS ?_
   clear hK K
   have HF5 := Lib.hid (HF4.out.then1 hf5); have HQ5 := Lib.hid (HQ4.out.keep0 hf5); have HD5 := Lib.hid (HO4.out.rd.keep0 hf5); have HC5 := Lib.hid hc5; clear hc5 hf5
   try simp only [Act.put, List.setIfInBounds_toArray, List.set_cons_zero, List.set_cons_succ]
   refine one_opG (i := 6) (by kernel_rfl) rfl (fun K hK => ?_)
   go_simp
   refine (HL0.out _ _ _ d _ HD5.out HC5.out HOF.out.right HOR.out (by have := HL4.out; omega) (by simp)).mono ?_
   rintro e Z3 ⟨rfl, hf6⟩; rw [HP1.out d HOF.out]
   have hS := HKS.out _ _ hf6 hS
   refine hK.out _ _ hS ?_
   clear hK K
   have HF6 := Lib.hid (HF5.out.then1 hf6); have HQ6 := Lib.hid (HQ5.out.keep0 hf6); clear hf6
   try simp only [Act.put, List.setIfInBounds_toArray, List.set_cons_zero, List.set_cons_succ]
   refine tkG 7 42 rfl rfl (v := ?_) (.inl ⟨by rfl, ?_⟩) ?_
   rotate_left 1
   · (intro w hSw; (try dsimp only at hSw); go_simp; (try with_reducible rfl))
   refine tkG 8 43 rfl rfl (v := ?_) (.inl ⟨by rfl, ?_⟩) ?_
   rotate_left 1
   · (intro w hSw; (try dsimp only at hSw); go_simp; (try with_reducible rfl))
   try simp only [Act.put, List.setIfInBounds_toArray, List.set_cons_zero, List.set_cons_succ]
   refine tkG 10 45 rfl rfl (v := ?_) (.inl ⟨by rfl, ?_⟩) ?_
   rotate_left 1
   · (intro w hSw; (try dsimp only at hSw); go_simp; (try with_reducible rfl))
   refine tkG 11 46 rfl rfl (v := ?_) (.inl ⟨by rfl, ?_⟩) ?_
   rotate_left 1
   · (intro w hSw; (try dsimp only at hSw); go_simp; (try with_reducible rfl))
   try simp only [Act.put, List.setIfInBounds_toArray, List.set_cons_zero, List.set_cons_succ]
   refine tkG 12 47 rfl rfl (v := ?_) (.inl ⟨by rfl, ?_⟩) ?_
   rotate_left 1
   · (intro w hSw; (try dsimp only at hSw); go_simp; (try with_reducible rfl))
   try simp only [Act.put, List.setIfInBounds_toArray, List.set_cons_zero, List.set_cons_succ]
   refine one_opG (i := 9) (by kernel_rfl) rfl (fun K hK => ?_)
   go_simp
   refine (HOW.out _ HNN.out).mono ?_
   rintro e Z4 ⟨v4', rfl, hc7, hf7⟩; obtain ⟨d4a, d4c, rfl⟩ : ∃ a c, v4' = .slice a 1 c := Rd.sl hc7
   have hS := HKS.out _ _ hf7 hS
   refine hK.out _ _ hS ?_
   clear hK K
   have HF7 := Lib.hid (HF6.out.then1 hf7); have HQ7 := Lib.hid (HQ6.out.keep0 hf7); have HC7 := Lib.hid hc7; clear hc7 hf7
   try simp only [Act.put, List.setIfInBounds_toArray, List.set_cons_zero, List.set_cons_succ]
   refine one_opG (i := 13) (by kernel_rfl) rfl (fun K hK => ?_)
   go_simp
   refine (HL0.out _ _ _ _ c HC7.out (HCX.out _ HF7.out) HOR.out HRC.out (by simp) (by have := HCL.out; have := HCK.out; omega)).mono ?_
   rintro e Z5 ⟨rfl, hf8⟩; rw [HP2.out]
   have hS := HKS.out _ _ hf8 hS
   refine hK.out _ _ hS ?_
   clear hK K
   have HF8 := Lib.hid (HF7.out.then1 hf8); have HQ8 := Lib.hid (HQ7.out.keep0 hf8); clear hf8
   try simp only [Act.put, List.setIfInBounds_toArray, List.set_cons_zero, List.set_cons_succ]
   refine tkG 14 49 rfl rfl (v := ?_) (.inl ⟨by rfl, ?_⟩) ?_
   rotate_left 1
   · (intro w hSw; (try dsimp only at hSw); go_simp; (try with_reducible rfl))
   refine tkG 15 50 rfl rfl (v := ?_) (.inl ⟨by rfl, ?_⟩) ?_
   rotate_left 1
   · (intro w hSw; (try dsimp only at hSw); go_simp; (try with_reducible rfl))
   try simp only [Act.put, List.setIfInBounds_toArray, List.set_cons_zero, List.set_cons_succ]
   refine tkS 16 51 rfl rfl ?_
   refine tkS 17 52 rfl rfl ?_
   try simp only [Act.put, List.setIfInBounds_toArray, List.set_cons_zero, List.set_cons_succ]
   refine tkS 18 53 rfl rfl ?_
   refine tkS 19 54 rfl rfl ?_
   try simp only [Act.put, List.setIfInBounds_toArray, List.set_cons_zero, List.set_cons_succ]
   refine tkG 20 55 rfl rfl (v := ?_) (.inl ⟨by rfl, ?_⟩) ?_
   rotate_left 1
   · (intro w hSw; (try dsimp only at hSw); go_simp; (try with_reducible rfl))
   try simp only [Act.put, List.setIfInBounds_toArray, List.set_cons_zero, List.set_cons_succ]
   refine last_opG (by kernel_rfl) (by kernel_rfl) rfl (fun K hK => ?_)
   go_simp
   refine hK.out _ _ ?_
   clear hK K hS
   go_wp2
   go_ret
   exact ⟨rfl, HF8.out⟩
  | true =>
   go_enter Tryz.func23, Tryz.ntmps23
   go_wp2_with (first
    | (go_at_call 71; refine (HNM.out _).mono ?_; rintro e w1 ⟨rfl, hw1⟩; obtain ⟨y0, y1, y2, y3, y4, y5, y6, y7, y8, y9⟩ := HBX.out w1 hw1; have HW1 := Lib.hid hw1; clear hw1)
    | (go_at_call 72; refine (HCR.out _ (HFA.out.then1 HW1.out)).mono ?_; rintro e w2 ⟨rfl, hw2⟩; clear y0 y1 y2 y3 y4 y5 y6 y7 y8 y9; obtain ⟨y0, y1, y2, y3, y4, y5, y6, y7, y8, y9⟩ := HBX.out w2 (HW1.out.then1 hw2); obtain ⟨hvc, hvf⟩ := HVC.out w2; have hbl : w.heap.size < w2.heap.size := World.block_lt_of_cell? _ _ y0; have HW2 := Lib.hid (HW1.out.then1 hw2); clear hw2))
   clear y0 y1 y2 y3 y4 y5 y6 y7 y8 y9 hvc hvf hbl
   have hvs := HVS.out w2
   have HFV := Lib.hid (HW2.out.then1 hvs.2)
   obtain ⟨y0, y1, y2, y3, y4, y5, y6, y7, y8, y9⟩ := HBX.out _ HFV.out
   have vs0 := hvs.1 0 (by decide)
   have vs1 := hvs.1 1 (by decide)
   have vs2 := hvs.1 2 (by decide)
   have vs3 := hvs.1 3 (by decide)
   clear hvs HW2
   generalize w2.heap.size = vb at *
   generalize (w2.alloc (.cells (([.int .i64 v0, .int .i64 v1, .int .i64 v2, .int .i64 v3] : List Value).set dn (.int .i64 af)).toArray 23)) = X0 at *
   refine wp_region_G (S := fun w' => w'.cell? ⟨w.heap.size, 0, none⟩ = some (.int .i64 dn) ∧ w'.cell? ⟨w.heap.size, 1, none⟩ = some (.int .i64 af) ∧ w'.cell? ⟨w.heap.size, 2, none⟩ = some (.int .i64 la) ∧ w'.cell? ⟨w.heap.size, 3, none⟩ = some (.int .i64 v0) ∧ w'.cell? ⟨w.heap.size, 4, none⟩ = some (.int .i64 v1) ∧ w'.cell? ⟨w.heap.size, 5, none⟩ = some (.int .i64 v2) ∧ w'.cell? ⟨w.heap.size, 6, none⟩ = some (.int .i64 v3) ∧ w'.cell? ⟨w.heap.size, 7, none⟩ = some (.slice a0 0 c0) ∧ w'.cell? ⟨w.heap.size, 8, none⟩ = some (.slice a1 m c1) ∧ w'.cell? ⟨w.heap.size, 9, none⟩ = some (.slice a2 k c2) ∧ w'.cell? ⟨vb, 0, none⟩ = some (.int .i64 (g 0)) ∧ w'.cell? ⟨vb, 1, none⟩ = some (.int .i64 (g 1)) ∧ w'.cell? ⟨vb, 2, none⟩ = some (.int .i64 (g 2)) ∧ w'.cell? ⟨vb, 3, none⟩ = some (.int .i64 (g 3))) 6 (by kernel_rfl) ⟨y0, y1, y2, y3, y4, y5, y6, y7, y8, y9, vs0, vs1, vs2, vs3⟩ ?_
   intro hS
   have HKS := Lib.hid (fun Y Y' (f : Frm NoS Y Y') (hS : Y.cell? ⟨w.heap.size, 0, none⟩ = some (.int .i64 dn) ∧ Y.cell? ⟨w.heap.size, 1, none⟩ = some (.int .i64 af) ∧ Y.cell? ⟨w.heap.size, 2, none⟩ = some (.int .i64 la) ∧ Y.cell? ⟨w.heap.size, 3, none⟩ = some (.int .i64 v0) ∧ Y.cell? ⟨w.heap.size, 4, none⟩ = some (.int .i64 v1) ∧ Y.cell? ⟨w.heap.size, 5, none⟩ = some (.int .i64 v2) ∧ Y.cell? ⟨w.heap.size, 6, none⟩ = some (.int .i64 v3) ∧ Y.cell? ⟨w.heap.size, 7, none⟩ = some (.slice a0 0 c0) ∧ Y.cell? ⟨w.heap.size, 8, none⟩ = some (.slice a1 m c1) ∧ Y.cell? ⟨w.heap.size, 9, none⟩ = some (.slice a2 k c2) ∧ Y.cell? ⟨vb, 0, none⟩ = some (.int .i64 (g 0)) ∧ Y.cell? ⟨vb, 1, none⟩ = some (.int .i64 (g 1)) ∧ Y.cell? ⟨vb, 2, none⟩ = some (.int .i64 (g 2)) ∧ Y.cell? ⟨vb, 3, none⟩ = some (.int .i64 (g 3))) => (⟨f.cell' hS.1 id, f.cell' hS.2.1 id, f.cell' hS.2.2.1 id, f.cell' hS.2.2.2.1 id, f.cell' hS.2.2.2.2.1 id, f.cell' hS.2.2.2.2.2.1 id, f.cell' hS.2.2.2.2.2.2.1 id, f.cell' hS.2.2.2.2.2.2.2.1 id, f.cell' hS.2.2.2.2.2.2.2.2.1 id, f.cell' hS.2.2.2.2.2.2.2.2.2.1 id, f.cell' hS.2.2.2.2.2.2.2.2.2.2.1 id, f.cell' hS.2.2.2.2.2.2.2.2.2.2.2.1 id, f.cell' hS.2.2.2.2.2.2.2.2.2.2.2.2.1 id, f.cell' hS.2.2.2.2.2.2.2.2.2.2.2.2.2 id⟩ : Y'.cell? ⟨w.heap.size, 0, none⟩ = some (.int .i64 dn) ∧ Y'.cell? ⟨w.heap.size, 1, none⟩ = some (.int .i64 af) ∧ Y'.cell? ⟨w.heap.size, 2, none⟩ = some (.int .i64 la) ∧ Y'.cell? ⟨w.heap.size, 3, none⟩ = some (.int .i64 v0) ∧ Y'.cell? ⟨w.heap.size, 4, none⟩ = some (.int .i64 v1) ∧ Y'.cell? ⟨w.heap.size, 5, none⟩ = some (.int .i64 v2) ∧ Y'.cell? ⟨w.heap.size, 6, none⟩ = some (.int .i64 v3) ∧ Y'.cell? ⟨w.heap.size, 7, none⟩ = some (.slice a0 0 c0) ∧ Y'.cell? ⟨w.heap.size, 8, none⟩ = some (.slice a1 m c1) ∧ Y'.cell? ⟨w.heap.size, 9, none⟩ = some (.slice a2 k c2) ∧ Y'.cell? ⟨vb, 0, none⟩ = some (.int .i64 (g 0)) ∧ Y'.cell? ⟨vb, 1, none⟩ = some (.int .i64 (g 1)) ∧ Y'.cell? ⟨vb, 2, none⟩ = some (.int .i64 (g 2)) ∧ Y'.cell? ⟨vb, 3, none⟩ = some (.int .i64 (g 3))))
   have HFY := Lib.hid ((HFA.out.then1 HFV.out).then1 (Frm.drew NoS X0))
   clear y0 y1 y2 y3 y4 y5 y6 y7 y8 y9 vs0 vs1 vs2 vs3 HFV
   generalize X0.drew = Y at *
   refine tkG 0 29 rfl rfl (v := ?_) (.inl ⟨by rfl, ?_⟩) ?_
   rotate_left 1
   · (intro w hSw; (try dsimp only at hSw); go_simp; (try with_reducible rfl))
   refine tkG 1 30 rfl rfl (v := ?_) (.inl ⟨by rfl, ?_⟩) ?_
   rotate_left 1
   · (intro w hSw; (try dsimp only at hSw); go_simp; (try with_reducible rfl))
   try simp only [Act.put, List.setIfInBounds_toArray, List.set_cons_zero, List.set_cons_succ]
   refine tkG 2 31 rfl rfl (v := ?_) (.inl ⟨by rfl, ?_⟩) ?_
   rotate_left 1
   · (intro w hSw; (try dsimp only at hSw); go_simp; (try with_reducible rfl))
   refine tkG 3 32 rfl rfl (v := ?_) (.inl ⟨by rfl, ?_⟩) ?_
   rotate_left 1
   · (intro w hSw; (try dsimp only at hSw); go_simp; (try with_reducible rfl))
   try simp only [Act.put, List.setIfInBounds_toArray, List.set_cons_zero, List.set_cons_succ]
   refine one_opG (i := 4) (by kernel_rfl) rfl (fun K hK => ?_)
   go_simp
   refine (HOW.out _ HNN.out).mono ?_
   rintro e Y1 ⟨v1', rfl, hc1, hf1⟩; obtain ⟨b1a, b1c, rfl⟩ : ∃ a c, v1' = .slice a 1 c := Rd.sl hc1
   have hS := HKS.out _ _ hf1 hS
   refine hK.out _ _ hS ?_
   clear hK K
   have HF1 := Lib.hid (HFY.out.then1 hf1); have HC1 := Lib.hid hc1; clear hc1 hf1
   try simp only [Act.put, List.setIfInBounds_toArray, List.set_cons_zero, List.set_cons_succ]
   refine one_opG (i := 5) (by kernel_rfl) rfl (fun K hK => ?_)
   go_simp
   refine (HB0.out _ _ _ c _ (HCX.out _ HF1.out) HC1.out HRC.out HOR.out (by have := HCL.out; have := HCK.out; omega) (by simp)).mono ?_
   rintro e Y2 ⟨v2', q, rfl, ho2, hby, -⟩; obtain ⟨b2a, b2c, rfl⟩ := ho2.shape; have hf2 := ho2.frm
   have hS := HKS.out _ _ hf2 hS
   refine hK.out _ _ hS ?_
   clear hK K
   have HF2 := Lib.hid (HF1.out.then1 hf2); have HO2 := Lib.hid ho2; have HBC := Lib.hid hby; clear ho2 hf2 hby
   try simp only [Act.put, List.setIfInBounds_toArray, List.set_cons_zero, List.set_cons_succ]
   refine last_opG (by kernel_rfl) (by kernel_rfl) rfl (fun K hK => ?_)
   go_simp
   refine hK.out _ _ ?_
   clear hK K
   go_wp2_with fail
   refine wp_region_G (S := fun w' => w'.cell? ⟨w.heap.size, 0, none⟩ = some (.int .i64 dn) ∧ w'.cell? ⟨w.heap.size, 1, none⟩ = some (.int .i64 af) ∧ w'.cell? ⟨w.heap.size, 2, none⟩ = some (.int .i64 la) ∧ w'.cell? ⟨w.heap.size, 3, none⟩ = some (.int .i64 v0) ∧ w'.cell? ⟨w.heap.size, 4, none⟩ = some (.int .i64 v1) ∧ w'.cell? ⟨w.heap.size, 5, none⟩ = some (.int .i64 v2) ∧ w'.cell? ⟨w.heap.size, 6, none⟩ = some (.int .i64 v3) ∧ w'.cell? ⟨w.heap.size, 7, none⟩ = some (.slice a0 0 c0) ∧ w'.cell? ⟨w.heap.size, 8, none⟩ = some (.slice a1 m c1) ∧ w'.cell? ⟨w.heap.size, 9, none⟩ = some (.slice a2 k c2) ∧ w'.cell? ⟨vb, 0, none⟩ = some (.int .i64 (g 0)) ∧ w'.cell? ⟨vb, 1, none⟩ = some (.int .i64 (g 1)) ∧ w'.cell? ⟨vb, 2, none⟩ = some (.int .i64 (g 2)) ∧ w'.cell? ⟨vb, 3, none⟩ = some (.int .i64 (g 3))) 21 (by kernel_rfl) ⟨(Frm.drew NoS Y2).cell' hS.1 id, (Frm.drew NoS Y2).cell' hS.2.1 id, (Frm.drew NoS Y2).cell' hS.2.2.1 id, (Frm.drew NoS Y2).cell' hS.2.2.2.1 id, (Frm.drew NoS Y2).cell' hS.2.2.2.2.1 id, (Frm.drew NoS Y2).cell' hS.2.2.2.2.2.1 id, (Frm.drew NoS Y2).cell' hS.2.2.2.2.2.2.1 id, (Frm.drew NoS Y2).cell' hS.2.2.2.2.2.2.2.1 id, (Frm.drew NoS Y2).cell' hS.2.2.2.2.2.2.2.2.1 id, (Frm.drew NoS Y2).cell' hS.2.2.2.2.2.2.2.2.2.1 id, (Frm.drew NoS Y2).cell' hS.2.2.2.2.2.2.2.2.2.2.1 id, (Frm.drew NoS Y2).cell' hS.2.2.2.2.2.2.2.2.2.2.2.1 id, (Frm.drew NoS Y2).cell' hS.2.2.2.2.2.2.2.2.2.2.2.2.1 id, (Frm.drew NoS Y2).cell' hS.2.2.2.2.2.2.2.2.2.2.2.2.2 id⟩ ?_
   clear hS
   intro hS
   have HKS := Lib.hid (fun Y Y' (f : Frm NoS Y Y') (hS : Y.cell? ⟨w.heap.size, 0, none⟩ = some (.int .i64 dn) ∧ Y.cell? ⟨w.heap.size, 1, none⟩ = some (.int .i64 af) ∧ Y.cell? ⟨w.heap.size, 2, none⟩ = some (.int .i64 la) ∧ Y.cell? ⟨w.heap.size, 3, none⟩ = some (.int .i64 v0) ∧ Y.cell? ⟨w.heap.size, 4, none⟩ = some (.int .i64 v1) ∧ Y.cell? ⟨w.heap.size, 5, none⟩ = some (.int .i64 v2) ∧ Y.cell? ⟨w.heap.size, 6, none⟩ = some (.int .i64 v3) ∧ Y.cell? ⟨w.heap.size, 7, none⟩ = some (.slice a0 0 c0) ∧ Y.cell? ⟨w.heap.size, 8, none⟩ = some (.slice a1 m c1) ∧ Y.cell? ⟨w.heap.size, 9, none⟩ = some (.slice a2 k c2) ∧ Y.cell? ⟨vb, 0, none⟩ = some (.int .i64 (g 0)) ∧ Y.cell? ⟨vb, 1, none⟩ = some (.int .i64 (g 1)) ∧ Y.cell? ⟨vb, 2, none⟩ = some (.int .i64 (g 2)) ∧ Y.cell? ⟨vb, 3, none⟩ = some (.int .i64 (g 3))) => (⟨f.cell' hS.1 id, f.cell' hS.2.1 id, f.cell' hS.2.2.1 id, f.cell' hS.2.2.2.1 id, f.cell' hS.2.2.2.2.1 id, f.cell' hS.2.2.2.2.2.1 id, f.cell' hS.2.2.2.2.2.2.1 id, f.cell' hS.2.2.2.2.2.2.2.1 id, f.cell' hS.2.2.2.2.2.2.2.2.1 id, f.cell' hS.2.2.2.2.2.2.2.2.2.1 id, f.cell' hS.2.2.2.2.2.2.2.2.2.2.1 id, f.cell' hS.2.2.2.2.2.2.2.2.2.2.2.1 id, f.cell' hS.2.2.2.2.2.2.2.2.2.2.2.2.1 id, f.cell' hS.2.2.2.2.2.2.2.2.2.2.2.2.2 id⟩ : Y'.cell? ⟨w.heap.size, 0, none⟩ = some (.int .i64 dn) ∧ Y'.cell? ⟨w.heap.size, 1, none⟩ = some (.int .i64 af) ∧ Y'.cell? ⟨w.heap.size, 2, none⟩ = some (.int .i64 la) ∧ Y'.cell? ⟨w.heap.size, 3, none⟩ = some (.int .i64 v0) ∧ Y'.cell? ⟨w.heap.size, 4, none⟩ = some (.int .i64 v1) ∧ Y'.cell? ⟨w.heap.size, 5, none⟩ = some (.int .i64 v2) ∧ Y'.cell? ⟨w.heap.size, 6, none⟩ = some (.int .i64 v3) ∧ Y'.cell? ⟨w.heap.size, 7, none⟩ = some (.slice a0 0 c0) ∧ Y'.cell? ⟨w.heap.size, 8, none⟩ = some (.slice a1 m c1) ∧ Y'.cell? ⟨w.heap.size, 9, none⟩ = some (.slice a2 k c2) ∧ Y'.cell? ⟨vb, 0, none⟩ = some (.int .i64 (g 0)) ∧ Y'.cell? ⟨vb, 1, none⟩ = some (.int .i64 (g 1)) ∧ Y'.cell? ⟨vb, 2, none⟩ = some (.int .i64 (g 2)) ∧ Y'.cell? ⟨vb, 3, none⟩ = some (.int .i64 (g 3))))
   have HF3 := Lib.hid (HF2.out.then1 (Frm.drew NoS Y2))
   have HQ3 := Lib.hid (HO2.out.rd.keep0 (Frm.drew NoS Y2))
   have HQL := Lib.hid (show q.length ≤ 4 * (c.length + 1) from HBC.out.minus_length HRC.out HOR.out)
   generalize Y2.drew = Z at *
   refine tkG 0 35 rfl rfl (v := ?_) (.inl ⟨by rfl, ?_⟩) ?_
   rotate_left 1
   · (intro w hSw; (try dsimp only at hSw); go_simp; (try with_reducible rfl))
   refine tkG 1 36 rfl rfl (v := ?_) (.inl ⟨by rfl, ?_⟩) ?_
   rotate_left 1
   · (intro w hSw; (try dsimp only at hSw); go_simp; (try with_reducible rfl))
   try simp only [Act.put, List.setIfInBounds_toArray, List.set_cons_zero, List.set_cons_succ]
   refine tkG 2 37 rfl rfl (v := ?_) (.inl ⟨by rfl, ?_⟩) ?_
   rotate_left 1
   · (intro w hSw; (try dsimp only at hSw); go_simp; (try with_reducible rfl))
   refine tkG 4 39 rfl rfl (v := ?_) (.inl ⟨by rfl, ?_⟩) ?_
   rotate_left 1
   · (intro w hSw; (try dsimp only at hSw); go_simp; (try with_reducible rfl))
   try simp only [Act.put, List.setIfInBounds_toArray, List.set_cons_zero, List.set_cons_succ]
   refine one_opG (i := 3) (by kernel_rfl) rfl (fun K hK => ?_)
   go_simp
   refine (HDT.out _ HF3.out HDO.out).mono ?_
   rintro e Z1 ⟨v1', d, rfl, ho4, hof, hl4⟩; obtain ⟨d1a, d1c, rfl⟩ := ho4.shape; have hf4 := ho4.frm
   have hS := HKS.out _ _ hf4 hS
   refine hK.out _ _ hS ?_
   clear hK K
   have HF4 := Lib.hid (HF3.out.then1 hf4); have HQ4 := Lib.hid (HQ3.out.keep0 hf4); have HO4 := Lib.hid ho4; have HOF := Lib.hid hof; have HL4 := Lib.hid hl4; clear ho4 hf4 hof hl4
   try simp only [Act.put, List.setIfInBounds_toArray, List.set_cons_zero, List.set_cons_succ]
   refine one_opG (i := 5) (by kernel_rfl) rfl (fun K hK => ?_)
   go_simp
   refine (HOW.out _ HNN.out).mono ?_
   rintro e Z2 ⟨v2', rfl, hc5, hf5⟩; obtain ⟨d2a, d2c, rfl⟩ : ∃ a c, v2' = .slice a 1 c := Rd.sl hc5
   have hS := HKS.out _ _ hf5 hS
   refine hK.out _ _ hS ?_
   clear hK K
   have HF5 := Lib.hid (HF4.out.then1 hf5); have HQ5 := Lib.hid (HQ4.out.keep0 hf5); have HD5 := Lib.hid (HO4.out.rd.keep0 hf5); have HC5 := Lib.hid hc5; clear hc5 hf5
   try simp only [Act.put, List.setIfInBounds_toArray, List.set_cons_zero, List.set_cons_succ]
   refine one_opG (i := 6) (by kernel_rfl) rfl (fun K hK => ?_)
   go_simp
   refine (HL0.out _ _ _ d _ HD5.out HC5.out HOF.out.right HOR.out (by have := HL4.out; omega) (by simp)).mono ?_
   rintro e Z3 ⟨rfl, hf6⟩; rw [HP1.out d HOF.out]
   have hS := HKS.out _ _ hf6 hS
   refine hK.out _ _ hS ?_
   clear hK K
   have HF6 := Lib.hid (HF5.out.then1 hf6); have HQ6 := Lib.hid (HQ5.out.keep0 hf6); clear hf6
   try simp only [Act.put, List.setIfInBounds_toArray, List.set_cons_zero, List.set_cons_succ]
   refine tkG 7 42 rfl rfl (v := ?_) (.inl ⟨by rfl, ?_⟩) ?_
   rotate_left 1
   · (intro w hSw; (try dsimp only at hSw); go_simp; (try with_reducible rfl))
   refine tkG 8 43 rfl rfl (v := ?_) (.inl ⟨by rfl, ?_⟩) ?_
   rotate_left 1
   · (intro w hSw; (try dsimp only at hSw); go_simp; (try with_reducible rfl))
   try simp only [Act.put, List.setIfInBounds_toArray, List.set_cons_zero, List.set_cons_succ]
   refine tkG 10 45 rfl rfl (v := ?_) (.inl ⟨by rfl, ?_⟩) ?_
   rotate_left 1
   · (intro w hSw; (try dsimp only at hSw); go_simp; (try with_reducible rfl))
   refine tkG 11 46 rfl rfl (v := ?_) (.inl ⟨by rfl, ?_⟩) ?_
   rotate_left 1
   · (intro w hSw; (try dsimp only at hSw); go_simp; (try with_reducible rfl))
   try simp only [Act.put, List.setIfInBounds_toArray, List.set_cons_zero, List.set_cons_succ]
   refine tkG 12 47 rfl rfl (v := ?_) (.inl ⟨by rfl, ?_⟩) ?_
   rotate_left 1
   · (intro w hSw; (try dsimp only at hSw); go_simp; (try with_reducible rfl))
   try simp only [Act.put, List.setIfInBounds_toArray, List.set_cons_zero, List.set_cons_succ]
   refine one_opG (i := 9) (by kernel_rfl) rfl (fun K hK => ?_)
   go_simp
   refine (HOW.out _ HNN.out).mono ?_
   rintro e Z4 ⟨v4', rfl, hc7, hf7⟩; obtain ⟨d4a, d4c, rfl⟩ : ∃ a c, v4' = .slice a 1 c := Rd.sl hc7
   have hS := HKS.out _ _ hf7 hS
   refine hK.out _ _ hS ?_
   clear hK K
   have HF7 := Lib.hid (HF6.out.then1 hf7); have HQ7 := Lib.hid (HQ6.out.keep0 hf7); have HC7 := Lib.hid hc7; clear hc7 hf7
   try simp only [Act.put, List.setIfInBounds_toArray, List.set_cons_zero, List.set_cons_succ]
   refine one_opG (i := 13) (by kernel_rfl) rfl (fun K hK => ?_)
   go_simp
   refine (HL0.out _ _ _ _ c HC7.out (HCX.out _ HF7.out) HOR.out HRC.out (by simp) (by have := HCL.out; have := HCK.out; omega)).mono ?_
   rintro e Z5 ⟨rfl, hf8⟩; rw [HP2.out]
   have hS := HKS.out _ _ hf8 hS
   refine hK.out _ _ hS ?_
   clear hK K
   have HF8 := Lib.hid (HF7.out.then1 hf8); have HQ8 := Lib.hid (HQ7.out.keep0 hf8); clear hf8
   try simp only [Act.put, List.setIfInBounds_toArray, List.set_cons_zero, List.set_cons_succ]
   refine tkG 14 49 rfl rfl (v := ?_) (.inl ⟨by rfl, ?_⟩) ?_
   rotate_left 1
   · (intro w hSw; (try dsimp only at hSw); go_simp; (try with_reducible rfl))
   refine tkG 15 50 rfl rfl (v := ?_) (.inl ⟨by rfl, ?_⟩) ?_
   rotate_left 1
   · (intro w hSw; (try dsimp only at hSw); go_simp; (try with_reducible rfl))
   try simp only [Act.put, List.setIfInBounds_toArray, List.set_cons_zero, List.set_cons_succ]
   refine tkG 16 51 rfl rfl (v := ?_) (.inl ⟨by rfl, ?_⟩) ?_
   rotate_left 1
   · (intro w hSw; (try dsimp only at hSw); go_simp; (try with_reducible rfl))
   refine tkG 17 52 rfl rfl (v := ?_) (.inl ⟨by rfl, ?_⟩) ?_
   rotate_left 1
   · (intro w hSw; (try dsimp only at hSw); go_simp; (try with_reducible rfl))
   try simp only [Act.put, List.setIfInBounds_toArray, List.set_cons_zero, List.set_cons_succ]
   refine one_opG (i := 18) (by kernel_rfl) rfl (fun K hK => ?_)
   go_simp
   refine (r7Full_any _ (g 0) (g 1) (g 2) (g 3)).mono ?_
   rintro e Z6 ⟨v6', rfl, ho9, hl9⟩; rw [HVF.out] at ho9 hl9; obtain ⟨d6a, d6c, rfl⟩ := ho9.shape; have hf9 := ho9.frm
   have hS := HKS.out _ _ hf9 hS
   refine hK.out _ _ hS ?_
   clear hK K
   have HF9 := Lib.hid (HF8.out.then1 hf9); have HQ9 := Lib.hid (HQ8.out.keep0 hf9); have HO9 := Lib.hid ho9; have HL9 := Lib.hid hl9; clear ho9 hf9 hl9
   try simp only [Act.put, List.setIfInBounds_toArray, List.set_cons_zero, List.set_cons_succ]
   refine one_opG (i := 19) (by kernel_rfl) rfl (fun K hK => ?_)
   go_simp
   refine (HL0.out _ _ _ q _ HQ9.out HO9.out.rd HBC.out.right HFR.out (by have := HQL.out; have := HCL.out; have := HCK.out; omega) (by have := HL9.out; omega)).mono ?_
   rintro e Z7 ⟨rfl, hf10⟩; rw [HP3.out q HBC.out]
   have hS := HKS.out _ _ hf10 hS
   refine hK.out _ _ hS ?_
   clear hK K
   have HF10 := Lib.hid (HF9.out.then1 hf10); clear hf10
   try simp only [Act.put, List.setIfInBounds_toArray, List.set_cons_zero, List.set_cons_succ]
   refine tkG 20 55 rfl rfl (v := ?_) (.inl ⟨by rfl, ?_⟩) ?_
   rotate_left 1
   · (intro w hSw; (try dsimp only at hSw); go_simp; (try with_reducible rfl))
   try simp only [Act.put, List.setIfInBounds_toArray, List.set_cons_zero, List.set_cons_succ]
   refine last_opG (by kernel_rfl) (by kernel_rfl) rfl (fun K hK => ?_)
   go_simp
   refine hK.out _ _ ?_
   clear hK K hS
   go_wp2
   go_ret
   exact ⟨rfl, HF10.out⟩
end Go.Proofs.YtcahemkomfaabaaGreat
