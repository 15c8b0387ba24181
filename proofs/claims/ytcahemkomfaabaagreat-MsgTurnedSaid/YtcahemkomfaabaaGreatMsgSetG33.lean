/- Words for the law MsgSet: Sol9, R25a, MsgDec0. -/
import Derived.Test.YtcahemkomfaabaaGreatMsgSetG9
import Derived.Test.YtcahemkomfaabaaGreatMsgSetG16
import Derived.Test.YtcahemkomfaabaaGreatMsgSetG17
import Derived.Test.YtcahemkomfaabaaGreatMsgSetG18
import Derived.Test.YtcahemkomfaabaaGreatMsgSetG19
import Derived.Test.YtcahemkomfaabaaGreatMsgSetG24
import Derived.Test.YtcahemkomfaabaaGreatMsgSetG25
import Derived.Test.YtcahemkomfaabaaGreatMsgSetG26
import Derived.Test.YtcahemkomfaabaaGreatMsgSetG30
import Derived.Test.YtcahemkomfaabaaGreatMsgSetG31
import Derived.Test.YtcahemkomfaabaaGreatMsgSetG32
set_option linter.unusedSimpArgs false
set_option linter.unusedVariables false
set_option maxHeartbeats 32000000
set_option maxRecDepth 1000000
namespace Go.Proofs.YtcahemkomfaabaaGreat
open Go.RowKit
def Sol9 (es : List Ent) (ks : KidsL) (c : CtxL) : Prop := CauRight es ks c ∧ es = [] ∧ c = fullL (frV c)
theorem r9Solid_any (Q : Nat → Prop) (es : List Ent) (ks : KidsL) (c : CtxL) (w : World) (ev kv cv : Value) (h : CauAt Q w ev kv cv es ks c) (hok : CauOk es ks c) :
 Calls Tryz.prog 37 #[.agg #[ev, kv, cv]] w fun e w' => e = .returned (.bool (tf (Sol9 es ks c))) ∧ Frm NoS w w' := by
 obtain ⟨a0, c0, a1, c1, a2, c2, rfl, rfl, rfl⟩ := h.shape
 have HT := Lib.hid (fun W (f : Frm NoS w W) => r9Right_any Q es ks c W _ _ _ (h.keep0 f) hok)
 have HBX := Lib.hid (box3 w (.slice a0 es.length c0) (.slice a1 ks.len c1) (.slice a2 c.length c2) 32)
 by_cases hr : CauRight es ks c
 rotate_left 1
 · rw [tf_false hr] at HT
   rw [tf_false (show ¬ Sol9 es ks c from fun h => hr h.1)]
   clear hr h hok
   generalize es.length = n at *
   generalize ks.len = m at *
   generalize c.length = k at *
   have hfa : Frm NoS w (w.alloc (.cells #[.slice a0 n c0, .slice a1 m c1, .slice a2 k c2] 32)) := Frm.alloc _ _ _
   go_enter Tryz.func37, Tryz.ntmps37
   go_wp2_with fail
   refine wp_region_G (S := fun w' => w'.cell? ⟨w.heap.size, 0, none⟩ = some (.slice a0 n c0) ∧ w'.cell? ⟨w.heap.size, 1, none⟩ = some (.slice a1 m c1) ∧ w'.cell? ⟨w.heap.size, 2, none⟩ = some (.slice a2 k c2)) 18 (by kernel_rfl) (HBX.out _ (Frm.drew _ _)) ?_
   intro hS
   have HFY := Lib.hid (hfa.drew1)
   generalize (w.alloc (.cells #[.slice a0 n c0, .slice a1 m c1, .slice a2 k c2] 32)).drew = Y at *
   clear hfa
   refine tkG 0 3 rfl rfl (v := ?_) (.inl ⟨by rfl, ?_⟩) ?_
   rotate_left 1
   · (intro w hSw; (try dsimp only at hSw); go_simp; (try with_reducible rfl))
   try simp only [Act.put, List.setIfInBounds_toArray, List.set_cons_zero, List.set_cons_succ]
   refine one_opG (i := 1) (by kernel_rfl) rfl (fun K hK => ?_)
   go_simp
   refine (HT.out _ HFY.out).mono ?_
   rintro e Y1 ⟨rfl, hf1⟩
   have hS := (⟨hf1.cell' hS.1 id, hf1.cell' hS.2.1 id, hf1.cell' hS.2.2 id⟩ : Y1.cell? ⟨w.heap.size, 0, none⟩ = some (.slice a0 n c0) ∧ Y1.cell? ⟨w.heap.size, 1, none⟩ = some (.slice a1 m c1) ∧ Y1.cell? ⟨w.heap.size, 2, none⟩ = some (.slice a2 k c2))
   refine hK.out _ _ hS ?_
   clear hK K
   have HF1 := Lib.hid (HFY.out.then1 hf1); clear hf1
   try simp only [Act.put, List.setIfInBounds_toArray, List.set_cons_zero, List.set_cons_succ]
   refine tkG 2 5 rfl rfl (v := ?_) (.inl ⟨by rfl, ?_⟩) ?_
   rotate_left 1
   · (intro w hSw; (try dsimp only at hSw); go_simp; (try with_reducible rfl))
   refine tkS 3 6 rfl rfl ?_
   try simp only [Act.put, List.setIfInBounds_toArray, List.set_cons_zero, List.set_cons_succ]
   refine tkS 4 7 rfl rfl ?_
   refine tkS 5 8 rfl rfl ?_
   try simp only [Act.put, List.setIfInBounds_toArray, List.set_cons_zero, List.set_cons_succ]
   refine tkS 6 9 rfl rfl ?_
   refine tkS 7 10 rfl rfl ?_
   try simp only [Act.put, List.setIfInBounds_toArray, List.set_cons_zero, List.set_cons_succ]
   refine tkG 8 11 rfl rfl (v := ?_) (.inl ⟨by rfl, ?_⟩) ?_
   rotate_left 1
   · (intro w hSw; (try dsimp only at hSw); go_simp; (try with_reducible rfl))
   refine tkG 9 12 rfl rfl (v := ?_) (.inl ⟨by rfl, ?_⟩) ?_
   rotate_left 1
   · (intro w hSw; (try dsimp only at hSw); go_simp; (try with_reducible rfl))
   try simp only [Act.put, List.setIfInBounds_toArray, List.set_cons_zero, List.set_cons_succ]
   refine tkS 10 13 rfl rfl ?_
   refine tkS 11 14 rfl rfl ?_
   try simp only [Act.put, List.setIfInBounds_toArray, List.set_cons_zero, List.set_cons_succ]
   refine tkS 12 15 rfl rfl ?_
   refine tkS 13 16 rfl rfl ?_
   try simp only [Act.put, List.setIfInBounds_toArray, List.set_cons_zero, List.set_cons_succ]
   refine tkS 14 17 rfl rfl ?_
   refine tkS 15 18 rfl rfl ?_
   try simp only [Act.put, List.setIfInBounds_toArray, List.set_cons_zero, List.set_cons_succ]
   refine tkS 16 19 rfl rfl ?_
   refine tkG 17 20 rfl rfl (v := ?_) (.inl ⟨by rfl, ?_⟩) ?_
   rotate_left 1
   · (intro w hSw; (try dsimp only at hSw); go_simp; (try with_reducible rfl))
   try simp only [Act.put, List.setIfInBounds_toArray, List.set_cons_zero, List.set_cons_succ]
   refine last_opG (by kernel_rfl) (by kernel_rfl) rfl (fun K hK => ?_)
   go_simp
   refine hK.out _ _ ?_
   clear hK K hS
   go_wp2
   go_ret
   exact ⟨rfl, HF1.out⟩
 rw [tf_true hr] at HT
 by_cases he : es = []
 rotate_left 1
 · rw [tf_false (show ¬ Sol9 es ks c from fun h => he h.2.1)]
   have hn0 : ((es.length : Int) == 0) = false := beq_false_of_ne (by
    have : 0 < es.length := List.length_pos_iff.2 he
    omega)
   clear hr h hok he
   generalize es.length = n at *
   generalize ks.len = m at *
   generalize c.length = k at *
   have hfa : Frm NoS w (w.alloc (.cells #[.slice a0 n c0, .slice a1 m c1, .slice a2 k c2] 32)) := Frm.alloc _ _ _
   go_enter Tryz.func37, Tryz.ntmps37
   go_wp2_with fail
   refine wp_region_G (S := fun w' => w'.cell? ⟨w.heap.size, 0, none⟩ = some (.slice a0 n c0) ∧ w'.cell? ⟨w.heap.size, 1, none⟩ = some (.slice a1 m c1) ∧ w'.cell? ⟨w.heap.size, 2, none⟩ = some (.slice a2 k c2)) 18 (by kernel_rfl) (HBX.out _ (Frm.drew _ _)) ?_
   intro hS
   have HFY := Lib.hid (hfa.drew1)
   generalize (w.alloc (.cells #[.slice a0 n c0, .slice a1 m c1, .slice a2 k c2] 32)).drew = Y at *
   clear hfa
   refine tkG 0 3 rfl rfl (v := ?_) (.inl ⟨by rfl, ?_⟩) ?_
   rotate_left 1
   · (intro w hSw; (try dsimp only at hSw); go_simp; (try with_reducible rfl))
   try simp only [Act.put, List.setIfInBounds_toArray, List.set_cons_zero, List.set_cons_succ]
   refine one_opG (i := 1) (by kernel_rfl) rfl (fun K hK => ?_)
   go_simp
   refine (HT.out _ HFY.out).mono ?_
   rintro e Y1 ⟨rfl, hf1⟩
   have hS := (⟨hf1.cell' hS.1 id, hf1.cell' hS.2.1 id, hf1.cell' hS.2.2 id⟩ : Y1.cell? ⟨w.heap.size, 0, none⟩ = some (.slice a0 n c0) ∧ Y1.cell? ⟨w.heap.size, 1, none⟩ = some (.slice a1 m c1) ∧ Y1.cell? ⟨w.heap.size, 2, none⟩ = some (.slice a2 k c2))
   refine hK.out _ _ hS ?_
   clear hK K
   have HF1 := Lib.hid (HFY.out.then1 hf1); clear hf1
   try simp only [Act.put, List.setIfInBounds_toArray, List.set_cons_zero, List.set_cons_succ]
   refine tkG 2 5 rfl rfl (v := ?_) (.inl ⟨by rfl, ?_⟩) ?_
   rotate_left 1
   · (intro w hSw; (try dsimp only at hSw); go_simp; (try with_reducible rfl))
   refine tkG 3 6 rfl rfl (v := ?_) (.inl ⟨by rfl, ?_⟩) ?_
   rotate_left 1
   · (intro w hSw; (try dsimp only at hSw); go_simp; (try with_reducible rfl))
   try simp only [Act.put, List.setIfInBounds_toArray, List.set_cons_zero, List.set_cons_succ]
   refine tkG 4 7 rfl rfl (v := ?_) (.inl ⟨by rfl, ?_⟩) ?_
   rotate_left 1
   · (intro w hSw; (try dsimp only at hSw); go_simp; (try with_reducible rfl))
   refine tkG 5 8 rfl rfl (v := ?_) (.inl ⟨by rfl, ?_⟩) ?_
   rotate_left 1
   · (intro w hSw; (try dsimp only at hSw); go_simp; (try with_reducible rfl))
   try simp only [Act.put, List.setIfInBounds_toArray, List.set_cons_zero, List.set_cons_succ]
   refine tkG 6 9 rfl rfl (v := ?_) (.inl ⟨by rfl, ?_⟩) ?_
   rotate_left 1
   · (intro w hSw; (try dsimp only at hSw); go_simp; (try with_reducible rfl))
   refine tkG 7 10 rfl rfl (v := ?_) (.inl ⟨by rfl, ?_⟩) ?_
   rotate_left 1
   · (intro w hSw; (try dsimp only at hSw); go_simp; (try with_reducible rfl))
   try simp only [Act.put, List.setIfInBounds_toArray, List.set_cons_zero, List.set_cons_succ]
   refine tkG 8 11 rfl rfl (v := ?_) (.inl ⟨by rfl, ?_⟩) ?_
   rotate_left 1
   · (intro w hSw; (try dsimp only at hSw); go_simp; (try with_reducible rfl))
   refine tkG 9 12 rfl rfl (v := ?_) (.inl ⟨by rfl, ?_⟩) ?_
   rotate_left 1
   · (intro w hSw; (try dsimp only at hSw); go_simp; (try with_reducible rfl))
   try simp only [Act.put, List.setIfInBounds_toArray, List.set_cons_zero, List.set_cons_succ]
   refine tkS 10 13 rfl rfl ?_
   refine tkS 11 14 rfl rfl ?_
   try simp only [Act.put, List.setIfInBounds_toArray, List.set_cons_zero, List.set_cons_succ]
   refine tkS 12 15 rfl rfl ?_
   refine tkS 13 16 rfl rfl ?_
   try simp only [Act.put, List.setIfInBounds_toArray, List.set_cons_zero, List.set_cons_succ]
   refine tkS 14 17 rfl rfl ?_
   refine tkS 15 18 rfl rfl ?_
   try simp only [Act.put, List.setIfInBounds_toArray, List.set_cons_zero, List.set_cons_succ]
   refine tkS 16 19 rfl rfl ?_
   refine tkG 17 20 rfl rfl (v := ?_) (.inl ⟨by rfl, ?_⟩) ?_
   rotate_left 1
   · (intro w hSw; (try dsimp only at hSw); go_simp; (try with_reducible rfl))
   try simp only [Act.put, List.setIfInBounds_toArray, List.set_cons_zero, List.set_cons_succ]
   refine last_opG (by kernel_rfl) (by kernel_rfl) rfl (fun K hK => ?_)
   go_simp
   refine hK.out _ _ ?_
   clear hK K hS
   go_wp2
   go_ret
   exact ⟨rfl, HF1.out⟩
 have HV := Lib.hid (fun W (f : Frm NoS w W) => r7Vector_any W _ c (Rd.keep0 h.ctx f) hr.ctx (by have := hok.len; omega))
 have HFL := Lib.hid (fun W => r7Full_any W (frV c 0) (frV c 1) (frV c 2) (frV c 3))
 have hfe : fullL (vecF (frV c 0) (frV c 1) (frV c 2) (frV c 3)) = fullL (frV c) := fullL_congr fun d h0 h4 => by
  rcases (by omega : d = 0 ∨ d = 1 ∨ d = 2 ∨ d = 3) with rfl | rfl | rfl | rfl <;> rfl
 rw [hfe] at HFL
 clear hfe
 have HSM := Lib.hid (fun W vb (f : Frm NoS w W) (hb : CtxAt W vb (fullL (frV c))) (lb : (fullL (frV c)).length ≤ 4) => r7Same_any W _ vb c (fullL (frV c)) (Rd.keep0 h.ctx f) hb (by have := hok.len; omega) (by omega))
 have HY := Lib.hid (show tf (Sol9 es ks c) = decide (c = fullL (frV c)) by
  by_cases hq : c = fullL (frV c)
  · rw [tf_true (show Sol9 es ks c from ⟨hr, he, hq⟩), decide_eq_true hq]
  · rw [tf_false (show ¬ Sol9 es ks c from fun h => hq h.2.2), decide_eq_false hq])
 generalize tf (Sol9 es ks c) = y at *
 generalize decide (c = fullL (frV c)) = z at *
 have hvc : vecC (fun d => frontL (partL c d)) = #[.int .i64 (frV c 0), .int .i64 (frV c 1), .int .i64 (frV c 2), .int .i64 (frV c 3)] := rfl
 rw [hvc] at HV
 clear hvc
 unfold vecV at HFL
 generalize frV c 0 = f0 at *
 generalize frV c 1 = f1 at *
 generalize frV c 2 = f2 at *
 generalize frV c 3 = f3 at *
 generalize fullL (frV c) = fl at *
 have hn0 : (es.length : Int) = 0 := by rw [he]; rfl
 clear hr h hok he
 generalize es.length = n at *
 generalize ks.len = m at *
 generalize c.length = k at *
 have hfa : Frm NoS w (w.alloc (.cells #[.slice a0 n c0, .slice a1 m c1, .slice a2 k c2] 32)) := Frm.alloc _ _ _
 go_enter Tryz.func37, Tryz.ntmps37
 go_wp2_with fail
 refine wp_region_G (S := fun w' => w'.cell? ⟨w.heap.size, 0, none⟩ = some (.slice a0 n c0) ∧ w'.cell? ⟨w.heap.size, 1, none⟩ = some (.slice a1 m c1) ∧ w'.cell? ⟨w.heap.size, 2, none⟩ = some (.slice a2 k c2)) 18 (by kernel_rfl) (HBX.out _ (Frm.drew _ _)) ?_
 intro hS
 have HFY := Lib.hid (hfa.drew1)
 generalize (w.alloc (.cells #[.slice a0 n c0, .slice a1 m c1, .slice a2 k c2] 32)).drew = Y at *
 clear hfa
 refine tkG 0 3 rfl rfl (v := ?_) (.inl ⟨by rfl, ?_⟩) ?_
 rotate_left 1
 · (intro w hSw; (try dsimp only at hSw); go_simp; (try with_reducible rfl))
 try simp only [Act.put, List.setIfInBounds_toArray, List.set_cons_zero, List.set_cons_succ]
 refine one_opG (i := 1) (by kernel_rfl) rfl (fun K hK => ?_)
 go_simp
 refine (HT.out _ HFY.out).mono ?_
 rintro e Y1 ⟨rfl, hf1⟩
 have hS := (⟨hf1.cell' hS.1 id, hf1.cell' hS.2.1 id, hf1.cell' hS.2.2 id⟩ : Y1.cell? ⟨w.heap.size, 0, none⟩ = some (.slice a0 n c0) ∧ Y1.cell? ⟨w.heap.size, 1, none⟩ = some (.slice a1 m c1) ∧ Y1.cell? ⟨w.heap.size, 2, none⟩ = some (.slice a2 k c2))
 refine hK.out _ _ hS ?_
 clear hK K
 have HF1 := Lib.hid (HFY.out.then1 hf1); clear hf1
 try simp only [Act.put, List.setIfInBounds_toArray, List.set_cons_zero, List.set_cons_succ]
 refine tkG 2 5 rfl rfl (v := ?_) (.inl ⟨by rfl, ?_⟩) ?_
 rotate_left 1
 · (intro w hSw; (try dsimp only at hSw); go_simp; (try with_reducible rfl))
 refine tkG 3 6 rfl rfl (v := ?_) (.inl ⟨by rfl, ?_⟩) ?_
 rotate_left 1
 · (intro w hSw; (try dsimp only at hSw); go_simp; (try with_reducible rfl))
 try simp only [Act.put, List.setIfInBounds_toArray, List.set_cons_zero, List.set_cons_succ]
 refine tkG 4 7 rfl rfl (v := ?_) (.inl ⟨by rfl, ?_⟩) ?_
 rotate_left 1
 · (intro w hSw; (try dsimp only at hSw); go_simp; (try with_reducible rfl))
 refine tkG 5 8 rfl rfl (v := ?_) (.inl ⟨by rfl, ?_⟩) ?_
 rotate_left 1
 · (intro w hSw; (try dsimp only at hSw); go_simp; (try with_reducible rfl))
 try simp only [Act.put, List.setIfInBounds_toArray, List.set_cons_zero, List.set_cons_succ]
 refine tkG 6 9 rfl rfl (v := ?_) (.inl ⟨by rfl, ?_⟩) ?_
 rotate_left 1
 · (intro w hSw; (try dsimp only at hSw); go_simp; (try with_reducible rfl))
 refine tkG 7 10 rfl rfl (v := ?_) (.inl ⟨by rfl, ?_⟩) ?_
 rotate_left 1
 · (intro w hSw; (try dsimp only at hSw); go_simp; (try with_reducible rfl))
 try simp only [Act.put, List.setIfInBounds_toArray, List.set_cons_zero, List.set_cons_succ]
 refine tkG 8 11 rfl rfl (v := ?_) (.inl ⟨by rfl, ?_⟩) ?_
 rotate_left 1
 · (intro w hSw; (try dsimp only at hSw); go_simp; (try with_reducible rfl))
 refine tkG 9 12 rfl rfl (v := ?_) (.inl ⟨by rfl, ?_⟩) ?_
 rotate_left 1
 · (intro w hSw; (try dsimp only at hSw); go_simp; (try with_reducible rfl))
 try simp only [Act.put, List.setIfInBounds_toArray, List.set_cons_zero, List.set_cons_succ]
 refine tkG 10 13 rfl rfl (v := ?_) (.inl ⟨by rfl, ?_⟩) ?_
 rotate_left 1
 · (intro w hSw; (try dsimp only at hSw); go_simp; (try with_reducible rfl))
 refine tkG 11 14 rfl rfl (v := ?_) (.inl ⟨by rfl, ?_⟩) ?_
 rotate_left 1
 · (intro w hSw; (try dsimp only at hSw); go_simp; (try with_reducible rfl))
 try simp only [Act.put, List.setIfInBounds_toArray, List.set_cons_zero, List.set_cons_succ]
 refine tkG 12 15 rfl rfl (v := ?_) (.inl ⟨by rfl, ?_⟩) ?_
 rotate_left 1
 · (intro w hSw; (try dsimp only at hSw); go_simp; (try with_reducible rfl))
 refine tkG 13 16 rfl rfl (v := ?_) (.inl ⟨by rfl, ?_⟩) ?_
 rotate_left 1
 · (intro w hSw; (try dsimp only at hSw); go_simp; (try with_reducible rfl))
 try simp only [Act.put, List.setIfInBounds_toArray, List.set_cons_zero, List.set_cons_succ]
 refine one_opG (i := 14) (by kernel_rfl) rfl (fun K hK => ?_)
 go_simp
 refine (HV.out _ HF1.out).mono ?_
 rintro e Y2 ⟨rfl, hf2⟩
 have hS := (⟨hf2.cell' hS.1 id, hf2.cell' hS.2.1 id, hf2.cell' hS.2.2 id⟩ : Y2.cell? ⟨w.heap.size, 0, none⟩ = some (.slice a0 n c0) ∧ Y2.cell? ⟨w.heap.size, 1, none⟩ = some (.slice a1 m c1) ∧ Y2.cell? ⟨w.heap.size, 2, none⟩ = some (.slice a2 k c2))
 refine hK.out _ _ hS ?_
 clear hK K
 have HF2 := Lib.hid (HF1.out.then1 hf2); clear hf2
 try simp only [Act.put, List.setIfInBounds_toArray, List.set_cons_zero, List.set_cons_succ]
 refine one_opG (i := 15) (by kernel_rfl) rfl (fun K hK => ?_)
 go_simp
 refine (HFL.out _).mono ?_
 rintro e Y3 ⟨v3, rfl, ho3, hl3⟩
 obtain ⟨a3, c3, rfl⟩ := ho3.shape
 have hf3 := ho3.frm
 have hS := (⟨hf3.cell' hS.1 id, hf3.cell' hS.2.1 id, hf3.cell' hS.2.2 id⟩ : Y3.cell? ⟨w.heap.size, 0, none⟩ = some (.slice a0 n c0) ∧ Y3.cell? ⟨w.heap.size, 1, none⟩ = some (.slice a1 m c1) ∧ Y3.cell? ⟨w.heap.size, 2, none⟩ = some (.slice a2 k c2))
 refine hK.out _ _ hS ?_
 clear hK K
 have HF3 := Lib.hid (HF2.out.then1 hf3); clear hf3
 have HO3 := Lib.hid ho3; clear ho3
 have HL3 := Lib.hid hl3; clear hl3
 try simp only [Act.put, List.setIfInBounds_toArray, List.set_cons_zero, List.set_cons_succ]
 refine one_opG (i := 16) (by kernel_rfl) rfl (fun K hK => ?_)
 go_simp
 refine (HSM.out _ _ HF3.out HO3.out.rd HL3.out).mono ?_
 rintro e Y4 ⟨rfl, hf4⟩
 have hS := (⟨hf4.cell' hS.1 id, hf4.cell' hS.2.1 id, hf4.cell' hS.2.2 id⟩ : Y4.cell? ⟨w.heap.size, 0, none⟩ = some (.slice a0 n c0) ∧ Y4.cell? ⟨w.heap.size, 1, none⟩ = some (.slice a1 m c1) ∧ Y4.cell? ⟨w.heap.size, 2, none⟩ = some (.slice a2 k c2))
 refine hK.out _ _ hS ?_
 clear hK K
 have HF4 := Lib.hid (HF3.out.then1 hf4); clear hf4
 try simp only [Act.put, List.setIfInBounds_toArray, List.set_cons_zero, List.set_cons_succ]
 refine tkG 17 20 rfl rfl (v := ?_) (.inl ⟨by rfl, ?_⟩) ?_
 rotate_left 1
 · (intro w hSw; (try dsimp only at hSw); go_simp; (try with_reducible rfl))
 try simp only [Act.put, List.setIfInBounds_toArray, List.set_cons_zero, List.set_cons_succ]
 refine last_opG (by kernel_rfl) (by kernel_rfl) rfl (fun K hK => ?_)
 go_simp
 refine hK.out _ _ ?_
 clear hK K hS
 go_wp2
 go_ret
 exact ⟨by rw [HY.out]; first | rfl | simp, HF4.out⟩
theorem nilOk : CauOk [] .nil [] := ⟨⟨⟨Nat.zero_le _, fun e he => by cases he⟩, Nat.zero_le _, trivial⟩, Nat.zero_le _, fun s hs => (by cases hs), Nat.zero_le _⟩
theorem nilAt (Q : Nat → Prop) (w : World) : CauAt Q w (.slice none 0 0) (.slice none 0 0) (.slice none 0 0) [] .nil [] := ⟨⟨⟨.inl ⟨none, rfl, rfl, rfl⟩, fun h => absurd rfl h⟩, [], ⟨.inl ⟨none, rfl, rfl, rfl⟩, fun h => absurd rfl h⟩, rfl⟩, .inl ⟨none, rfl, rfl, rfl⟩⟩
structure RCtx (P PB S9 SV : Prop) (ps : List BunP) (ln n m k : Nat) (kind fr tt v0 v1 v2 v3 f0 f1 f2 f3 : Int) (al a0 a1 a2 : Option Addr) (cl c0 c1 c2 : Nat) (w : World) : Prop where
 may : ∀ W, Calls Tryz.prog 36 #[.agg #[.int .i64 v0, .int .i64 v1, .int .i64 v2, .int .i64 v3]] W fun e w' => e = .returned (.bool true) ∧ Frm NoS W w'
 sol : ∀ W, Frm NoS w W → Calls Tryz.prog 37 #[.agg #[.slice a0 n c0, .slice a1 m c1, .slice a2 k c2]] W fun e w' => e = .returned (.bool (tf S9)) ∧ Frm NoS W w'
 vec : S9 → ∀ W, Frm NoS w W → Calls Tryz.prog 38 #[.slice a2 k c2] W fun e w' => e = .returned (.agg #[.int .i64 f0, .int .i64 f1, .int .i64 f2, .int .i64 f3]) ∧ Frm NoS W w'
 sv : SV ↔ (f0 = v0 ∧ f1 = v1 ∧ f2 = v2 ∧ f3 = v3)
 same : ∀ W, Frm NoS w W → Calls Tryz.prog 39 #[.agg #[.slice a0 n c0, .slice a1 m c1, .slice a2 k c2], .agg #[.slice none 0 0, .slice none 0 0, .slice none 0 0]] W fun e w' => e = .returned (.bool (tf PB)) ∧ Frm NoS W w'
 bun : ∀ p ∈ ps, ∀ W, Frm NoS w W → Calls Tryz.prog 23 #[.agg #[.int .i64 p.b.dc, .int .i64 p.b.af, .int .i64 p.b.la, .int .i64 p.b.v0, .int .i64 p.b.v1, .int .i64 p.b.v2, .int .i64 p.b.v3, p.ev, p.kv, p.cv]] W fun e w' => e = .returned (.bool (!pW p)) ∧ Frm NoS W w'
 shp : ∀ p ∈ ps, ∃ a0 c0 a1 c1 a2 c2, p.ev = .slice a0 p.b.es.length c0 ∧ p.kv = .slice a1 p.b.ks.len c1 ∧ p.cv = .slice a2 p.b.c.length c2
 rd : Rd w (.slice al ln cl) ln (bunC ps)
 len : ps.length = ln
 bx : ∀ W, Frm NoS (w.alloc (.cells #[.int .i64 kind, .int .i64 fr, .int .i64 tt, .int .i64 v0, .int .i64 v1, .int .i64 v2, .int .i64 v3, .slice al ln cl, .slice a0 n c0, .slice a1 m c1, .slice a2 k c2] 34)) W → W.cell? ⟨w.heap.size, 0, none⟩ = some (.int .i64 kind) ∧ W.cell? ⟨w.heap.size, 1, none⟩ = some (.int .i64 fr) ∧ W.cell? ⟨w.heap.size, 2, none⟩ = some (.int .i64 tt) ∧ W.cell? ⟨w.heap.size, 3, none⟩ = some (.int .i64 v0) ∧ W.cell? ⟨w.heap.size, 4, none⟩ = some (.int .i64 v1) ∧ W.cell? ⟨w.heap.size, 5, none⟩ = some (.int .i64 v2) ∧ W.cell? ⟨w.heap.size, 6, none⟩ = some (.int .i64 v3) ∧ W.cell? ⟨w.heap.size, 7, none⟩ = some (.slice al ln cl) ∧ W.cell? ⟨w.heap.size, 8, none⟩ = some (.slice a0 n c0) ∧ W.cell? ⟨w.heap.size, 9, none⟩ = some (.slice a1 m c1) ∧ W.cell? ⟨w.heap.size, 10, none⟩ = some (.slice a2 k c2)
 ne : fr ≠ tt
 f1 : 0 ≤ fr
 f2 : fr < 4
 t1 : 0 ≤ tt
 t2 : tt < 4
 hd : P ↔ ((kind = 1 ∧ PB ∧ 1 ≤ ln ∧ ln ≤ 16 ∧ ps.any pW = false) ∨ (kind = 2 ∧ ln = 0 ∧ S9 ∧ SV) ∨ ((kind = 3 ∨ kind = 4) ∧ PB ∧ ln = 0))
def DecPost (l : List UInt8) (w : World) (e : Ending) (w' : World) : Prop := ∃ (k : Int) (m : MsgD) (ps : List BunP) (lv ev kv cv : Value), DecTop l k m ∧ e = .returned (.tuple #[m.ag lv ev kv cv, .int .i64 k]) ∧ MsgAt (fun _ => True) w' m ps lv ev kv cv ∧ MsgOkS m ∧ Frm NoS w w'
structure DG (w w0 W : World) (ib B : Nat) (s : Option (List UInt8)) (cs : Array Value) (ps : List BunP) (lv : Value) : Prop where
 ins : InSt W ib s
 arr : W.heap[B]? = some (.cells cs 40 (0, 0))
 res : W.heap[w.heap.size]? = some (.cells #[.int .i64 0, .int .i64 0, .int .i64 0, .int .i64 0, .int .i64 0, .int .i64 0, .int .i64 0, .slice none 0 0, .slice none 0 0, .slice none 0 0, .slice none 0 0] 40 (0, 0))
 base : Frm NoS w w0
 hib : w.heap.size < ib
 hib0 : ib < w0.heap.size
 hB : w0.heap.size ≤ B
 bld : Bld 64 (Only ib) (Only B) w0 W ps lv
 each : EachQ (MgQ w0 (Only B) lv) W ps
theorem zero_at (Q : Nat → Prop) (w : World) : MsgAt Q w MsgD.zero [] (.slice none 0 0) (.slice none 0 0) (.slice none 0 0) (.slice none 0 0) :=
 ⟨⟨.inl ⟨none, rfl, rfl, rfl⟩, fun p hp => by cases hp⟩, rfl, ⟨⟨⟨.inl ⟨none, rfl, rfl, rfl⟩, fun h => absurd rfl h⟩, [], ⟨.inl ⟨none, rfl, rfl, rfl⟩, fun h => absurd rfl h⟩, rfl⟩, .inl ⟨none, rfl, rfl, rfl⟩⟩⟩
section
variable {w w0 W W1 : World} {ib B : Nat} {s s' : Option (List UInt8)} {cs : Array Value} {ps : List BunP} {lv : Value}
theorem DG.call (h : DG w w0 W ib B s cs ps lv) (hi : InSt W1 ib s') (f : Frm (Only ib) W W1) : DG w w0 W1 ib B s' cs ps lv :=
 ⟨hi, f.blk h.arr fun e => (by have e : B = ib := e; have := h.hib0; have := h.hB; omega), f.blk h.res fun e => (by have e : w.heap.size = ib := e; have := h.hib; omega), h.base, h.hib, h.hib0, h.hB, h.bld.keepS f, h.each.keepS h.bld f⟩
theorem DG.keep0 (h : DG w w0 W ib B s cs ps lv) (f : Frm NoS W W1) : DG w w0 W1 ib B s cs ps lv := h.call (h.ins.keep f fun _ _ h => h) (f.mono fun _ _ h => h.elim)
theorem DG.lB (h : DG w w0 W ib B s cs ps lv) : B < W.heap.size := lt_of_block h.arr
theorem DG.old (h : DG w w0 W ib B s cs ps lv) : Frm NoS w W := h.base.trans h.bld.frm fun i hi e => (by have e : i = ib := e; have := h.hib; omega)
theorem DG.set (h : DG w w0 W ib B s cs ps lv) (j : Nat) (u : Value) : DG w w0 (W.setCell ⟨B, j, none⟩ u) ib B s (cs.setIfInBounds j u) ps lv :=
 have f := only_set W B j u
 ⟨h.ins.keep f fun k hk e => (by have e : k = B := e; have := h.hib0; have := h.hB; omega), set_at' h.arr j u, f.blk h.res fun e => (by have e : w.heap.size = B := e; have := h.hib; have := h.hib0; have := h.hB; omega), h.base, h.hib, h.hib0, h.hB, h.bld.keepX f, h.each.keepX h.bld f⟩
theorem DG.step {Y Y1 W2 : World} {ad : Option Addr} {n c : Nat} (h : DG w w0 Y ib B s cs ps lv) {p : BunP} (hi : InSt Y1 ib s') (f : Frm (Only ib) Y Y1)
 (ht : TreeAt (fun b => Y.heap.size ≤ b) Y1 p.ev p.kv p.b.es p.b.ks) (hc : CtxQ (fun b => Y.heap.size ≤ b) Y1 p.cv p.b.c)
 (own : W2.ownsRow 0 64 10 (.slice ad n c) (ps.length + 1) (bunC ps ++ p.cells)) (fm : Frm (RowS lv) Y1 W2) (fr : Fresh Y1 lv (.slice ad n c)) :
 DG w w0 (W2.setCell ⟨B, 7, none⟩ (.slice ad n c)) ib B s' (cs.setIfInBounds 7 (.slice ad n c)) (ps ++ [p]) (.slice ad n c) := by
 have h1 := h.call hi f
 have hno : ∀ x, x = ib ∨ x = B ∨ x = w.heap.size → ¬ RowS lv x := fun x hx hr => by
  have h2 := h1.bld.new x hr
  have := h1.hib
  have := h1.hib0
  rcases hx with hx | hx | hx
  · omega
  · exact h2.2 hx
  · omega
 have h2 : DG w w0 W2 ib B s' cs (ps ++ [p]) (.slice ad n c) :=
  ⟨h1.ins.keep fm fun j hj hr => (by have h3 := (h1.bld.new j hr).1; have := h1.hib0; omega), fm.blk h1.arr (hno _ (.inr (.inl rfl))), fm.blk h1.res (hno _ (.inr (.inr rfl))), h1.base, h1.hib, h1.hib0, h1.hB, h1.bld.step own fm fr, h1.each.step h1.bld (h.bld.newP ht hc) fm fr⟩
 exact h2.set 7 _
end
theorem DG.cau {w w0 W W8 : World} {ib B : Nat} {s s7 : Option (List UInt8)} {kind fr tt v0 v1 v2 v3 : Int} {ps : List BunP} {lv ev kv cv : Value} {es : List Ent} {ks : KidsL} {c : CtxL} (h : DG w w0 W ib B s #[.int .i64 kind, .int .i64 fr, .int .i64 tt, .int .i64 v0, .int .i64 v1, .int .i64 v2, .int .i64 v3, lv, .slice none 0 0, .slice none 0 0, .slice none 0 0] ps lv) (hi : InSt W8 ib s7) (hf : Frm (Only ib) W W8)
 (ht : TreeAt (fun b => W.heap.size ≤ b) W8 ev kv es ks) (hc : CtxQ (fun b => W.heap.size ≤ b) W8 cv c) :
 DG w w0 (((W8.setCell ⟨B, 8, none⟩ ev).setCell ⟨B, 9, none⟩ kv).setCell ⟨B, 10, none⟩ cv) ib B s7 #[.int .i64 kind, .int .i64 fr, .int .i64 tt, .int .i64 v0, .int .i64 v1, .int .i64 v2, .int .i64 v3, lv, ev, kv, cv] ps lv ∧ TreeAt (MgQ w0 (Only B) lv) (((W8.setCell ⟨B, 8, none⟩ ev).setCell ⟨B, 9, none⟩ kv).setCell ⟨B, 10, none⟩ cv) ev kv es ks ∧ CtxQ (MgQ w0 (Only B) lv) (((W8.setCell ⟨B, 8, none⟩ ev).setCell ⟨B, 9, none⟩ kv).setCell ⟨B, 10, none⟩ cv) cv c := by
 have h8 := h.call hi hf
 have ha : DG w w0 (W8.setCell ⟨B, 8, none⟩ ev) ib B s7 #[.int .i64 kind, .int .i64 fr, .int .i64 tt, .int .i64 v0, .int .i64 v1, .int .i64 v2, .int .i64 v3, lv, ev, .slice none 0 0, .slice none 0 0] ps lv := h8.set 8 _
 have hb : DG w w0 ((W8.setCell ⟨B, 8, none⟩ ev).setCell ⟨B, 9, none⟩ kv) ib B s7 #[.int .i64 kind, .int .i64 fr, .int .i64 tt, .int .i64 v0, .int .i64 v1, .int .i64 v2, .int .i64 v3, lv, ev, kv, .slice none 0 0] ps lv := ha.set 9 _
 have f : Frm (Only B) W8 (((W8.setCell ⟨B, 8, none⟩ ev).setCell ⟨B, 9, none⟩ kv).setCell ⟨B, 10, none⟩ cv) := ((only_set _ _ _ _).trans (only_set _ _ _ _) fun _ _ h => h).trans (only_set _ _ _ _) fun _ _ h => h
 exact ⟨hb.set 10 _, ht.turn fun b hb hq => ⟨f.block b hb fun e => (h.bld.fresh b hq).2.1 e, h.bld.fresh b hq⟩, RdQ.turn hc fun b hb hq => ⟨f.block b hb fun e => (h.bld.fresh b hq).2.1 e, h.bld.fresh b hq⟩⟩
theorem DG.outZ {l : List UInt8} {w w0 W W1 : World} {ib B : Nat} {s : Option (List UInt8)} {cs : Array Value} {ps : List BunP} {lv : Value} (h : DG w w0 W ib B s cs ps lv) {k : Int} (hd : DecTop l k MsgD.zero) (f : Frm (Only w.heap.size) W W1) :
 DecPost l w (.returned (.tuple #[MsgD.zero.ag (.slice none 0 0) (.slice none 0 0) (.slice none 0 0) (.slice none 0 0), .int .i64 k])) W1 :=
 ⟨k, MsgD.zero, [], _, _, _, _, hd, rfl, zero_at _ _, zero_okS, h.old.trans f fun i hi e => by have e : i = w.heap.size := e; omega⟩
theorem DG.outM {l : List UInt8} {w w0 W W1 : World} {ib B : Nat} {s : Option (List UInt8)} {cs : Array Value} {ps : List BunP} {lv ev kv cv : Value} (h : DG w w0 W ib B s cs ps lv) {m : MsgD} (hd : DecTop l 0 m) (he : ps.map (·.b) = m.bs) (hok : MsgOkS m)
 (hc : TreeAt (MgQ w0 (Only B) lv) W ev kv m.es m.ks ∧ CtxQ (MgQ w0 (Only B) lv) W cv m.c) (f : Frm (Only w.heap.size) W W1) :
 DecPost l w (.returned (.tuple #[m.ag lv ev kv cv, .int .i64 0])) W1 := by
 have hq : ∀ b, MgQ w0 (Only B) lv b → b ≠ w.heap.size := fun b hb e => by
  have := hb.1
  have := h.hib
  have := h.hib0
  omega
 have hrow : Rd W1 lv ps.length (bunC ps) := (Rd.own h.bld.own).keep f fun k hk e => by
  have e : k = w.heap.size := e
  have := (h.bld.new k hk).1
  have := h.hib
  have := h.hib0
  omega
 refine ⟨0, m, ps, lv, ev, kv, cv, hd, rfl, ⟨⟨hrow, fun p hp => ?_⟩, he, ?_⟩, hok, h.old.trans f fun i hi e => by have e : i = w.heap.size := e; omega⟩
 · obtain ⟨h1, h2⟩ := h.each p hp
   exact ⟨h1.turn fun b hb hQ => ⟨f.block b hb fun e => hq b hQ e, trivial⟩, CtxQ.at_ (Q := fun _ => True) (RdQ.turn h2 fun b hb hQ => ⟨f.block b hb fun e => hq b hQ e, trivial⟩)⟩
 · exact ⟨hc.1.turn fun b hb hQ => ⟨f.block b hb fun e => hq b hQ e, trivial⟩, CtxQ.at_ (Q := fun _ => True) (RdQ.turn hc.2 fun b hb hQ => ⟨f.block b hb fun e => hq b hQ e, trivial⟩)⟩
theorem cauRes_none {s : Option (List UInt8)} {es : List Ent} {ks : KidsL} {c : CtxL} (h : CauRes none es ks c s) : s = none := by
 rcases h with ⟨r, h1, _⟩ | ⟨h1, _⟩
 · cases h1
 · exact h1
theorem done_nil_of {s : Option (List UInt8)} (h : doneOf s = true) : s = some [] := by
 cases s with
 | none => cases h
 | some bs =>
  have hb : bs = [] := by
   unfold doneOf at h
   exact List.eq_nil_of_length_eq_zero (by simpa using h)
  rw [hb]
theorem frOne_no (l : List UInt8) (v : Value) (w : World) (h : Rd w v l.length (bV l)) (h0 : Crc.oneE l ≠ 0) : Calls Tryz.prog 51 #[v] w fun e w' => e = .returned (.tuple #[.slice none 0 0, .int .i64 (Crc.oneE l)]) ∧ Frm NoS w w' :=
 (frOne_any l v w h).mono fun e w' hp => by unfold OnePost at hp; rwa [if_neg h0] at hp
theorem frOne_yes (l : List UInt8) (v : Value) (w : World) (h : Rd w v l.length (bV l)) (h0 : Crc.oneE l = 0) : Calls Tryz.prog 51 #[v] w fun e w' => ∃ a c t, t = Crc.oneB l ∧ e = .returned (.tuple #[.slice a t.length c, .int .i64 0]) ∧ Copy w (.slice a t.length c) t w' :=
 (frOne_any l v w h).mono fun e w' hp => by
  unfold OnePost at hp
  rw [if_pos h0] at hp
  obtain ⟨a, c, h1, h2⟩ := hp
  exact ⟨a, c, _, rfl, h1, h2⟩
end Go.Proofs.YtcahemkomfaabaaGreat
