/- Words for the law PackUnlike: PackUnlike. -/
import Derived.Test.YtafdclkpeomomaaGreatPackBytesG24
set_option linter.unusedSimpArgs false
set_option linter.unusedVariables false
/- The law PackUnlike: its walk. Printed by wip/unlikegen.py. -/
namespace Go.Proofs.YtafdclkpeomomaaGreat
open Go.RowKit

theorem str_ne {x y : List UInt8} (h : x ≠ y) : ¬ (⟨x.toArray⟩ : ByteArray).toList = (⟨y.toArray⟩ : ByteArray).toList := by
  rw [ByteArray.toList_eq, ByteArray.toList_eq]
  intro e
  exact h (by simpa using e)
set_option maxHeartbeats 16000000 in
set_option maxRecDepth 1000000 in
theorem packUnlike_law (w : World) (va vb : Value) (ha : CauIn w va) (hb : CauIn w vb) : Calls Tryz.prog 5 #[va, vb] w fun e w' => e = .returned (.bool true) ∧ Frm (fun _ => False) w w' := by
  obtain ⟨ev, kv, cv, es, ks, c, rfl, hc, hok, hf, hcl⟩ := ha.out
  obtain ⟨ev', kv', cv', es', ks', c', rfl, hc', hok', hf', hcl'⟩ := hb.out
  have HA := Lib.hid awake16_any
  have HS := Lib.hid (fun W (f : Frm NoS w W) => r9Small_any (fun _ => True) es ks c 40 W _ _ _ (hc.keep0 f) hok hcl (by decide) (by decide))
  have HS2 := Lib.hid (fun W (f : Frm NoS w W) => r9Small_any (fun _ => True) es' ks' c' 40 W _ _ _ (hc'.keep0 f) hok' hcl' (by decide) (by decide))
  obtain ⟨a0, c0, a1, c1, a2, c2, rfl, rfl, rfl⟩ := hc.shape
  obtain ⟨b0, d0, b1, d1, b2, d2, rfl, rfl, rfl⟩ := hc'.shape
  have HFB := Lib.hid ((Frm.alloc NoS w (.cells #[.slice a0 es.length c0, .slice a1 ks.len c1, .slice a2 c.length c2] 29)).alloc1 (o := .cells #[.slice b0 es'.length d0, .slice b1 ks'.len d1, .slice b2 c'.length d2] 29))
  have HBX := Lib.hid (pair3 w (.slice a0 es.length c0) (.slice a1 ks.len c1) (.slice a2 c.length c2) (.slice b0 es'.length d0) (.slice b1 ks'.len d1) (.slice b2 c'.length d2) 29)
  cases h1 : (decide (0 ≤ roomT es ks 40 8) && decide ((c.length : Int) ≤ 40)) with
  | false =>
    rw [h1] at HS
    clear h1 HS2 hc hc' hok hok' hf hf' hcl hcl'
    generalize es.length = n at *
    generalize ks.len = m at *
    generalize c.length = k at *
    generalize es'.length = n' at *
    generalize ks'.len = m' at *
    generalize c'.length = k' at *
    go_enter Tryz.func5, Tryz.ntmps5
    go_wp2_with (first
      | (go_at_call 12; go_loud (refine (HS.out _ (HFB.out.then1 HW1.out)).mono ?_); rintro e w2 ⟨rfl, hw2⟩; clear y0 y1 y2 z0 z1 z2 hbl hbl2; have HW2 := Lib.hid (HW1.out.then1 hw2); clear hw2)
      | (go_at_call 11; first | (refine (HA.out _).mono ?_; rintro e w20 ⟨rfl, hw20⟩; have HW20 := Lib.hid (HFB.out.then1 (HW2.out.then1 hw20)); clear hw20) | (go_loud (refine (HA.out _).mono ?_); rintro e w1 ⟨rfl, hw1⟩; obtain ⟨y0, y1, y2, z0, z1, z2⟩ := HBX.out w1 (hw1); have hbl := World.block_lt_of_cell? _ _ y0; have hbl2 := World.block_lt_of_cell? _ _ z0; have HW1 := Lib.hid hw1; clear hw1)))
    go_ret
    exact ⟨rfl, HW20.out⟩
  | true =>
  obtain ⟨ok, hz1, hz2⟩ := cau_small hok hf h1
  rw [h1] at HS
  cases h2 : (decide (0 ≤ roomT es' ks' 40 8) && decide ((c'.length : Int) ≤ 40)) with
  | false =>
    rw [h2] at HS2
    clear h1 h2 hc hc' hok hok' hf hf' hcl hcl' ok hz1 hz2
    generalize es.length = n at *
    generalize ks.len = m at *
    generalize c.length = k at *
    generalize es'.length = n' at *
    generalize ks'.len = m' at *
    generalize c'.length = k' at *
    go_enter Tryz.func5, Tryz.ntmps5
    go_wp2_with (first
      | (go_at_call 12; first | ((refine (HS2.out _ (HFB.out.then1 HW2.out)).mono ?_); rintro e w3 ⟨rfl, hw3⟩; clear y0 y1 y2 z0 z1 z2 hbl hbl2; have HW3 := Lib.hid (HW2.out.then1 hw3); clear hw3) | (go_loud (refine (HS.out _ (HFB.out.then1 HW1.out)).mono ?_); rintro e w2 ⟨rfl, hw2⟩; clear y0 y1 y2 z0 z1 z2 hbl hbl2; obtain ⟨y0, y1, y2, z0, z1, z2⟩ := HBX.out w2 (HW1.out.then1 hw2); have hbl := World.block_lt_of_cell? _ _ y0; have hbl2 := World.block_lt_of_cell? _ _ z0; have HW2 := Lib.hid (HW1.out.then1 hw2); clear hw2))
      | (go_at_call 11; first | (refine (HA.out _).mono ?_; rintro e w20 ⟨rfl, hw20⟩; have HW20 := Lib.hid (HFB.out.then1 (HW3.out.then1 hw20)); clear hw20) | (go_loud (refine (HA.out _).mono ?_); rintro e w1 ⟨rfl, hw1⟩; obtain ⟨y0, y1, y2, z0, z1, z2⟩ := HBX.out w1 (hw1); have hbl := World.block_lt_of_cell? _ _ y0; have hbl2 := World.block_lt_of_cell? _ _ z0; have HW1 := Lib.hid hw1; clear hw1)))
    go_ret
    exact ⟨rfl, HW20.out⟩
  | true =>
  obtain ⟨ok', hz1', hz2'⟩ := cau_small hok' hf' h2
  rw [h2] at HS2
  clear h1 h2
  have HR := Lib.hid (fun W (f : Frm NoS w W) => r9Right_any (fun _ => True) es ks c W _ _ _ (hc.keep0 f) ok)
  have HR2 := Lib.hid (fun W (f : Frm NoS w W) => r9Right_any (fun _ => True) es' ks' c' W _ _ _ (hc'.keep0 f) ok')
  by_cases hr : CauRight es ks c
  rotate_left 1
  · rw [tf_false hr] at HR
    clear hr HR2 hc hc' hok hok' hf hf' hcl hcl' ok hz1 hz2 ok' hz1' hz2'
    generalize es.length = n at *
    generalize ks.len = m at *
    generalize c.length = k at *
    generalize es'.length = n' at *
    generalize ks'.len = m' at *
    generalize c'.length = k' at *
    go_enter Tryz.func5, Tryz.ntmps5
    go_wp2_with (first
      | (go_at_call 14; go_loud (refine (HR.out _ (HFB.out.then1 HW3.out)).mono ?_); rintro e w4 ⟨rfl, hw4⟩; clear y0 y1 y2 z0 z1 z2 hbl hbl2; have HW4 := Lib.hid (HW3.out.then1 hw4); clear hw4)
      | (go_at_call 12; first | ((refine (HS2.out _ (HFB.out.then1 HW2.out)).mono ?_); rintro e w3 ⟨rfl, hw3⟩; clear y0 y1 y2 z0 z1 z2 hbl hbl2; obtain ⟨y0, y1, y2, z0, z1, z2⟩ := HBX.out w3 (HW2.out.then1 hw3); have hbl := World.block_lt_of_cell? _ _ y0; have hbl2 := World.block_lt_of_cell? _ _ z0; have HW3 := Lib.hid (HW2.out.then1 hw3); clear hw3) | (go_loud (refine (HS.out _ (HFB.out.then1 HW1.out)).mono ?_); rintro e w2 ⟨rfl, hw2⟩; clear y0 y1 y2 z0 z1 z2 hbl hbl2; obtain ⟨y0, y1, y2, z0, z1, z2⟩ := HBX.out w2 (HW1.out.then1 hw2); have hbl := World.block_lt_of_cell? _ _ y0; have hbl2 := World.block_lt_of_cell? _ _ z0; have HW2 := Lib.hid (HW1.out.then1 hw2); clear hw2))
      | (go_at_call 11; first | (refine (HA.out _).mono ?_; rintro e w20 ⟨rfl, hw20⟩; have HW20 := Lib.hid (HFB.out.then1 (HW4.out.then1 hw20)); clear hw20) | (go_loud (refine (HA.out _).mono ?_); rintro e w1 ⟨rfl, hw1⟩; obtain ⟨y0, y1, y2, z0, z1, z2⟩ := HBX.out w1 (hw1); have hbl := World.block_lt_of_cell? _ _ y0; have hbl2 := World.block_lt_of_cell? _ _ z0; have HW1 := Lib.hid hw1; clear hw1)))
    go_ret
    exact ⟨rfl, HW20.out⟩
  rw [tf_true hr] at HR
  by_cases hr' : CauRight es' ks' c'
  rotate_left 1
  · rw [tf_false hr'] at HR2
    clear hr hr' hc hc' hok hok' hf hf' hcl hcl' ok hz1 hz2 ok' hz1' hz2'
    generalize es.length = n at *
    generalize ks.len = m at *
    generalize c.length = k at *
    generalize es'.length = n' at *
    generalize ks'.len = m' at *
    generalize c'.length = k' at *
    go_enter Tryz.func5, Tryz.ntmps5
    go_wp2_with (first
      | (go_at_call 14; first | ((refine (HR2.out _ (HFB.out.then1 HW4.out)).mono ?_); rintro e w5 ⟨rfl, hw5⟩; clear y0 y1 y2 z0 z1 z2 hbl hbl2; have HW5 := Lib.hid (HW4.out.then1 hw5); clear hw5) | (go_loud (refine (HR.out _ (HFB.out.then1 HW3.out)).mono ?_); rintro e w4 ⟨rfl, hw4⟩; clear y0 y1 y2 z0 z1 z2 hbl hbl2; obtain ⟨y0, y1, y2, z0, z1, z2⟩ := HBX.out w4 (HW3.out.then1 hw4); have hbl := World.block_lt_of_cell? _ _ y0; have hbl2 := World.block_lt_of_cell? _ _ z0; have HW4 := Lib.hid (HW3.out.then1 hw4); clear hw4))
      | (go_at_call 12; first | ((refine (HS2.out _ (HFB.out.then1 HW2.out)).mono ?_); rintro e w3 ⟨rfl, hw3⟩; clear y0 y1 y2 z0 z1 z2 hbl hbl2; obtain ⟨y0, y1, y2, z0, z1, z2⟩ := HBX.out w3 (HW2.out.then1 hw3); have hbl := World.block_lt_of_cell? _ _ y0; have hbl2 := World.block_lt_of_cell? _ _ z0; have HW3 := Lib.hid (HW2.out.then1 hw3); clear hw3) | (go_loud (refine (HS.out _ (HFB.out.then1 HW1.out)).mono ?_); rintro e w2 ⟨rfl, hw2⟩; clear y0 y1 y2 z0 z1 z2 hbl hbl2; obtain ⟨y0, y1, y2, z0, z1, z2⟩ := HBX.out w2 (HW1.out.then1 hw2); have hbl := World.block_lt_of_cell? _ _ y0; have hbl2 := World.block_lt_of_cell? _ _ z0; have HW2 := Lib.hid (HW1.out.then1 hw2); clear hw2))
      | (go_at_call 11; first | (refine (HA.out _).mono ?_; rintro e w20 ⟨rfl, hw20⟩; have HW20 := Lib.hid (HFB.out.then1 (HW5.out.then1 hw20)); clear hw20) | (go_loud (refine (HA.out _).mono ?_); rintro e w1 ⟨rfl, hw1⟩; obtain ⟨y0, y1, y2, z0, z1, z2⟩ := HBX.out w1 (hw1); have hbl := World.block_lt_of_cell? _ _ y0; have hbl2 := World.block_lt_of_cell? _ _ z0; have HW1 := Lib.hid hw1; clear hw1)))
    go_ret
    exact ⟨rfl, HW20.out⟩
  rw [tf_true hr'] at HR2
  have hl6 := encX_small hr hz1 hz2
  have hl6' := encX_small hr' hz1' hz2'
  have HBY := Lib.hid (fun W (f : Frm NoS w W) => pBytes_ok es ks c W _ _ _ (hc.keep0 f) ok hr (by omega))
  have HBY2 := Lib.hid (fun W (f : Frm NoS w W) => pBytes_ok es' ks' c' W _ _ _ (hc'.keep0 f) ok' hr' (by omega))
  have HSM := Lib.hid (fun W (f : Frm NoS w W) => r9Same_any (fun _ => True) (fun _ => True) es ks c es' ks' c' W _ _ _ _ _ _ (hc.keep0 f) ok (hc'.keep0 f) ok')
  have hiff : tf ((es = es' ∧ ks = ks') ∧ c = c') = tf (encX es ks c = encX es' ks' c') := tf_congr ⟨fun h => by obtain ⟨⟨rfl, rfl⟩, rfl⟩ := h; rfl, encX_inj⟩
  rw [hiff] at HSM
  clear hr hr' hc hc' hok hok' hf hf' hcl hcl' ok hz1 hz2 ok' hz1' hz2' hl6 hl6' hiff
  generalize encX es ks c = X at *
  generalize encX es' ks' c' = Y at *
  generalize es.length = n at *
  generalize ks.len = m at *
  generalize c.length = k at *
  generalize es'.length = n' at *
  generalize ks'.len = m' at *
  generalize c'.length = k' at *
  by_cases hE : X = Y
  · subst hE
    rw [tf_true rfl] at HSM
    go_enter Tryz.func5, Tryz.ntmps5
    go_wp2_with (first
      | (go_at_call 13; first | (refine (HBY2.out _ (HFB.out.then1 HW6.out)).mono ?_; rintro e w7 ⟨a7, c7, rfl, cp7⟩; clear y0 y1 y2 z0 z1 z2 hbl hbl2; obtain ⟨y0, y1, y2, z0, z1, z2⟩ := HBX.out w7 (HW6.out.then1 cp7.frm); have hbl := World.block_lt_of_cell? _ _ y0; have hbl2 := World.block_lt_of_cell? _ _ z0; have HW7 := Lib.hid (HW6.out.then1 cp7.frm); have HP7 := Lib.hid (HP6.out.step cp7.frm); have HQ7 := Lib.hid cp7; clear cp7) | (go_loud (refine (HBY.out _ (HFB.out.then1 HW5.out)).mono ?_); rintro e w6 ⟨a6, c6, rfl, cp6⟩; clear y0 y1 y2 z0 z1 z2 hbl hbl2; obtain ⟨y0, y1, y2, z0, z1, z2⟩ := HBX.out w6 (HW5.out.then1 cp6.frm); have hbl := World.block_lt_of_cell? _ _ y0; have hbl2 := World.block_lt_of_cell? _ _ z0; have HW6 := Lib.hid (HW5.out.then1 cp6.frm); have HP6 := Lib.hid cp6; clear cp6))
      | (go_at_call 14; first | ((refine (HR2.out _ (HFB.out.then1 HW4.out)).mono ?_); rintro e w5 ⟨rfl, hw5⟩; clear y0 y1 y2 z0 z1 z2 hbl hbl2; obtain ⟨y0, y1, y2, z0, z1, z2⟩ := HBX.out w5 (HW4.out.then1 hw5); have hbl := World.block_lt_of_cell? _ _ y0; have hbl2 := World.block_lt_of_cell? _ _ z0; have HW5 := Lib.hid (HW4.out.then1 hw5); clear hw5) | (go_loud (refine (HR.out _ (HFB.out.then1 HW3.out)).mono ?_); rintro e w4 ⟨rfl, hw4⟩; clear y0 y1 y2 z0 z1 z2 hbl hbl2; obtain ⟨y0, y1, y2, z0, z1, z2⟩ := HBX.out w4 (HW3.out.then1 hw4); have hbl := World.block_lt_of_cell? _ _ y0; have hbl2 := World.block_lt_of_cell? _ _ z0; have HW4 := Lib.hid (HW3.out.then1 hw4); clear hw4))
      | (go_at_call 12; first | ((refine (HS2.out _ (HFB.out.then1 HW2.out)).mono ?_); rintro e w3 ⟨rfl, hw3⟩; clear y0 y1 y2 z0 z1 z2 hbl hbl2; obtain ⟨y0, y1, y2, z0, z1, z2⟩ := HBX.out w3 (HW2.out.then1 hw3); have hbl := World.block_lt_of_cell? _ _ y0; have hbl2 := World.block_lt_of_cell? _ _ z0; have HW3 := Lib.hid (HW2.out.then1 hw3); clear hw3) | (go_loud (refine (HS.out _ (HFB.out.then1 HW1.out)).mono ?_); rintro e w2 ⟨rfl, hw2⟩; clear y0 y1 y2 z0 z1 z2 hbl hbl2; obtain ⟨y0, y1, y2, z0, z1, z2⟩ := HBX.out w2 (HW1.out.then1 hw2); have hbl := World.block_lt_of_cell? _ _ y0; have hbl2 := World.block_lt_of_cell? _ _ z0; have HW2 := Lib.hid (HW1.out.then1 hw2); clear hw2))
      | (go_at_call 11; (go_loud (refine (HA.out _).mono ?_); rintro e w1 ⟨rfl, hw1⟩; obtain ⟨y0, y1, y2, z0, z1, z2⟩ := HBX.out w1 (hw1); have hbl := World.block_lt_of_cell? _ _ y0; have hbl2 := World.block_lt_of_cell? _ _ z0; have HW1 := Lib.hid hw1; clear hw1)))
    have HSS := Lib.hid (fun W (f : Frm NoS w7 W) => (⟨f, HBX.out W (HW7.out.then1 f), conv_str (HP7.out.step f).rd, conv_str (HQ7.out.step f).rd⟩ : (fun w' => Frm NoS w7 w' ∧ (w'.cell? ⟨w.heap.size, 0, none⟩ = some (.slice a0 n c0) ∧ w'.cell? ⟨w.heap.size, 1, none⟩ = some (.slice a1 m c1) ∧ w'.cell? ⟨w.heap.size, 2, none⟩ = some (.slice a2 k c2) ∧ w'.cell? ⟨w.heap.size + 1, 0, none⟩ = some (.slice b0 n' d0) ∧ w'.cell? ⟨w.heap.size + 1, 1, none⟩ = some (.slice b1 m' d1) ∧ w'.cell? ⟨w.heap.size + 1, 2, none⟩ = some (.slice b2 k' d2)) ∧ (convert 32 9 (.slice a6 X.length c6)).run Tryz.prog w' = .ok (.string ⟨X.toArray⟩) w' ∧ (convert 32 9 (.slice a7 X.length c7)).run Tryz.prog w' = .ok (.string ⟨X.toArray⟩) w') W))
    refine wp_region_G (S := fun w' => Frm NoS w7 w' ∧ (w'.cell? ⟨w.heap.size, 0, none⟩ = some (.slice a0 n c0) ∧ w'.cell? ⟨w.heap.size, 1, none⟩ = some (.slice a1 m c1) ∧ w'.cell? ⟨w.heap.size, 2, none⟩ = some (.slice a2 k c2) ∧ w'.cell? ⟨w.heap.size + 1, 0, none⟩ = some (.slice b0 n' d0) ∧ w'.cell? ⟨w.heap.size + 1, 1, none⟩ = some (.slice b1 m' d1) ∧ w'.cell? ⟨w.heap.size + 1, 2, none⟩ = some (.slice b2 k' d2)) ∧ (convert 32 9 (.slice a6 X.length c6)).run Tryz.prog w' = .ok (.string ⟨X.toArray⟩) w' ∧ (convert 32 9 (.slice a7 X.length c7)).run Tryz.prog w' = .ok (.string ⟨X.toArray⟩) w') 17 (by kernel_rfl) (HSS.out _ (Frm.drew _ _)) ?_
    intro hS
    clear y0 y1 y2 z0 z1 z2 hbl hbl2
    generalize w7.drew = Y0 at *
    refine take_opG 0 42 (v := ?_) rfl rfl (by kernel_rfl) (by kernel_rfl) (by decide) (by kernel_rfl) (by kernel_rfl) (fun _ _ _ h => h) (Or.inl ⟨by rfl, ?_⟩) (by assumption) ?_
    rotate_left 1
    · (intro w hSw; (try dsimp only at hSw); go_simp; (try with_reducible rfl))
    try simp only [Act.put, List.setIfInBounds_toArray, List.set_cons_zero, List.set_cons_succ]
    refine take_opG 1 43 (v := ?_) rfl rfl (by kernel_rfl) (by kernel_rfl) (by decide) (by kernel_rfl) (by kernel_rfl) (fun _ _ _ h => h) (Or.inl ⟨by rfl, ?_⟩) (by assumption) ?_
    rotate_left 1
    · (intro w hSw; (try dsimp only at hSw); go_simp; (try with_reducible rfl))
    try simp only [Act.put, List.setIfInBounds_toArray, List.set_cons_zero, List.set_cons_succ]
    refine take_opG 2 44 (v := ?_) rfl rfl (by kernel_rfl) (by kernel_rfl) (by decide) (by kernel_rfl) (by kernel_rfl) (fun _ _ _ h => h) (Or.inl ⟨by rfl, ?_⟩) (by assumption) ?_
    rotate_left 1
    · (intro w hSw; (try dsimp only at hSw); go_simp; (try with_reducible rfl))
    try simp only [Act.put, List.setIfInBounds_toArray, List.set_cons_zero, List.set_cons_succ]
    refine take_opG 3 45 (v := ?_) rfl rfl (by kernel_rfl) (by kernel_rfl) (by decide) (by kernel_rfl) (by kernel_rfl) (fun _ _ _ h => h) (Or.inl ⟨by rfl, ?_⟩) (by assumption) ?_
    rotate_left 1
    · (intro w hSw; (try dsimp only at hSw); go_simp; (try with_reducible rfl))
    try simp only [Act.put, List.setIfInBounds_toArray, List.set_cons_zero, List.set_cons_succ]
    refine take_opG 4 46 (v := ?_) rfl rfl (by kernel_rfl) (by kernel_rfl) (by decide) (by kernel_rfl) (by kernel_rfl) (fun _ _ _ h => h) (Or.inl ⟨by rfl, ?_⟩) (by assumption) ?_
    rotate_left 1
    · (intro w hSw; (try dsimp only at hSw); go_simp; (try with_reducible rfl))
    try simp only [Act.put, List.setIfInBounds_toArray, List.set_cons_zero, List.set_cons_succ]
    refine take_opG 5 47 (v := ?_) rfl rfl (by kernel_rfl) (by kernel_rfl) (by decide) (by kernel_rfl) (by kernel_rfl) (fun _ _ _ h => h) (Or.inl ⟨by rfl, ?_⟩) (by assumption) ?_
    rotate_left 1
    · (intro w hSw; (try dsimp only at hSw); go_simp; (try with_reducible rfl))
    try simp only [Act.put, List.setIfInBounds_toArray, List.set_cons_zero, List.set_cons_succ]
    refine take_opG 6 48 (v := ?_) rfl rfl (by kernel_rfl) (by kernel_rfl) (by decide) (by kernel_rfl) (by kernel_rfl) (fun _ _ _ h => h) (Or.inl ⟨by rfl, ?_⟩) (by assumption) ?_
    rotate_left 1
    · (intro w hSw; (try dsimp only at hSw); go_simp; (try with_reducible rfl))
    try simp only [Act.put, List.setIfInBounds_toArray, List.set_cons_zero, List.set_cons_succ]
    refine take_opG 7 49 (v := ?_) rfl rfl (by kernel_rfl) (by kernel_rfl) (by decide) (by kernel_rfl) (by kernel_rfl) (fun _ _ _ h => h) (Or.inl ⟨by rfl, ?_⟩) (by assumption) ?_
    rotate_left 1
    · (intro w hSw; (try dsimp only at hSw); go_simp; (try with_reducible rfl))
    try simp only [Act.put, List.setIfInBounds_toArray, List.set_cons_zero, List.set_cons_succ]
    refine take_opG 8 50 (v := ?_) rfl rfl (by kernel_rfl) (by kernel_rfl) (by decide) (by kernel_rfl) (by kernel_rfl) (fun _ _ _ h => h) (Or.inl ⟨by rfl, ?_⟩) (by assumption) ?_
    rotate_left 1
    · (intro w hSw; (try dsimp only at hSw); go_simp; (try with_reducible rfl))
    try simp only [Act.put, List.setIfInBounds_toArray, List.set_cons_zero, List.set_cons_succ]
    refine take_opG 9 51 (v := ?_) rfl rfl (by kernel_rfl) (by kernel_rfl) (by decide) (by kernel_rfl) (by kernel_rfl) (fun _ _ _ h => h) (Or.inl ⟨by rfl, ?_⟩) (by assumption) ?_
    rotate_left 1
    · (intro w hSw; (try dsimp only at hSw); go_simp; (try with_reducible rfl))
    try simp only [Act.put, List.setIfInBounds_toArray, List.set_cons_zero, List.set_cons_succ]
    refine take_opG 10 52 (v := ?_) rfl rfl (by kernel_rfl) (by kernel_rfl) (by decide) (by kernel_rfl) (by kernel_rfl) (fun _ _ _ h => h) (Or.inl ⟨by rfl, ?_⟩) (by assumption) ?_
    rotate_left 1
    · (intro w hSw; (try dsimp only at hSw); go_simp; (try with_reducible rfl))
    try simp only [Act.put, List.setIfInBounds_toArray, List.set_cons_zero, List.set_cons_succ]
    refine take_opG 11 53 (v := ?_) rfl rfl (by kernel_rfl) (by kernel_rfl) (by decide) (by kernel_rfl) (by kernel_rfl) (fun _ _ _ h => h) (Or.inl ⟨by rfl, ?_⟩) (by assumption) ?_
    rotate_left 1
    · (intro w hSw; (try dsimp only at hSw); go_simp; (try with_reducible rfl))
    try simp only [Act.put, List.setIfInBounds_toArray, List.set_cons_zero, List.set_cons_succ]
    refine take_opG 12 54 (v := ?_) rfl rfl (by kernel_rfl) (by kernel_rfl) (by decide) (by kernel_rfl) (by kernel_rfl) (fun _ _ _ h => h) (Or.inl ⟨by rfl, ?_⟩) (by assumption) ?_
    rotate_left 1
    · (intro w hSw; (try dsimp only at hSw); go_simp; (try with_reducible rfl))
    try simp only [Act.put, List.setIfInBounds_toArray, List.set_cons_zero, List.set_cons_succ]
    refine take_opG 13 55 (v := ?_) rfl rfl (by kernel_rfl) (by kernel_rfl) (by decide) (by kernel_rfl) (by kernel_rfl) (fun _ _ _ h => h) (Or.inl ⟨by rfl, ?_⟩) (by assumption) ?_
    rotate_left 1
    · (intro w hSw; (try dsimp only at hSw); go_simp; (try with_reducible rfl))
    try simp only [Act.put, List.setIfInBounds_toArray, List.set_cons_zero, List.set_cons_succ]
    refine one_opG (i := 14) (by kernel_rfl) rfl (fun K hK => ?_)
    go_simp
    refine (HSM.out _ (HFB.out.then1 (HW7.out.then1 hS.1))).mono ?_
    rintro e1 Y1 ⟨rfl, hf1⟩
    have hS1 := HSS.out Y1 (hS.1.then1 hf1)
    refine hK.out _ _ hS1 ?_
    clear hK K hS hf1
    have hS := hS1
    clear hS1
    try simp only [Act.put, List.setIfInBounds_toArray, List.set_cons_zero, List.set_cons_succ]
    refine take_opG 15 57 (v := ?_) rfl rfl (by kernel_rfl) (by kernel_rfl) (by decide) (by kernel_rfl) (by kernel_rfl) (fun _ _ _ h => h) (Or.inl ⟨by rfl, ?_⟩) (by assumption) ?_
    rotate_left 1
    · (intro w hSw; (try dsimp only at hSw); go_simp; (try with_reducible rfl))
    try simp only [Act.put, List.setIfInBounds_toArray, List.set_cons_zero, List.set_cons_succ]
    refine take_opG 16 58 (v := ?_) rfl rfl (by kernel_rfl) (by kernel_rfl) (by decide) (by kernel_rfl) (by kernel_rfl) (fun _ _ _ h => h) (Or.inl ⟨by rfl, ?_⟩) (by assumption) ?_
    rotate_left 1
    · (intro w hSw; (try dsimp only at hSw); go_simp; (try with_reducible rfl))
    try simp only [Act.put, List.setIfInBounds_toArray, List.set_cons_zero, List.set_cons_succ]
    refine last_opG (by kernel_rfl) (by kernel_rfl) rfl (fun K hK => ?_)
    go_simp
    refine hK.out _ _ ?_
    clear hK K
    go_wp2
    go_ret
    exact ⟨by first | rfl | (have h := HNE.out; simp [h]), HFB.out.then1 (HW7.out.then1 hS.1)⟩
  · rw [tf_false hE] at HSM
    have HNE := Lib.hid hE
    clear hE
    go_enter Tryz.func5, Tryz.ntmps5
    go_wp2_with (first
      | (go_at_call 13; first | (refine (HBY2.out _ (HFB.out.then1 HW6.out)).mono ?_; rintro e w7 ⟨a7, c7, rfl, cp7⟩; clear y0 y1 y2 z0 z1 z2 hbl hbl2; obtain ⟨y0, y1, y2, z0, z1, z2⟩ := HBX.out w7 (HW6.out.then1 cp7.frm); have hbl := World.block_lt_of_cell? _ _ y0; have hbl2 := World.block_lt_of_cell? _ _ z0; have HW7 := Lib.hid (HW6.out.then1 cp7.frm); have HP7 := Lib.hid (HP6.out.step cp7.frm); have HQ7 := Lib.hid cp7; clear cp7) | (go_loud (refine (HBY.out _ (HFB.out.then1 HW5.out)).mono ?_); rintro e w6 ⟨a6, c6, rfl, cp6⟩; clear y0 y1 y2 z0 z1 z2 hbl hbl2; obtain ⟨y0, y1, y2, z0, z1, z2⟩ := HBX.out w6 (HW5.out.then1 cp6.frm); have hbl := World.block_lt_of_cell? _ _ y0; have hbl2 := World.block_lt_of_cell? _ _ z0; have HW6 := Lib.hid (HW5.out.then1 cp6.frm); have HP6 := Lib.hid cp6; clear cp6))
      | (go_at_call 14; first | ((refine (HR2.out _ (HFB.out.then1 HW4.out)).mono ?_); rintro e w5 ⟨rfl, hw5⟩; clear y0 y1 y2 z0 z1 z2 hbl hbl2; obtain ⟨y0, y1, y2, z0, z1, z2⟩ := HBX.out w5 (HW4.out.then1 hw5); have hbl := World.block_lt_of_cell? _ _ y0; have hbl2 := World.block_lt_of_cell? _ _ z0; have HW5 := Lib.hid (HW4.out.then1 hw5); clear hw5) | (go_loud (refine (HR.out _ (HFB.out.then1 HW3.out)).mono ?_); rintro e w4 ⟨rfl, hw4⟩; clear y0 y1 y2 z0 z1 z2 hbl hbl2; obtain ⟨y0, y1, y2, z0, z1, z2⟩ := HBX.out w4 (HW3.out.then1 hw4); have hbl := World.block_lt_of_cell? _ _ y0; have hbl2 := World.block_lt_of_cell? _ _ z0; have HW4 := Lib.hid (HW3.out.then1 hw4); clear hw4))
      | (go_at_call 12; first | ((refine (HS2.out _ (HFB.out.then1 HW2.out)).mono ?_); rintro e w3 ⟨rfl, hw3⟩; clear y0 y1 y2 z0 z1 z2 hbl hbl2; obtain ⟨y0, y1, y2, z0, z1, z2⟩ := HBX.out w3 (HW2.out.then1 hw3); have hbl := World.block_lt_of_cell? _ _ y0; have hbl2 := World.block_lt_of_cell? _ _ z0; have HW3 := Lib.hid (HW2.out.then1 hw3); clear hw3) | (go_loud (refine (HS.out _ (HFB.out.then1 HW1.out)).mono ?_); rintro e w2 ⟨rfl, hw2⟩; clear y0 y1 y2 z0 z1 z2 hbl hbl2; obtain ⟨y0, y1, y2, z0, z1, z2⟩ := HBX.out w2 (HW1.out.then1 hw2); have hbl := World.block_lt_of_cell? _ _ y0; have hbl2 := World.block_lt_of_cell? _ _ z0; have HW2 := Lib.hid (HW1.out.then1 hw2); clear hw2))
      | (go_at_call 11; (go_loud (refine (HA.out _).mono ?_); rintro e w1 ⟨rfl, hw1⟩; obtain ⟨y0, y1, y2, z0, z1, z2⟩ := HBX.out w1 (hw1); have hbl := World.block_lt_of_cell? _ _ y0; have hbl2 := World.block_lt_of_cell? _ _ z0; have HW1 := Lib.hid hw1; clear hw1)))
    have HSS := Lib.hid (fun W (f : Frm NoS w7 W) => (⟨f, HBX.out W (HW7.out.then1 f), conv_str (HP7.out.step f).rd, conv_str (HQ7.out.step f).rd⟩ : (fun w' => Frm NoS w7 w' ∧ (w'.cell? ⟨w.heap.size, 0, none⟩ = some (.slice a0 n c0) ∧ w'.cell? ⟨w.heap.size, 1, none⟩ = some (.slice a1 m c1) ∧ w'.cell? ⟨w.heap.size, 2, none⟩ = some (.slice a2 k c2) ∧ w'.cell? ⟨w.heap.size + 1, 0, none⟩ = some (.slice b0 n' d0) ∧ w'.cell? ⟨w.heap.size + 1, 1, none⟩ = some (.slice b1 m' d1) ∧ w'.cell? ⟨w.heap.size + 1, 2, none⟩ = some (.slice b2 k' d2)) ∧ (convert 32 9 (.slice a6 X.length c6)).run Tryz.prog w' = .ok (.string ⟨X.toArray⟩) w' ∧ (convert 32 9 (.slice a7 Y.length c7)).run Tryz.prog w' = .ok (.string ⟨Y.toArray⟩) w') W))
    refine wp_region_G (S := fun w' => Frm NoS w7 w' ∧ (w'.cell? ⟨w.heap.size, 0, none⟩ = some (.slice a0 n c0) ∧ w'.cell? ⟨w.heap.size, 1, none⟩ = some (.slice a1 m c1) ∧ w'.cell? ⟨w.heap.size, 2, none⟩ = some (.slice a2 k c2) ∧ w'.cell? ⟨w.heap.size + 1, 0, none⟩ = some (.slice b0 n' d0) ∧ w'.cell? ⟨w.heap.size + 1, 1, none⟩ = some (.slice b1 m' d1) ∧ w'.cell? ⟨w.heap.size + 1, 2, none⟩ = some (.slice b2 k' d2)) ∧ (convert 32 9 (.slice a6 X.length c6)).run Tryz.prog w' = .ok (.string ⟨X.toArray⟩) w' ∧ (convert 32 9 (.slice a7 Y.length c7)).run Tryz.prog w' = .ok (.string ⟨Y.toArray⟩) w') 17 (by kernel_rfl) (HSS.out _ (Frm.drew _ _)) ?_
    intro hS
    clear y0 y1 y2 z0 z1 z2 hbl hbl2
    generalize w7.drew = Y0 at *
    refine take_opG 0 42 (v := ?_) rfl rfl (by kernel_rfl) (by kernel_rfl) (by decide) (by kernel_rfl) (by kernel_rfl) (fun _ _ _ h => h) (Or.inl ⟨by rfl, ?_⟩) (by assumption) ?_
    rotate_left 1
    · (intro w hSw; (try dsimp only at hSw); go_simp; (try with_reducible rfl))
    try simp only [Act.put, List.setIfInBounds_toArray, List.set_cons_zero, List.set_cons_succ]
    refine take_opG 1 43 (v := ?_) rfl rfl (by kernel_rfl) (by kernel_rfl) (by decide) (by kernel_rfl) (by kernel_rfl) (fun _ _ _ h => h) (Or.inl ⟨by rfl, ?_⟩) (by assumption) ?_
    rotate_left 1
    · (intro w hSw; (try dsimp only at hSw); go_simp; (try with_reducible rfl))
    try simp only [Act.put, List.setIfInBounds_toArray, List.set_cons_zero, List.set_cons_succ]
    refine take_opG 2 44 (v := ?_) rfl rfl (by kernel_rfl) (by kernel_rfl) (by decide) (by kernel_rfl) (by kernel_rfl) (fun _ _ _ h => h) (Or.inl ⟨by rfl, ?_⟩) (by assumption) ?_
    rotate_left 1
    · (intro w hSw; (try dsimp only at hSw); go_simp; (try with_reducible rfl))
    try simp only [Act.put, List.setIfInBounds_toArray, List.set_cons_zero, List.set_cons_succ]
    refine take_opG 3 45 (v := ?_) rfl rfl (by kernel_rfl) (by kernel_rfl) (by decide) (by kernel_rfl) (by kernel_rfl) (fun _ _ _ h => h) (Or.inl ⟨by rfl, ?_⟩) (by assumption) ?_
    rotate_left 1
    · (intro w hSw; (try dsimp only at hSw); go_simp; (try with_reducible rfl))
    try simp only [Act.put, List.setIfInBounds_toArray, List.set_cons_zero, List.set_cons_succ]
    refine take_opG 4 46 (v := ?_) rfl rfl (by kernel_rfl) (by kernel_rfl) (by decide) (by kernel_rfl) (by kernel_rfl) (fun _ _ _ h => h) (Or.inl ⟨by rfl, ?_⟩) (by assumption) ?_
    rotate_left 1
    · (intro w hSw; (try dsimp only at hSw); go_simp; (try with_reducible rfl))
    try simp only [Act.put, List.setIfInBounds_toArray, List.set_cons_zero, List.set_cons_succ]
    refine take_opG 5 47 (v := ?_) rfl rfl (by kernel_rfl) (by kernel_rfl) (by decide) (by kernel_rfl) (by kernel_rfl) (fun _ _ _ h => h) (Or.inl ⟨by rfl, ?_⟩) (by assumption) ?_
    rotate_left 1
    · (intro w hSw; (try dsimp only at hSw); go_simp; (try with_reducible rfl))
    try simp only [Act.put, List.setIfInBounds_toArray, List.set_cons_zero, List.set_cons_succ]
    refine take_opG 6 48 (v := ?_) rfl rfl (by kernel_rfl) (by kernel_rfl) (by decide) (by kernel_rfl) (by kernel_rfl) (fun _ _ _ h => h) (Or.inl ⟨by rfl, ?_⟩) (by assumption) ?_
    rotate_left 1
    · (intro w hSw; (try dsimp only at hSw); go_simp; (try with_reducible rfl))
    try simp only [Act.put, List.setIfInBounds_toArray, List.set_cons_zero, List.set_cons_succ]
    refine take_opG 7 49 (v := ?_) rfl rfl (by kernel_rfl) (by kernel_rfl) (by decide) (by kernel_rfl) (by kernel_rfl) (fun _ _ _ h => h) (Or.inl ⟨by rfl, ?_⟩) (by assumption) ?_
    rotate_left 1
    · (intro w hSw; (try dsimp only at hSw); go_simp; (try with_reducible rfl))
    try simp only [Act.put, List.setIfInBounds_toArray, List.set_cons_zero, List.set_cons_succ]
    refine take_opG 8 50 (v := ?_) rfl rfl (by kernel_rfl) (by kernel_rfl) (by decide) (by kernel_rfl) (by kernel_rfl) (fun _ _ _ h => h) (Or.inl ⟨by rfl, ?_⟩) (by assumption) ?_
    rotate_left 1
    · (intro w hSw; (try dsimp only at hSw); go_simp; (try with_reducible rfl))
    try simp only [Act.put, List.setIfInBounds_toArray, List.set_cons_zero, List.set_cons_succ]
    refine take_opG 9 51 (v := ?_) rfl rfl (by kernel_rfl) (by kernel_rfl) (by decide) (by kernel_rfl) (by kernel_rfl) (fun _ _ _ h => h) (Or.inl ⟨by rfl, ?_⟩) (by assumption) ?_
    rotate_left 1
    · (intro w hSw; (try dsimp only at hSw); go_simp; (try with_reducible rfl))
    try simp only [Act.put, List.setIfInBounds_toArray, List.set_cons_zero, List.set_cons_succ]
    refine take_opG 10 52 (v := ?_) rfl rfl (by kernel_rfl) (by kernel_rfl) (by decide) (by kernel_rfl) (by kernel_rfl) (fun _ _ _ h => h) (Or.inl ⟨by rfl, ?_⟩) (by assumption) ?_
    rotate_left 1
    · (intro w hSw; (try dsimp only at hSw); go_simp; (try with_reducible rfl))
    try simp only [Act.put, List.setIfInBounds_toArray, List.set_cons_zero, List.set_cons_succ]
    refine take_opG 11 53 (v := ?_) rfl rfl (by kernel_rfl) (by kernel_rfl) (by decide) (by kernel_rfl) (by kernel_rfl) (fun _ _ _ h => h) (Or.inl ⟨by rfl, ?_⟩) (by assumption) ?_
    rotate_left 1
    · (intro w hSw; (try dsimp only at hSw); go_simp; (try with_reducible rfl))
    try simp only [Act.put, List.setIfInBounds_toArray, List.set_cons_zero, List.set_cons_succ]
    refine take_opG 12 54 (v := ?_) rfl rfl (by kernel_rfl) (by kernel_rfl) (by decide) (by kernel_rfl) (by kernel_rfl) (fun _ _ _ h => h) (Or.inl ⟨by rfl, ?_⟩) (by assumption) ?_
    rotate_left 1
    · (intro w hSw; (try dsimp only at hSw); go_simp; (try with_reducible rfl))
    try simp only [Act.put, List.setIfInBounds_toArray, List.set_cons_zero, List.set_cons_succ]
    refine take_opG 13 55 (v := ?_) rfl rfl (by kernel_rfl) (by kernel_rfl) (by decide) (by kernel_rfl) (by kernel_rfl) (fun _ _ _ h => h) (Or.inl ⟨by rfl, ?_⟩) (by assumption) ?_
    rotate_left 1
    · (intro w hSw; (try dsimp only at hSw); go_simp; (try with_reducible rfl))
    try simp only [Act.put, List.setIfInBounds_toArray, List.set_cons_zero, List.set_cons_succ]
    refine one_opG (i := 14) (by kernel_rfl) rfl (fun K hK => ?_)
    go_simp
    refine (HSM.out _ (HFB.out.then1 (HW7.out.then1 hS.1))).mono ?_
    rintro e1 Y1 ⟨rfl, hf1⟩
    have hS1 := HSS.out Y1 (hS.1.then1 hf1)
    refine hK.out _ _ hS1 ?_
    clear hK K hS hf1
    have hS := hS1
    clear hS1
    try simp only [Act.put, List.setIfInBounds_toArray, List.set_cons_zero, List.set_cons_succ]
    refine take_opG 15 57 (v := ?_) rfl rfl (by kernel_rfl) (by kernel_rfl) (by decide) (by kernel_rfl) (by kernel_rfl) (fun _ _ _ h => h) (Or.inl ⟨by rfl, ?_⟩) (by assumption) ?_
    rotate_left 1
    · (intro w hSw; (try dsimp only at hSw); go_simp; (try with_reducible rfl))
    try simp only [Act.put, List.setIfInBounds_toArray, List.set_cons_zero, List.set_cons_succ]
    refine take_opG 16 58 (v := ?_) rfl rfl (by kernel_rfl) (by kernel_rfl) (by decide) (by kernel_rfl) (by kernel_rfl) (fun _ _ _ h => h) (Or.inl ⟨by rfl, ?_⟩) (by assumption) ?_
    rotate_left 1
    · (intro w hSw; (try dsimp only at hSw); go_simp; (try with_reducible rfl))
    try simp only [Act.put, List.setIfInBounds_toArray, List.set_cons_zero, List.set_cons_succ]
    refine last_opG (by kernel_rfl) (by kernel_rfl) rfl (fun K hK => ?_)
    go_simp
    refine hK.out _ _ ?_
    clear hK K
    go_wp2
    go_ret
    exact ⟨by first | rfl | (have h := HNE.out; simp [h]), HFB.out.then1 (HW7.out.then1 hS.1)⟩
/-- In the row's order. -/
theorem packUnlike_walk (w : World) (v : Value) (h : CauIn w v) (u : Value) (hu : CauIn w u) : Calls Tryz.prog 5 #[v, u] w fun e w' => e = .returned (.bool true) ∧ Frm (fun _ => False) w w' := packUnlike_law w v u h hu
end Go.Proofs.YtafdclkpeomomaaGreat
