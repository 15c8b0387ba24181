/- Words for the law MsgRight: MsgRightL. -/
import Derived.Test.YtcahemkomfaabaaGreatMsgRightG19
import Derived.Test.YtcahemkomfaabaaGreatMsgRightG35
set_option linter.unusedSimpArgs false
set_option linter.unusedVariables false
/- The law MsgRight: its walk. Printed by wip/msglaws.py. -/
namespace Go.Proofs.YtcahemkomfaabaaGreat
open Go.RowKit
set_option maxHeartbeats 16000000 in
set_option maxRecDepth 1000000 in
theorem msgRight_law (w : World) (v : Value) (h : MsgIn w v) : Calls Tryz.prog 3 #[v] w fun e w' => e = .returned (.bool true) ∧ Frm (fun _ => False) w w' := by
 obtain ⟨m, ps, lv, ev, kv, cv, rfl, hat, hfit⟩ := h.out
 have HA := Lib.hid awake25_any
 have HSM := Lib.hid (fun W (f : Frm NoS w W) => r25Small_any m ps W lv ev kv cv (hat.keep0 f) hfit)
 have HAT := Lib.hid hat
 obtain ⟨a0, c0, a1, c1, a2, c2, rfl, rfl, rfl⟩ := hat.cau.shape
 obtain ⟨al, cl, rfl⟩ := hat.bs.rd.sl
 have HFA := Lib.hid (show Frm NoS w (w.alloc (.cells #[.int .i64 m.kind, .int .i64 m.fr, .int .i64 m.tt, .int .i64 m.v0, .int .i64 m.v1, .int .i64 m.v2, .int .i64 m.v3, .slice al ps.length cl, .slice a0 m.es.length c0, .slice a1 m.ks.len c1, .slice a2 m.c.length c2] 34)) from Frm.alloc _ _ _)
 have HBX := Lib.hid (fun W f => box11 w (.int .i64 m.kind) (.int .i64 m.fr) (.int .i64 m.tt) (.int .i64 m.v0) (.int .i64 m.v1) (.int .i64 m.v2) (.int .i64 m.v3) (.slice al ps.length cl) (.slice a0 m.es.length c0) (.slice a1 m.ks.len c1) (.slice a2 m.c.length c2) 34 W f)
 dsimp only [MsgD.ag] at HSM ⊢
 cases hs : m.small with
 | false =>
  rw [hs] at HSM
  clear hs hat hfit
  go_enter Tryz.func3, Tryz.ntmps3
  go_wp2_with (first
   | (go_at_call 9; first | (have q9 := HW2; clear q9; refine (HA.out _).mono ?_; rintro e w20 ⟨rfl, hw20⟩; have HW20 := Lib.hid (HFA.out.then1 (HW2.out.then1 hw20)); clear hw20) | (refine (HA.out _).mono ?_; rintro e w1 ⟨rfl, hw1⟩; obtain ⟨y0, y1, y2, y3, y4, y5, y6, y7, y8, y9, y10⟩ := HBX.out w1 hw1; have hlb := World.block_lt_of_cell? _ _ y0; have HW1 := Lib.hid hw1; clear hw1))
   | (go_at_call 10; refine (HSM.out _ (HFA.out.then1 HW1.out)).mono ?_; rintro e w2 ⟨rfl, hw2⟩; clear y0 y1 y2 y3 y4 y5 y6 y7 y8 y9 y10 hlb; obtain ⟨y0, y1, y2, y3, y4, y5, y6, y7, y8, y9, y10⟩ := HBX.out w2 (HW1.out.then1 hw2); have hlb := World.block_lt_of_cell? _ _ y0; have HW2 := Lib.hid (HW1.out.then1 hw2); clear hw2))
  go_ret
  exact ⟨rfl, HW20.out⟩
 | true =>
  have hok := MsgD.small.ok hs hfit
  have HTO := Lib.hid (fun W (f : Frm NoS w W) => To25_any (fun _ => True) m ps W _ _ _ _ (hat.keep0 f) hok.len)
  have HRR := Lib.hid (fun W (f : Frm NoS w W) => r25Right_any (fun _ => True) m ps W _ _ _ _ (hat.keep0 f) hok)
  have HMR := Lib.hid (fun W lv (h : MsgAt (fun _ => True) W m ps lv (.slice a0 m.es.length c0) (.slice a1 m.ks.len c1) (.slice a2 m.c.length c2)) => mRight_at (fun _ => True) m ps W _ _ _ _ h hok)
  have HSL := Lib.hid (fun W lv ev kv cv (h : MsgAt (fun _ => True) W m ps lv ev kv cv) => h.bs.rd.sl)
  dsimp only [MsgD.ag] at HTO HRR HMR
  rw [hs] at HSM
  clear hs hat hfit hok
  generalize tf m.right = y at *
  go_enter Tryz.func3, Tryz.ntmps3
  go_wp2_with (first
   | (go_at_call 9; (refine (HA.out _).mono ?_; rintro e w1 ⟨rfl, hw1⟩; obtain ⟨y0, y1, y2, y3, y4, y5, y6, y7, y8, y9, y10⟩ := HBX.out w1 hw1; have hlb := World.block_lt_of_cell? _ _ y0; have HW1 := Lib.hid hw1; clear hw1))
   | (go_at_call 10; refine (HSM.out _ (HFA.out.then1 HW1.out)).mono ?_; rintro e w2 ⟨rfl, hw2⟩; clear y0 y1 y2 y3 y4 y5 y6 y7 y8 y9 y10 hlb; obtain ⟨y0, y1, y2, y3, y4, y5, y6, y7, y8, y9, y10⟩ := HBX.out w2 (HW1.out.then1 hw2); have hlb := World.block_lt_of_cell? _ _ y0; have HW2 := Lib.hid (HW1.out.then1 hw2); clear hw2))
  have HSS := Lib.hid (fun W (f : Frm NoS w2 W) => (⟨f, HBX.out W (HW2.out.then1 f)⟩ : (fun w' => Frm NoS w2 w' ∧ (w'.cell? ⟨w.heap.size, 0, none⟩ = some (.int .i64 m.kind) ∧ w'.cell? ⟨w.heap.size, 1, none⟩ = some (.int .i64 m.fr) ∧ w'.cell? ⟨w.heap.size, 2, none⟩ = some (.int .i64 m.tt) ∧ w'.cell? ⟨w.heap.size, 3, none⟩ = some (.int .i64 m.v0) ∧ w'.cell? ⟨w.heap.size, 4, none⟩ = some (.int .i64 m.v1) ∧ w'.cell? ⟨w.heap.size, 5, none⟩ = some (.int .i64 m.v2) ∧ w'.cell? ⟨w.heap.size, 6, none⟩ = some (.int .i64 m.v3) ∧ w'.cell? ⟨w.heap.size, 7, none⟩ = some (.slice al ps.length cl) ∧ w'.cell? ⟨w.heap.size, 8, none⟩ = some (.slice a0 m.es.length c0) ∧ w'.cell? ⟨w.heap.size, 9, none⟩ = some (.slice a1 m.ks.len c1) ∧ w'.cell? ⟨w.heap.size, 10, none⟩ = some (.slice a2 m.c.length c2))) W))
  refine wp_region_G (S := fun w' => Frm NoS w2 w' ∧ (w'.cell? ⟨w.heap.size, 0, none⟩ = some (.int .i64 m.kind) ∧ w'.cell? ⟨w.heap.size, 1, none⟩ = some (.int .i64 m.fr) ∧ w'.cell? ⟨w.heap.size, 2, none⟩ = some (.int .i64 m.tt) ∧ w'.cell? ⟨w.heap.size, 3, none⟩ = some (.int .i64 m.v0) ∧ w'.cell? ⟨w.heap.size, 4, none⟩ = some (.int .i64 m.v1) ∧ w'.cell? ⟨w.heap.size, 5, none⟩ = some (.int .i64 m.v2) ∧ w'.cell? ⟨w.heap.size, 6, none⟩ = some (.int .i64 m.v3) ∧ w'.cell? ⟨w.heap.size, 7, none⟩ = some (.slice al ps.length cl) ∧ w'.cell? ⟨w.heap.size, 8, none⟩ = some (.slice a0 m.es.length c0) ∧ w'.cell? ⟨w.heap.size, 9, none⟩ = some (.slice a1 m.ks.len c1) ∧ w'.cell? ⟨w.heap.size, 10, none⟩ = some (.slice a2 m.c.length c2))) 6 (by kernel_rfl) (HSS.out _ (Frm.drew _ _)) ?_
  intro hS
  clear y0 y1 y2 y3 y4 y5 y6 y7 y8 y9 y10 hlb
  generalize w2.drew = Y0 at *
  refine tkG 0 11 rfl rfl (v := ?_) (.inl ⟨by rfl, ?_⟩) ?_
  rotate_left 1
  · (intro w hSw; (try dsimp only at hSw); go_simp; (try with_reducible rfl))
  try simp only [Act.put, List.setIfInBounds_toArray, List.set_cons_zero, List.set_cons_succ]
  refine tkG 3 14 rfl rfl (v := ?_) (.inl ⟨by rfl, ?_⟩) ?_
  rotate_left 1
  · (intro w hSw; (try dsimp only at hSw); go_simp; (try with_reducible rfl))
  try simp only [Act.put, List.setIfInBounds_toArray, List.set_cons_zero, List.set_cons_succ]
  refine one_opG (i := 1) (by kernel_rfl) rfl (fun K hK => ?_)
  go_simp
  refine (HTO.out _ (HFA.out.then1 (HW2.out.then1 hS.1))).mono ?_
  rintro e1 Y1 ⟨lv1, rfl, hat1, hf1⟩
  obtain ⟨al1, cl1, rfl⟩ := HSL.out _ _ _ _ _ hat1
  have HAT1 := Lib.hid hat1; clear hat1
  have hS1 := HSS.out Y1 (hS.1.then1 hf1)
  refine hK.out _ _ hS1 ?_
  clear hK K hS
  have hS := hS1
  clear hS1
  clear hf1
  try simp only [Act.put, List.setIfInBounds_toArray, List.set_cons_zero, List.set_cons_succ]
  refine one_opG (i := 2) (by kernel_rfl) rfl (fun K hK => ?_)
  go_simp
  refine (HMR.out _ _ HAT1.out).mono ?_
  rintro e2 Y2 ⟨rfl, hf2⟩
  have hS1 := HSS.out Y2 (hS.1.then1 hf2)
  refine hK.out _ _ hS1 ?_
  clear hK K hS
  have hS := hS1
  clear hS1
  clear hf2 HAT1
  try simp only [Act.put, List.setIfInBounds_toArray, List.set_cons_zero, List.set_cons_succ]
  refine one_opG (i := 4) (by kernel_rfl) rfl (fun K hK => ?_)
  go_simp
  refine (HRR.out _ (HFA.out.then1 (HW2.out.then1 hS.1))).mono ?_
  rintro e4 Y4 ⟨rfl, hf4⟩
  try (have h1 := HAT1.out.keep0 hf4; clear HAT1; have HAT1 := Lib.hid h1; clear h1)
  have hS1 := HSS.out Y4 (hS.1.then1 hf4)
  refine hK.out _ _ hS1 ?_
  clear hK K hS
  have hS := hS1
  clear hS1
  clear hf4
  try simp only [Act.put, List.setIfInBounds_toArray, List.set_cons_zero, List.set_cons_succ]
  refine tkG 5 16 rfl rfl (v := ?_) (.inl ⟨by rfl, ?_⟩) ?_
  rotate_left 1
  · (intro w hSw; (try dsimp only at hSw); go_simp; (try with_reducible rfl))
  try simp only [Act.put, List.setIfInBounds_toArray, List.set_cons_zero, List.set_cons_succ]
  refine last_opG (by kernel_rfl) (by kernel_rfl) rfl (fun K hK => ?_)
  go_simp
  refine hK.out _ _ ?_
  clear hK K
  go_wp2
  go_ret
  exact ⟨by first | rfl | simp, HFA.out.then1 (HW2.out.then1 hS.1)⟩
end Go.Proofs.YtcahemkomfaabaaGreat
