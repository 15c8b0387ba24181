/- Words for the law MsgSet: MsgEncodesL. -/
import Derived.Test.YtcahemkomfaabaaGreatMsgSetG19
import Derived.Test.YtcahemkomfaabaaGreatMsgSetG35
import Derived.Test.YtcahemkomfaabaaGreatMsgSetG36
import Derived.Test.YtcahemkomfaabaaGreatMsgSetG38
set_option linter.unusedSimpArgs false
set_option linter.unusedVariables false
set_option maxHeartbeats 32000000
set_option maxRecDepth 1000000
namespace Go.Proofs.YtcahemkomfaabaaGreat
open Go.RowKit
theorem msgEncodes_law (w : World) (v : Value) (h : MsgIn w v) : Calls Tryz.prog 4 #[v] w fun e w' => e = .returned (.bool true) ∧ Frm (fun _ => False) w w' := by
 obtain ⟨m, ps, lv, ev, kv, cv, rfl, hat, hfit⟩ := h.out
 have HA := Lib.hid awake25_any
 have HSM := Lib.hid (fun W (f : Frm NoS w W) => r25Small_any m ps W lv ev kv cv (hat.keep0 f) hfit)
 have HAT := Lib.hid hat
 obtain ⟨a0, c0, a1, c1, a2, c2, rfl, rfl, rfl⟩ := hat.cau.shape
 obtain ⟨al, cl, rfl⟩ := hat.bs.rd.sl
 have HFA := Lib.hid (show Frm NoS w (w.alloc (.cells #[.int .i64 m.kind, .int .i64 m.fr, .int .i64 m.tt, .int .i64 m.v0, .int .i64 m.v1, .int .i64 m.v2, .int .i64 m.v3, .slice al ps.length cl, .slice a0 m.es.length c0, .slice a1 m.ks.len c1, .slice a2 m.c.length c2] 34)) from Frm.alloc _ _ _)
 have HBX := Lib.hid (fun W f => box11 w (.int .i64 m.kind) (.int .i64 m.fr) (.int .i64 m.tt) (.int .i64 m.v0) (.int .i64 m.v1) (.int .i64 m.v2) (.int .i64 m.v3) (.slice al ps.length cl) (.slice a0 m.es.length c0) (.slice a1 m.ks.len c1) (.slice a2 m.c.length c2) 34 W f)
 dsimp only [MsgD.ag] at HSM ⊢
 cases hs : m.small with
 | false =>
  rw [hs] at HSM
  clear hs hat hfit
  go_enter Tryz.func4, Tryz.ntmps4
  go_wp2_with (first
   | (go_at_call 9; first | (have q9 := HW2; clear q9; refine (HA.out _).mono ?_; rintro e w20 ⟨rfl, hw20⟩; have HW20 := Lib.hid (HFA.out.then1 (HW2.out.then1 hw20)); clear hw20) | (refine (HA.out _).mono ?_; rintro e w1 ⟨rfl, hw1⟩; obtain ⟨y0, y1, y2, y3, y4, y5, y6, y7, y8, y9, y10⟩ := HBX.out w1 hw1; have hlb := World.block_lt_of_cell? _ _ y0; have HW1 := Lib.hid hw1; clear hw1))
   | (go_at_call 10; refine (HSM.out _ (HFA.out.then1 HW1.out)).mono ?_; rintro e w2 ⟨rfl, hw2⟩; clear y0 y1 y2 y3 y4 y5 y6 y7 y8 y9 y10 hlb; obtain ⟨y0, y1, y2, y3, y4, y5, y6, y7, y8, y9, y10⟩ := HBX.out w2 (HW1.out.then1 hw2); have hlb := World.block_lt_of_cell? _ _ y0; have HW2 := Lib.hid (HW1.out.then1 hw2); clear hw2))
  go_ret
  exact ⟨rfl, HW20.out⟩
 | true =>
  have hok := MsgD.small.ok hs hfit
  have HTO := Lib.hid (fun W (f : Frm NoS w W) => To25_any (fun _ => True) m ps W _ _ _ _ (hat.keep0 f) hok.len)
  have HSL := Lib.hid (fun W lv ev kv cv (h : MsgAt (fun _ => True) W m ps lv ev kv cv) => h.bs.rd.sl)
  have HCS := Lib.hid (fun W ps lv ev kv cv (h : MsgAt (fun _ => True) W m ps lv ev kv cv) => h.cau.shape)
  by_cases hr : m.right
  rotate_left 1
  · have HEN := Lib.hid (fun W lv (h : MsgAt (fun _ => True) W m ps lv (.slice a0 m.es.length c0) (.slice a1 m.ks.len c1) (.slice a2 m.c.length c2)) => mEncode_no (fun _ => True) m ps W _ _ _ _ h hok hr)
    have HRE := Lib.hid (fun W (f : Frm NoS w W) => r25Encode_no (fun _ => True) m ps W _ _ _ _ (hat.keep0 f) hok hr)
    dsimp only [MsgD.ag] at HTO HEN HRE
    rw [hs] at HSM
    have hcv := fun W => conv_str (show Rd W (.slice none 0 0) ([] : List UInt8).length (bV []) from .inl ⟨none, rfl, rfl, rfl⟩)
    have hcv' : ∀ W, (convert 43 9 (.slice none 0 0)).run Tryz.prog W = .ok (.string ⟨#[]⟩) W := hcv
    clear hs hat hfit hok hr hcv
    go_enter Tryz.func4, Tryz.ntmps4
    go_wp2_with (first
     | (go_at_call 9; (refine (HA.out _).mono ?_; rintro e w1 ⟨rfl, hw1⟩; obtain ⟨y0, y1, y2, y3, y4, y5, y6, y7, y8, y9, y10⟩ := HBX.out w1 hw1; have hlb := World.block_lt_of_cell? _ _ y0; have HW1 := Lib.hid hw1; clear hw1))
     | (go_at_call 10; refine (HSM.out _ (HFA.out.then1 HW1.out)).mono ?_; rintro e w2 ⟨rfl, hw2⟩; clear y0 y1 y2 y3 y4 y5 y6 y7 y8 y9 y10 hlb; obtain ⟨y0, y1, y2, y3, y4, y5, y6, y7, y8, y9, y10⟩ := HBX.out w2 (HW1.out.then1 hw2); have hlb := World.block_lt_of_cell? _ _ y0; have HW2 := Lib.hid (HW1.out.then1 hw2); clear hw2)
     | (go_at_call 12; refine (HTO.out _ (HFA.out.then1 HW2.out)).mono ?_; rintro e w3 ⟨lv1, rfl, hat1, hf1⟩; obtain ⟨al1, cl1, rfl⟩ := HSL.out _ _ _ _ _ hat1; have HAT3 := Lib.hid hat1; have HW3 := Lib.hid (HW2.out.then1 hf1); clear hat1 hf1)
     | (go_at_call 14; refine (HEN.out _ _ HAT3.out).mono ?_; rintro e w4 ⟨rfl, hf4⟩; clear y0 y1 y2 y3 y4 y5 y6 y7 y8 y9 y10 hlb; obtain ⟨y0, y1, y2, y3, y4, y5, y6, y7, y8, y9, y10⟩ := HBX.out w4 (HW3.out.then1 hf4); have hlb := World.block_lt_of_cell? _ _ y0; have HW4 := Lib.hid (HW3.out.then1 hf4); clear hf4)
     | (go_at_call 15; refine (HRE.out _ (HFA.out.then1 HW4.out)).mono ?_; rintro e w5 ⟨rfl, hf5⟩; clear y0 y1 y2 y3 y4 y5 y6 y7 y8 y9 y10 hlb; have HW5 := Lib.hid (HW4.out.then1 hf5); clear hf5))
    go_ret
    exact ⟨by first | rfl | simp, HFA.out.then1 HW5.out⟩
  have hl := msg_le hr hs
  have HEN := Lib.hid (fun W lv (h : MsgAt (fun _ => True) W m ps lv (.slice a0 m.es.length c0) (.slice a1 m.ks.len c1) (.slice a2 m.c.length c2)) => mEncode_yes (fun _ => True) m ps W _ _ _ _ h hok hr hl)
  have HRE := Lib.hid (fun W (f : Frm NoS w W) => r25Encode_yes m ps W _ _ _ _ (hat.keep0 f) hok hr hl)
  have HDE := Lib.hid (fun W v (h : Rd W v (Crc.frameB m.enc).length (bV (Crc.frameB m.enc))) => mDecode_frame m hr hok hl _ rfl v W h)
  have HOF := Lib.hid (fun W ps lv ev kv cv (h : MsgAt (fun _ => True) W m ps lv ev kv cv) => Of25_any (fun _ => True) m ps W lv ev kv cv h hok.len)
  have HSA := Lib.hid (fun W qs lv' ev' kv' cv' (h : MsgAt (fun _ => True) W m qs lv' ev' kv' cv') (f : Frm NoS w W) => tf_true (rfl : m = m) ▸ r25Same_any (fun _ => True) (fun _ => True) m m qs ps W lv' ev' kv' cv' _ _ _ _ h (hat.keep0 f) hok hok)
  dsimp only [MsgD.ag] at HTO HEN HRE HOF HSA
  rw [hs] at HSM
  clear hs hat hfit hok hr hl
  generalize Crc.frameB m.enc = X at *
  go_enter Tryz.func4, Tryz.ntmps4
  go_wp2_with (first
   | (go_at_call 9; (refine (HA.out _).mono ?_; rintro e w1 ⟨rfl, hw1⟩; obtain ⟨y0, y1, y2, y3, y4, y5, y6, y7, y8, y9, y10⟩ := HBX.out w1 hw1; have hlb := World.block_lt_of_cell? _ _ y0; have HW1 := Lib.hid hw1; clear hw1))
   | (go_at_call 10; refine (HSM.out _ (HFA.out.then1 HW1.out)).mono ?_; rintro e w2 ⟨rfl, hw2⟩; clear y0 y1 y2 y3 y4 y5 y6 y7 y8 y9 y10 hlb; obtain ⟨y0, y1, y2, y3, y4, y5, y6, y7, y8, y9, y10⟩ := HBX.out w2 (HW1.out.then1 hw2); have hlb := World.block_lt_of_cell? _ _ y0; have HW2 := Lib.hid (HW1.out.then1 hw2); clear hw2)
   | (go_at_call 12; refine (HTO.out _ (HFA.out.then1 HW2.out)).mono ?_; rintro e w3 ⟨lv1, rfl, hat1, hf1⟩; obtain ⟨al1, cl1, rfl⟩ := HSL.out _ _ _ _ _ hat1; have HAT3 := Lib.hid hat1; have HW3 := Lib.hid (HW2.out.then1 hf1); clear hat1 hf1)
   | (go_at_call 14; refine (HEN.out _ _ HAT3.out).mono ?_; rintro e w4 ⟨b4, d4, t4, ht4, rfl, hc4⟩; subst ht4; clear y0 y1 y2 y3 y4 y5 y6 y7 y8 y9 y10 hlb; obtain ⟨y0, y1, y2, y3, y4, y5, y6, y7, y8, y9, y10⟩ := HBX.out w4 (HW3.out.then1 hc4.frm); have hlb := World.block_lt_of_cell? _ _ y0; have HW4 := Lib.hid (HW3.out.then1 hc4.frm); have HC4 := Lib.hid hc4; clear hc4)
   | (go_at_call 15; refine (HRE.out _ (HFA.out.then1 HW4.out)).mono ?_; rintro e w5 ⟨b5, d5, t5, ht5, rfl, hc5⟩; subst ht5; clear y0 y1 y2 y3 y4 y5 y6 y7 y8 y9 y10 hlb; obtain ⟨y0, y1, y2, y3, y4, y5, y6, y7, y8, y9, y10⟩ := HBX.out w5 (HW4.out.then1 hc5.frm); have hlb := World.block_lt_of_cell? _ _ y0; have HW5 := Lib.hid (HW4.out.then1 hc5.frm); have hcv := conv_str (HC4.out.step hc5.frm).rd; have hcw := conv_str hc5.rd; have HC5 := Lib.hid (HC4.out.step hc5.frm); clear hc5)
   | (go_at_call 16; refine (HDE.out _ _ HC5.out.rd).mono ?_; rintro e w6 ⟨qs, lv6, ev6, kv6, cv6, rfl, hat6, hf6⟩; dsimp only [MsgD.ag]; clear hcv hcw; obtain ⟨g0, j0, g1, j1, g2, j2, rfl, rfl, rfl⟩ := HCS.out _ _ _ _ _ _ hat6; obtain ⟨gl, jl, rfl⟩ := hat6.bs.rd.sl; have HAT6 := Lib.hid hat6; have hfd := hf6; clear y0 y1 y2 y3 y4 y5 y6 y7 y8 y9 y10 hlb; obtain ⟨y0, y1, y2, y3, y4, y5, y6, y7, y8, y9, y10⟩ := HBX.out w6 (HW5.out.then1 hf6); have hlb := World.block_lt_of_cell? _ _ y0; have HW6 := Lib.hid (HW5.out.then1 hf6); clear hat6 hf6 hfd))
  have hfx : Frm NoS w6 (w6.alloc (.cells #[.int .i64 m.kind, .int .i64 m.fr, .int .i64 m.tt, .int .i64 m.v0, .int .i64 m.v1, .int .i64 m.v2, .int .i64 m.v3, .slice gl qs.length jl, .slice g0 m.es.length j0, .slice g1 m.ks.len j1, .slice g2 m.c.length j2] 40)) := Frm.alloc _ _ _
  have hbx6 := fun W f => box11 w6 (.int .i64 m.kind) (.int .i64 m.fr) (.int .i64 m.tt) (.int .i64 m.v0) (.int .i64 m.v1) (.int .i64 m.v2) (.int .i64 m.v3) (.slice gl qs.length jl) (.slice g0 m.es.length j0) (.slice g1 m.ks.len j1) (.slice g2 m.c.length j2) 40 W f
  have HW7 := Lib.hid (HW6.out.then1 hfx)
  have HAT7 := Lib.hid (HAT6.out.keep0 hfx)
  have HB7 := Lib.hid hbx6
  clear hfx hbx6
  generalize w6.alloc (.cells #[.int .i64 m.kind, .int .i64 m.fr, .int .i64 m.tt, .int .i64 m.v0, .int .i64 m.v1, .int .i64 m.v2, .int .i64 m.v3, .slice gl qs.length jl, .slice g0 m.es.length j0, .slice g1 m.ks.len j1, .slice g2 m.c.length j2] 40) = W7 at *
  have HSS := Lib.hid (fun W (f : Frm NoS W7 W) => (⟨f, HBX.out W (HW7.out.then1 f), HB7.out W f⟩ : (fun w' => Frm NoS W7 w' ∧ (w'.cell? ⟨w.heap.size, 0, none⟩ = some (.int .i64 m.kind) ∧ w'.cell? ⟨w.heap.size, 1, none⟩ = some (.int .i64 m.fr) ∧ w'.cell? ⟨w.heap.size, 2, none⟩ = some (.int .i64 m.tt) ∧ w'.cell? ⟨w.heap.size, 3, none⟩ = some (.int .i64 m.v0) ∧ w'.cell? ⟨w.heap.size, 4, none⟩ = some (.int .i64 m.v1) ∧ w'.cell? ⟨w.heap.size, 5, none⟩ = some (.int .i64 m.v2) ∧ w'.cell? ⟨w.heap.size, 6, none⟩ = some (.int .i64 m.v3) ∧ w'.cell? ⟨w.heap.size, 7, none⟩ = some (.slice al ps.length cl) ∧ w'.cell? ⟨w.heap.size, 8, none⟩ = some (.slice a0 m.es.length c0) ∧ w'.cell? ⟨w.heap.size, 9, none⟩ = some (.slice a1 m.ks.len c1) ∧ w'.cell? ⟨w.heap.size, 10, none⟩ = some (.slice a2 m.c.length c2)) ∧ w'.cell? ⟨w6.heap.size, 0, none⟩ = some (.int .i64 m.kind) ∧ w'.cell? ⟨w6.heap.size, 1, none⟩ = some (.int .i64 m.fr) ∧ w'.cell? ⟨w6.heap.size, 2, none⟩ = some (.int .i64 m.tt) ∧ w'.cell? ⟨w6.heap.size, 3, none⟩ = some (.int .i64 m.v0) ∧ w'.cell? ⟨w6.heap.size, 4, none⟩ = some (.int .i64 m.v1) ∧ w'.cell? ⟨w6.heap.size, 5, none⟩ = some (.int .i64 m.v2) ∧ w'.cell? ⟨w6.heap.size, 6, none⟩ = some (.int .i64 m.v3) ∧ w'.cell? ⟨w6.heap.size, 7, none⟩ = some (.slice gl qs.length jl) ∧ w'.cell? ⟨w6.heap.size, 8, none⟩ = some (.slice g0 m.es.length j0) ∧ w'.cell? ⟨w6.heap.size, 9, none⟩ = some (.slice g1 m.ks.len j1) ∧ w'.cell? ⟨w6.heap.size, 10, none⟩ = some (.slice g2 m.c.length j2)) W))
  refine wp_region_G (S := fun w' => Frm NoS W7 w' ∧ (w'.cell? ⟨w.heap.size, 0, none⟩ = some (.int .i64 m.kind) ∧ w'.cell? ⟨w.heap.size, 1, none⟩ = some (.int .i64 m.fr) ∧ w'.cell? ⟨w.heap.size, 2, none⟩ = some (.int .i64 m.tt) ∧ w'.cell? ⟨w.heap.size, 3, none⟩ = some (.int .i64 m.v0) ∧ w'.cell? ⟨w.heap.size, 4, none⟩ = some (.int .i64 m.v1) ∧ w'.cell? ⟨w.heap.size, 5, none⟩ = some (.int .i64 m.v2) ∧ w'.cell? ⟨w.heap.size, 6, none⟩ = some (.int .i64 m.v3) ∧ w'.cell? ⟨w.heap.size, 7, none⟩ = some (.slice al ps.length cl) ∧ w'.cell? ⟨w.heap.size, 8, none⟩ = some (.slice a0 m.es.length c0) ∧ w'.cell? ⟨w.heap.size, 9, none⟩ = some (.slice a1 m.ks.len c1) ∧ w'.cell? ⟨w.heap.size, 10, none⟩ = some (.slice a2 m.c.length c2)) ∧ w'.cell? ⟨w6.heap.size, 0, none⟩ = some (.int .i64 m.kind) ∧ w'.cell? ⟨w6.heap.size, 1, none⟩ = some (.int .i64 m.fr) ∧ w'.cell? ⟨w6.heap.size, 2, none⟩ = some (.int .i64 m.tt) ∧ w'.cell? ⟨w6.heap.size, 3, none⟩ = some (.int .i64 m.v0) ∧ w'.cell? ⟨w6.heap.size, 4, none⟩ = some (.int .i64 m.v1) ∧ w'.cell? ⟨w6.heap.size, 5, none⟩ = some (.int .i64 m.v2) ∧ w'.cell? ⟨w6.heap.size, 6, none⟩ = some (.int .i64 m.v3) ∧ w'.cell? ⟨w6.heap.size, 7, none⟩ = some (.slice gl qs.length jl) ∧ w'.cell? ⟨w6.heap.size, 8, none⟩ = some (.slice g0 m.es.length j0) ∧ w'.cell? ⟨w6.heap.size, 9, none⟩ = some (.slice g1 m.ks.len j1) ∧ w'.cell? ⟨w6.heap.size, 10, none⟩ = some (.slice g2 m.c.length j2)) 8 (by kernel_rfl) (HSS.out _ (Frm.drew _ _)) ?_
  intro hS
  clear y0 y1 y2 y3 y4 y5 y6 y7 y8 y9 y10 hlb
  generalize W7.drew = Y0 at *
  refine tkG 0 44 rfl rfl (v := ?_) (.inl ⟨by rfl, ?_⟩) ?_
  rotate_left 1
  · (intro w hSw; (try dsimp only at hSw); go_simp; (try with_reducible rfl))
  refine tkG 1 45 rfl rfl (v := ?_) (.inl ⟨by rfl, ?_⟩) ?_
  rotate_left 1
  · (intro w hSw; (try dsimp only at hSw); go_simp; (try with_reducible rfl))
  try simp only [Act.put, List.setIfInBounds_toArray, List.set_cons_zero, List.set_cons_succ]
  refine tkG 2 46 rfl rfl (v := ?_) (.inl ⟨by rfl, ?_⟩) ?_
  rotate_left 1
  · (intro w hSw; (try dsimp only at hSw); go_simp; (try with_reducible rfl))
  refine tkG 3 47 rfl rfl (v := ?_) (.inl ⟨by rfl, ?_⟩) ?_
  rotate_left 1
  · (intro w hSw; (try dsimp only at hSw); go_simp; (try with_reducible rfl))
  try simp only [Act.put, List.setIfInBounds_toArray, List.set_cons_zero, List.set_cons_succ]
  refine tkG 5 49 rfl rfl (v := ?_) (.inl ⟨by rfl, ?_⟩) ?_
  rotate_left 1
  · (intro w hSw; (try dsimp only at hSw); go_simp; (try with_reducible rfl))
  try simp only [Act.put, List.setIfInBounds_toArray, List.set_cons_zero, List.set_cons_succ]
  refine one_opG (i := 4) (by kernel_rfl) rfl (fun K hK => ?_)
  go_simp
  refine (HOF.out _ _ _ _ _ _ (HAT7.out.keep0 hS.1)).mono ?_
  rintro e1 Y1 ⟨lv8, rfl, hat8, hf8⟩
  obtain ⟨k8, z8, rfl⟩ := hat8.bs.rd.sl
  have HAT8 := Lib.hid hat8; clear hat8
  have hS1 := HSS.out Y1 (hS.1.then1 hf8)
  refine hK.out _ _ hS1 ?_
  clear hK K hS
  have hS := hS1
  clear hS1
  clear hf8
  try simp only [Act.put, List.setIfInBounds_toArray, List.set_cons_zero, List.set_cons_succ]
  refine one_opG (i := 6) (by kernel_rfl) rfl (fun K hK => ?_)
  go_simp
  refine (HSA.out _ _ _ _ _ _ HAT8.out (HFA.out.then1 (HW7.out.then1 hS.1))).mono ?_
  rintro e2 Y2 ⟨rfl, hf9⟩
  have hS1 := HSS.out Y2 (hS.1.then1 hf9)
  refine hK.out _ _ hS1 ?_
  clear hK K hS
  have hS := hS1
  clear hS1
  clear hf9
  try simp only [Act.put, List.setIfInBounds_toArray, List.set_cons_zero, List.set_cons_succ]
  refine tkG 7 51 rfl rfl (v := ?_) (.inl ⟨by rfl, ?_⟩) ?_
  rotate_left 1
  · (intro w hSw; (try dsimp only at hSw); go_simp; (try with_reducible rfl))
  try simp only [Act.put, List.setIfInBounds_toArray, List.set_cons_zero, List.set_cons_succ]
  refine last_opG (by kernel_rfl) (by kernel_rfl) rfl (fun K hK => ?_)
  go_simp
  refine hK.out _ _ ?_
  clear hK K
  go_wp2
  go_ret
  exact ⟨by first | rfl | simp, HFA.out.then1 (HW7.out.then1 hS.1)⟩
end Go.Proofs.YtcahemkomfaabaaGreat
