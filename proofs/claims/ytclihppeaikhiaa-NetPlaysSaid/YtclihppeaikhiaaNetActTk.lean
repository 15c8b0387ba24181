/- tributarylaw26.act: the walk of taking. -/
import Derived.Test.YtclihppeaikhiaaNetAct
namespace Go.Proofs.Ytclihppeaikhiaa
open Go.RowKit

/-- What act's last drawn region leaves as it is. -/
structure TkS (X0 : World) (n6 n10 n12 n13 : Nat) (cap : Nat) (v1 : Value) (pt : Int) (sp sq : Value) (ps : ByteArray) (w : World) : Prop where
  e0 : w.cell? ⟨n12, 0, none⟩ = some (.int .i64 cap)
  e1 : w.cell? ⟨n12, 1, none⟩ = some v1
  p0 : w.cell? ⟨n10, 0, none⟩ = some (.int .i64 pt)
  p1 : w.cell? ⟨n10, 1, none⟩ = some sp
  q0 : w.cell? ⟨n13, 0, none⟩ = some (.int .i64 pt)
  q1 : w.cell? ⟨n13, 1, none⟩ = some sq
  cp : (convert 25 9 sp).run Try.prog w = .ok (.string ps) w
  cq : (convert 25 9 sq).run Try.prog w = .ok (.string ps) w
  r : ∃ p q, w.heap[n6]? = some (.cells #[p, q] 76 (0, 0))
  frm : Frm (fun i => i = n6) X0 w

set_option linter.unusedSimpArgs false in
set_option maxHeartbeats 4000000 in
set_option maxRecDepth 1000000 in
theorem act_take (N : Nat → Prop) (w : World) (hN : ∀ k, N k → k < w.heap.size) (nb ch cap : Nat) (buf : List Value) (l : List Par) (h : NetAt w nb ch cap buf l) (aL : Option Addr) (cL : Nat) (hv : RefAt N w (.slice aL l.length cL) l) (k dst : Int) (n : Nat) (ab : Option Addr) (cb : Nat) (y : UInt8) :
    Calls Try.prog 39 #[.pointer (some ⟨nb, 0, none⟩), .agg #[.int .i64 cap, .slice aL l.length cL], .agg #[.int .u8 1, .int .i64 k, .int .i64 dst, .slice ab n cb, .int .u8 (y.toNat : Int)]] w (ActPost N w nb ch cap (tkL l k)) := by
  have hcl := h.clt
  have hnl := h.nlt
  have hlen : l.length ≤ 1000 := by have := h.pars.1; have := h.room; have := h.capb; omega
  obtain ⟨W3, hW3⟩ : ∃ W3, W3 = (((w.alloc (.cells #[.int .i64 cap, .slice aL l.length cL] 76)).alloc (.cells #[.int .u8 1, .int .i64 k, .int .i64 dst, .slice ab n cb, .int .u8 (y.toNat : Int)] 80)).alloc (.cells #[.int .i64 0, .slice none 0 0] 76)) := ⟨_, rfl⟩
  have fW : Frm (fun _ => False) w W3 := by rw [hW3]; exact ((Frm.alloc _ w _).trans (Frm.alloc _ _ _) fun _ _ h => h).trans (Frm.alloc _ _ _) fun _ _ h => h
  have hn : W3.heap.size = w.heap.size + 1 + 1 + 1 := by rw [hW3]; simp
  have b4 : W3.heap[w.heap.size]? = some (.cells #[.int .i64 cap, .slice aL l.length cL] 76) := by
    rw [hW3, Below.heap_alloc _ _ _ (by simp; omega), Below.heap_alloc _ _ _ (by simp)]; exact heap_alloc_new w _
  have b5 : W3.heap[w.heap.size + 1]? = some (.cells #[.int .u8 1, .int .i64 k, .int .i64 dst, .slice ab n cb, .int .u8 (y.toNat : Int)] 80) := by
    rw [hW3, Below.heap_alloc _ _ _ (by simp)]
    have := heap_alloc_new (w.alloc (.cells #[.int .i64 cap, .slice aL l.length cL] 76)) (.cells #[.int .u8 1, .int .i64 k, .int .i64 dst, .slice ab n cb, .int .u8 (y.toNat : Int)] 80)
    simpa only [World.size_alloc] using this
  have b6 : W3.heap[w.heap.size + 1 + 1]? = some (.cells #[.int .i64 0, .slice none 0 0] 76 (0, 0)) := by
    rw [hW3]
    have := heap_alloc_new ((w.alloc (.cells #[.int .i64 cap, .slice aL l.length cL] 76)).alloc (.cells #[.int .u8 1, .int .i64 k, .int .i64 dst, .slice ab n cb, .int .u8 (y.toNat : Int)] 80)) (.cells #[.int .i64 0, .slice none 0 0] 76)
    simpa only [World.size_alloc] using this
  have hn3 := h.keep0 fW
  have hpc := take_tot W3 nb ch cap buf l k hn3
  rw [hW3] at hpc
  have hvN := (hv.or (M := fun k => k = w.heap.size + 1 + 1) (fun k h e => by omega)).keepCell fW.cells0
  have HPC := Lib.hid hpc; clear hpc
  have H := Lib.hid h; clear h
  have H3 := Lib.hid hn3; clear hn3
  have HV := Lib.hid hvN; clear hvN hv
  have FW := Lib.hid fW; clear fW
  have B4 := Lib.hid b4; clear b4
  have B5 := Lib.hid b5; clear b5
  have B6 := Lib.hid b6; clear b6
  have HN := Lib.hid hn; clear hn
  have HW3 := Lib.hid hW3; clear hW3
  go_enter Try.func39, Try.ntmps39
  go_wp2_with fail
  refine HPC.out.mono ?_
  rintro e w1 ⟨buf1, ap, cp, rfl, hop, hn1, hf1⟩
  rw [← HW3.out] at hf1
  have hn3 := HN.out
  have h31 := hf1.size
  have g4 := hf1.blk B4.out (fun h => by have h1 : w.heap.size = ch := h; omega)
  have g5 := hf1.blk B5.out (fun h => by have h1 : w.heap.size + 1 = ch := h; omega)
  have g6 := hf1.blk B6.out (fun h => by have h1 : w.heap.size + 1 + 1 = ch := h; omega)
  have hv1 := HV.out.keepCell (H3.out.cells hf1)
  have fa : Frm (fun _ => False) w1 (w1.alloc (.cells #[.int .i64 (tkP l k).1, .slice ap (tkP l k).2.length cp] 43)) := Frm.alloc _ w1 _
  have hrc := rtake_tot (fun k => N k ∨ k = w.heap.size + 1 + 1) (w1.alloc (.cells #[.int .i64 (tkP l k).1, .slice ap (tkP l k).2.length cp] 43)) (fun k h => h.elim (fun h => by have := hN k h; simp; omega) (fun h => by simp; omega)) cap aL cL l k (hv1.keepCell fa.cells0) hlen
  have bp := heap_alloc_new w1 (.cells #[.int .i64 (tkP l k).1, .slice ap (tkP l k).2.length cp] 43)
  have c40 := cell_at g4 0 rfl
  have c41 := cell_at g4 1 rfl
  have c51 := cell_at g5 1 rfl
  have l4 := lt_of_block g4
  have l5 := lt_of_block g5
  have HRC := Lib.hid hrc; clear hrc
  have HOP := Lib.hid hop; clear hop
  have HN1 := Lib.hid hn1; clear hn1
  have HF1 := Lib.hid hf1; clear hf1
  have G6 := Lib.hid g6; clear g6
  have FA := Lib.hid fa; clear fa
  have BP := Lib.hid bp; clear bp
  clear hv1 g4 g5
  go_wp2_with fail
  refine HRC.out.mono ?_
  rintro e w2 ⟨v2, aq, cq, rfl, hr2, hq, hqn, hf2⟩
  obtain ⟨av, cv, rfl⟩ := hr2.shape
  obtain ⟨X0, hX0⟩ : ∃ X0, X0 = ((w2.alloc (.cells #[.int .i64 cap, .slice av (tkL l k).length cv] 76)).alloc (.cells #[.int .i64 (tkP l k).1, .slice aq (tkP l k).2.length cq] 107)).drew := ⟨_, rfl⟩
  have fX : Frm (fun _ => False) w2 X0 := by rw [hX0]; exact ((Frm.alloc _ w2 _).trans (Frm.alloc _ _ _) fun _ _ h => h).trans (Frm.drew _ _) fun _ _ h => h
  have b12 : X0.heap[w2.heap.size]? = some (.cells #[.int .i64 cap, .slice av (tkL l k).length cv] 76) := by
    rw [hX0]
    show ((w2.alloc _).alloc _).heap[w2.heap.size]? = _
    rw [Below.heap_alloc _ _ _ (by simp)]; exact heap_alloc_new w2 _
  have b13 : X0.heap[w2.heap.size + 1]? = some (.cells #[.int .i64 (tkP l k).1, .slice aq (tkP l k).2.length cq] 107) := by
    rw [hX0]
    have := heap_alloc_new (w2.alloc (.cells #[.int .i64 cap, .slice av (tkL l k).length cv] 76)) (.cells #[.int .i64 (tkP l k).1, .slice aq (tkP l k).2.length cq] 107)
    show ((w2.alloc (.cells #[.int .i64 cap, .slice av (tkL l k).length cv] 76)).alloc (.cells #[.int .i64 (tkP l k).1, .slice aq (tkP l k).2.length cq] 107)).heap[w2.heap.size + 1]? = _
    simpa only [World.size_alloc] using this
  have f12 := FA.out.trans hf2 fun _ _ h => h
  have f1X := f12.trans fX fun _ _ h => h
  have b10 := fX.blk (hf2.blk BP.out id) id
  have b6' := f1X.blk G6.out id
  have l10 := lt_of_block (hf2.blk BP.out id)
  have hop := f1X.owns HOP.out (fun _ _ => id)
  have hqX := hq.keepCell fX.cells0
  have hnX := HN1.out.keep0 f1X
  have hrX := hr2.keepCell fX.cells0
  have hS : TkS X0 (w.heap.size + 1 + 1) w1.heap.size w2.heap.size (w2.heap.size + 1) cap (.slice av (tkL l k).length cv) (tkP l k).1 (.slice ap (tkP l k).2.length cp) (.slice aq (tkP l k).2.length cq) ⟨(tkP l k).2.toArray⟩ X0 := ⟨cell_at b12 0 rfl, cell_at b12 1 rfl, cell_at b10 0 rfl, cell_at b10 1 rfl, cell_at b13 0 rfl, cell_at b13 1 rfl, conv_str (Rd.own hop), conv_str hqX, ⟨_, _, b6'⟩, Frm.refl _ _⟩
  have fw : Frm (fun i => i = ch) w X0 := ((FW.out.mono fun _ _ h => h.elim).trans HF1.out fun _ _ h => h).trans f1X fun _ _ h => h.elim
  have HS := Lib.hid hS; clear hS
  have HX0 := Lib.hid hX0; clear hX0
  have HOPX := Lib.hid hop; clear hop
  have HQX := Lib.hid hqX; clear hqX
  have HQN := Lib.hid hqn; clear hqn
  have HNX := Lib.hid hnX; clear hnX
  have HRX := Lib.hid hrX; clear hrX
  have HFW := Lib.hid fw; clear fw
  have n12 : w2.heap.size ≠ w.heap.size + 1 + 1 := by omega
  have n13 : w2.heap.size + 1 ≠ w.heap.size + 1 + 1 := by omega
  have n10 : w1.heap.size ≠ w.heap.size + 1 + 1 := by omega
  clear hr2 hq hf2 fX b12 b13 f12 f1X b10 b6' c40 c41 c51 l4 l5
  go_wp2_with fail
  have hS := HS.out
  refine wp_region_held_drew (S := TkS X0 (w.heap.size + 1 + 1) w1.heap.size w2.heap.size (w2.heap.size + 1) cap (.slice av (tkL l k).length cv) (tkP l k).1 (.slice ap (tkP l k).2.length cp) (.slice aq (tkP l k).2.length cq) ⟨(tkP l k).2.toArray⟩) (by kernel_rfl) (by rw [← HX0.out]; exact hS) (fun hHeld => ?_)
  rw [← HX0.out] at hHeld ⊢
  refine take_op 0 60 (v := ?_) rfl rfl (by kernel_rfl) (by kernel_rfl) (by kernel_rfl) (fun _ _ _ h => h) (Or.inl ⟨by rfl, ?_⟩) (by assumption) ?_
  rotate_left 1
  · (intro w hSw; obtain ⟨s0, s1, s2, s3, s4, s5, s6, s7, s8, s9⟩ := hSw; clear s8 s9; go_simp; (try with_reducible rfl))
  try simp only [Act.put, List.setIfInBounds_toArray, List.set_cons_zero, List.set_cons_succ]
  refine take_op 1 61 (v := ?_) rfl rfl (by kernel_rfl) (by kernel_rfl) (by kernel_rfl) (fun _ _ _ h => h) (Or.inl ⟨by rfl, ?_⟩) (by assumption) ?_
  rotate_left 1
  · (intro w hSw; obtain ⟨s0, s1, s2, s3, s4, s5, s6, s7, s8, s9⟩ := hSw; clear s8 s9; go_simp; (try with_reducible rfl))
  try simp only [Act.put, List.setIfInBounds_toArray, List.set_cons_zero, List.set_cons_succ]
  refine take_op 2 62 (v := ?_) rfl rfl (by kernel_rfl) (by kernel_rfl) (by kernel_rfl) (fun _ _ _ h => h) (Or.inl ⟨by rfl, ?_⟩) (by assumption) ?_
  rotate_left 1
  · (intro w hSw; obtain ⟨s0, s1, s2, s3, s4, s5, s6, s7, s8, s9⟩ := hSw; clear s8 s9; go_simp; (try with_reducible rfl))
  try simp only [Act.put, List.setIfInBounds_toArray, List.set_cons_zero, List.set_cons_succ]
  refine take_op 3 63 (v := ?_) rfl rfl (by kernel_rfl) (by kernel_rfl) (by kernel_rfl) (fun _ _ _ h => h) (Or.inl ⟨by rfl, ?_⟩) (by assumption) ?_
  rotate_left 1
  · (intro w hSw; obtain ⟨s0, s1, s2, s3, s4, s5, s6, s7, s8, s9⟩ := hSw; clear s8 s9; go_simp; (try with_reducible rfl))
  try simp only [Act.put, List.setIfInBounds_toArray, List.set_cons_zero, List.set_cons_succ]
  refine take_op 4 64 (v := ?_) rfl rfl (by kernel_rfl) (by kernel_rfl) (by kernel_rfl) (fun _ _ _ h => h) (Or.inl ⟨by rfl, ?_⟩) (by assumption) ?_
  rotate_left 1
  · (intro w hSw; obtain ⟨s0, s1, s2, s3, s4, s5, s6, s7, s8, s9⟩ := hSw; clear s8 s9; go_simp; (try with_reducible rfl))
  try simp only [Act.put, List.setIfInBounds_toArray, List.set_cons_zero, List.set_cons_succ]
  refine take_op 5 65 (v := ?_) rfl rfl (by kernel_rfl) (by kernel_rfl) (by kernel_rfl) (fun _ _ _ h => h) (Or.inl ⟨by rfl, ?_⟩) (by assumption) ?_
  rotate_left 1
  · (intro w hSw; obtain ⟨s0, s1, s2, s3, s4, s5, s6, s7, s8, s9⟩ := hSw; clear s8 s9; go_simp; (try with_reducible rfl))
  try simp only [Act.put, List.setIfInBounds_toArray, List.set_cons_zero, List.set_cons_succ]
  refine take_op 6 66 (v := ?_) rfl rfl (by kernel_rfl) (by kernel_rfl) (by kernel_rfl) (fun _ _ _ h => h) (Or.inl ⟨by rfl, ?_⟩) (by assumption) ?_
  rotate_left 1
  · (intro w hSw; obtain ⟨s0, s1, s2, s3, s4, s5, s6, s7, s8, s9⟩ := hSw; clear s8 s9; go_simp; (try with_reducible rfl))
  try simp only [Act.put, List.setIfInBounds_toArray, List.set_cons_zero, List.set_cons_succ]
  refine take_op 7 67 (v := ?_) rfl rfl (by kernel_rfl) (by kernel_rfl) (by kernel_rfl) (fun _ _ _ h => h) (Or.inl ⟨by rfl, ?_⟩) (by assumption) ?_
  rotate_left 1
  · (intro w hSw; obtain ⟨s0, s1, s2, s3, s4, s5, s6, s7, s8, s9⟩ := hSw; clear s8 s9; go_simp; (try with_reducible rfl))
  try simp only [Act.put, List.setIfInBounds_toArray, List.set_cons_zero, List.set_cons_succ]
  refine take_op 8 68 (v := ?_) rfl rfl (by kernel_rfl) (by kernel_rfl) (by kernel_rfl) (fun _ _ _ h => h) (Or.inl ⟨by rfl, ?_⟩) (by assumption) ?_
  rotate_left 1
  · (intro w hSw; obtain ⟨s0, s1, s2, s3, s4, s5, s6, s7, s8, s9⟩ := hSw; clear s8 s9; go_simp; (try with_reducible rfl))
  try simp only [Act.put, List.setIfInBounds_toArray, List.set_cons_zero, List.set_cons_succ]
  refine take_op 9 69 (v := ?_) rfl rfl (by kernel_rfl) (by kernel_rfl) (by kernel_rfl) (fun _ _ _ h => h) (Or.inl ⟨by rfl, ?_⟩) (by assumption) ?_
  rotate_left 1
  · (intro w hSw; obtain ⟨s0, s1, s2, s3, s4, s5, s6, s7, s8, s9⟩ := hSw; clear s8 s9; go_simp; (try with_reducible rfl))
  try simp only [Act.put, List.setIfInBounds_toArray, List.set_cons_zero, List.set_cons_succ]
  refine take_op 10 70 (v := ?_) rfl rfl (by kernel_rfl) (by kernel_rfl) (by kernel_rfl) (fun _ _ _ h => h) (Or.inl ⟨by rfl, ?_⟩) (by assumption) ?_
  rotate_left 1
  · (intro w hSw; obtain ⟨s0, s1, s2, s3, s4, s5, s6, s7, s8, s9⟩ := hSw; clear s8 s9; go_simp; (try with_reducible rfl))
  try simp only [Act.put, List.setIfInBounds_toArray, List.set_cons_zero, List.set_cons_succ]
  refine take_op 11 71 (v := ?_) rfl rfl (by kernel_rfl) (by kernel_rfl) (by kernel_rfl) (fun _ _ _ h => h) (Or.inl ⟨by rfl, ?_⟩) (by assumption) ?_
  rotate_left 1
  · (intro w hSw; obtain ⟨s0, s1, s2, s3, s4, s5, s6, s7, s8, s9⟩ := hSw; clear s8 s9; go_simp; (try with_reducible rfl))
  try simp only [Act.put, List.setIfInBounds_toArray, List.set_cons_zero, List.set_cons_succ]
  refine take_op 12 72 (v := ?_) rfl rfl (by kernel_rfl) (by kernel_rfl) (by kernel_rfl) (fun _ _ _ h => h) (Or.inl ⟨by rfl, ?_⟩) (by assumption) ?_
  rotate_left 1
  · (intro w hSw; obtain ⟨s0, s1, s2, s3, s4, s5, s6, s7, s8, s9⟩ := hSw; clear s8 s9; go_simp; (try with_reducible rfl))
  try simp only [Act.put, List.setIfInBounds_toArray, List.set_cons_zero, List.set_cons_succ]
  refine take_op 13 73 (v := ?_) rfl rfl (by kernel_rfl) (by kernel_rfl) (by kernel_rfl) (fun _ _ _ h => h) (Or.inl ⟨by rfl, ?_⟩) (by assumption) ?_
  rotate_left 1
  · (intro w hSw; obtain ⟨s0, s1, s2, s3, s4, s5, s6, s7, s8, s9⟩ := hSw; clear s8 s9; go_simp; (try with_reducible rfl))
  try simp only [Act.put, List.setIfInBounds_toArray, List.set_cons_zero, List.set_cons_succ]
  refine take_op 14 74 (v := ?_) rfl rfl (by kernel_rfl) (by kernel_rfl) (by kernel_rfl) (fun _ _ _ h => h) (Or.inl ⟨by rfl, ?_⟩) (by assumption) ?_
  rotate_left 1
  · (intro w hSw; obtain ⟨s0, s1, s2, s3, s4, s5, s6, s7, s8, s9⟩ := hSw; clear s8 s9; go_simp; (try with_reducible rfl))
  try simp only [Act.put, List.setIfInBounds_toArray, List.set_cons_zero, List.set_cons_succ]
  refine take_op 15 75 (v := ?_) rfl rfl (by kernel_rfl) (by kernel_rfl) (by kernel_rfl) (fun _ _ _ h => h) (Or.inl ⟨by rfl, ?_⟩) (by assumption) ?_
  rotate_left 1
  · (intro w hSw; obtain ⟨s0, s1, s2, s3, s4, s5, s6, s7, s8, s9⟩ := hSw; clear s8 s9; go_simp; (try with_reducible rfl))
  try simp only [Act.put, List.setIfInBounds_toArray, List.set_cons_zero, List.set_cons_succ]
  refine take_op 16 76 (v := ?_) rfl rfl (by kernel_rfl) (by kernel_rfl) (by kernel_rfl) (fun _ _ _ h => h) (Or.inl ⟨by rfl, ?_⟩) (by assumption) ?_
  rotate_left 1
  · (intro w hSw; obtain ⟨s0, s1, s2, s3, s4, s5, s6, s7, s8, s9⟩ := hSw; clear s8 s9; go_simp; (try with_reducible rfl))
  try simp only [Act.put, List.setIfInBounds_toArray, List.set_cons_zero, List.set_cons_succ]
  refine take_op 17 77 (v := ?_) rfl rfl (by kernel_rfl) (by kernel_rfl) (by kernel_rfl) (fun _ _ _ h => h) (Or.inl ⟨by rfl, ?_⟩) (by assumption) ?_
  rotate_left 1
  · (intro w hSw; obtain ⟨s0, s1, s2, s3, s4, s5, s6, s7, s8, s9⟩ := hSw; clear s8 s9; go_simp; (try with_reducible rfl))
  try simp only [Act.put, List.setIfInBounds_toArray, List.set_cons_zero, List.set_cons_succ]
  refine take_op 18 78 (v := ?_) rfl rfl (by kernel_rfl) (by kernel_rfl) (by kernel_rfl) (fun _ _ _ h => h) (Or.inl ⟨by rfl, ?_⟩) (by assumption) ?_
  rotate_left 1
  · (intro w hSw; obtain ⟨s0, s1, s2, s3, s4, s5, s6, s7, s8, s9⟩ := hSw; clear s8 s9; go_simp; (try with_reducible rfl))
  try simp only [Act.put, List.setIfInBounds_toArray, List.set_cons_zero, List.set_cons_succ]
  refine take_op 19 79 (v := ?_) rfl rfl (by kernel_rfl) (by kernel_rfl) (by kernel_rfl) (fun _ _ _ h => h) (Or.inl ⟨by rfl, ?_⟩) (by assumption) ?_
  rotate_left 1
  · (intro w hSw; obtain ⟨s0, s1, s2, s3, s4, s5, s6, s7, s8, s9⟩ := hSw; clear s8 s9; go_simp; (try with_reducible rfl))
  try simp only [Act.put, List.setIfInBounds_toArray, List.set_cons_zero, List.set_cons_succ]
  clear hHeld
  refine wpAnyH_ready (rs := [20]) (by kernel_rfl) (by simp) ?_
  refine AllReadyH.cons rfl (fun KK hK => ?_) AllReadyH.nil
  obtain ⟨p0, q0, hr⟩ := hS.r
  have e0 : X0.cell? ⟨w.heap.size + 1 + 1, 0, none⟩ = some p0 := cell_at hr 0 rfl
  have e1 : X0.cell? ⟨w.heap.size + 1 + 1, 1, none⟩ = some q0 := cell_at hr 1 rfl
  have e2 := free_at hr 0
  have e3 := free_at hr 1
  have f := frm_set2 X0 (w.heap.size + 1 + 1) (.int .i64 cap) (.slice av (tkL l k).length cv)
  have z := set_at (set_at hr 0 (.int .i64 cap)) 1 (.slice av (tkL l k).length cv)
  have hop2 := f.owns HOPX.out (fun j hj h => by have h1 : j = w.heap.size + 1 + 1 := h; obtain ⟨cur, hc⟩ := own_bytes HOPX.out j hj; rw [h1, hr] at hc; cases hc)
  have hq2 := HQX.out.keepNo (N := fun k => N k ∨ k = w.heap.size + 1 + 1) HQN.out (fun hz => by rw [List.eq_nil_of_length_eq_zero hz]; rfl) (fun p u hp hu => f.cell' hu (fun h => hp (.inr h)))
  have hS2 : TkS X0 (w.heap.size + 1 + 1) w1.heap.size w2.heap.size (w2.heap.size + 1) cap (.slice av (tkL l k).length cv) (tkP l k).1 (.slice ap (tkP l k).2.length cp) (.slice aq (tkP l k).2.length cq) ⟨(tkP l k).2.toArray⟩ ((X0.setCell ⟨w.heap.size + 1 + 1, 0, none⟩ (.int .i64 cap)).setCell ⟨w.heap.size + 1 + 1, 1, none⟩ (.slice av (tkL l k).length cv)) := ⟨f.cell' hS.e0 n12, f.cell' hS.e1 n12, f.cell' hS.p0 n10, f.cell' hS.p1 n10, f.cell' hS.q0 n13, f.cell' hS.q1 n13, conv_str (Rd.own hop2), conv_str hq2, ⟨_, _, z⟩, f⟩
  have hnet := HNX.out.keep f (fun h => by have h1 : nb = w.heap.size + 1 + 1 := h; omega) (fun h => by have h1 : ch = w.heap.size + 1 + 1 := h; omega) (fun i hi => .inr fun cur hc => by have h1 : i = w.heap.size + 1 + 1 := hi; rw [h1, hr] at hc; cases hc)
  have href := (HRX.out.keepNo fun p u hp hu => f.cell' hu (fun h => hp (.inr h))).sub (fun k h => .inl h)
  have hfr := HFW.out.trans f fun i hi h => by have h1 : i = w.heap.size + 1 + 1 := h; omega
  have HNET := Lib.hid hnet; clear hnet
  have HREF := Lib.hid href; clear href
  have HFR := Lib.hid hfr; clear hfr
  have Z := Lib.hid z; clear z
  have HS2 := Lib.hid hS2; clear hS2
  clear hr f hop2 hq2
  go_simp
  refine hK.out _ _ HS2.out (fun hHeld => ?_)
  clear hK KK e0 e1 e2 e3
  try simp only [Act.put, List.setIfInBounds_toArray, List.set_cons_zero, List.set_cons_succ]
  refine take_op 21 7 (v := .bool true) rfl rfl (by kernel_rfl) (by kernel_rfl) (by kernel_rfl) (fun _ _ _ h => h) (Or.inl ⟨by rfl, ?_⟩) (by assumption) ?_
  · (intro w hSw; obtain ⟨s0, s1, s2, s3, s4, s5, s6, s7, s8, s9⟩ := hSw; clear s8 s9; go_simp; (try with_reducible rfl))
  try simp only [Act.put, List.setIfInBounds_toArray, List.set_cons_zero, List.set_cons_succ]
  refine wpAnyH_done (by kernel_rfl) ?_ _
  clear hS hHeld
  have z0 := cell_at Z.out 0 rfl
  have z1 := cell_at Z.out 1 rfl
  simp at z0 z1
  go_wp2
  exact bodyPost_ret (v := .tuple #[.agg #[.int .i64 cap, .slice av (tkL l k).length cv], .bool true]) (by simp [results, Try.results39, go_sem, z0, z1]) rfl ⟨_, _, rfl, HNET.out, HREF.out, HFR.out⟩

end Go.Proofs.Ytclihppeaikhiaa
