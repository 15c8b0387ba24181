/- tributaryref26.Net.Double: the walk. -/
import Derived.Test.YtclihppeaikhiaaRNSmall
namespace Go.Proofs.Ytclihppeaikhiaa
open Go.RowKit

/-- What Double's drawn region leaves as it is. -/
structure DblS (X0 : World) (n0 : Nat) (most : Nat) (vL : Value) (b o : Nat) (t : Int) (sv : Value) (w : World) : Prop where
  c0 : w.cell? ⟨n0, 0, none⟩ = some (.int .i64 most)
  c1 : w.cell? ⟨n0, 1, none⟩ = some vL
  d0 : w.cell? ⟨b, o, none⟩ = some (.int .i64 t)
  d1 : w.cell? ⟨b, o + 1, none⟩ = some sv
  blt : b < n0
  r1 : ∃ x y, w.heap[n0 + 1]? = some (.cells #[x, y] 76 (0, 0))
  frm : Frm (fun i => i = n0 + 1) X0 w

set_option linter.unusedSimpArgs false in
set_option maxHeartbeats 4000000 in
set_option maxRecDepth 1000000 in
theorem rdouble_ok (N : Nat → Prop) (w : World) (hN : ∀ k, N k → k < w.heap.size) (most : Nat) (b off c : Nat) (l : List Par) (K : Nat) (p : Par) (hv : RefAt N w (.slice (some ⟨b, off, none⟩) l.length c) l) (hpK : l[K]? = some p) (hl : l.length ≤ 1000) :
    Calls Try.prog 56 #[.agg #[.int .i64 most, .slice (some ⟨b, off, none⟩) l.length c], .int .i64 K] w fun e w' => ∃ v', e = .returned (.tuple #[.agg #[.int .i64 most, v'], .int .i64 (if l.length < most then 0 else 4)]) ∧ RefAt N w' v' (if l.length < most then l ++ [p] else l) ∧ Frm (fun _ => False) w w' := by
  have hKl : K < l.length := len_of_some hpK
  obtain ⟨b', off', ap, cp, hbo, g0, g1, gp, gpn⟩ := hv.getN hpK
  simp only [Option.some.injEq, Addr.mk.injEq, and_true] at hbo
  obtain ⟨rfl, rfl⟩ := hbo
  have hblt : b < w.heap.size := World.block_lt_of_cell? w _ g0
  obtain ⟨X0, hX0⟩ : ∃ X0, X0 = ((w.alloc (.cells #[.int .i64 most, .slice (some ⟨b, off, none⟩) l.length c] 76)).alloc (.cells #[.int .i64 0, .slice none 0 0] 76)).drew := ⟨_, rfl⟩
  have fW : Frm (fun _ => False) w X0 := by rw [hX0]; exact ((Frm.alloc _ w _).trans (Frm.alloc _ _ _) fun _ _ h => h).trans (Frm.drew _ _) fun _ _ h => h
  have hn : X0.heap.size = w.heap.size + 1 + 1 := by rw [hX0]; show ((w.alloc _).alloc _).heap.size = _; simp
  have b0 : X0.heap[w.heap.size]? = some (.cells #[.int .i64 most, .slice (some ⟨b, off, none⟩) l.length c] 76) := by
    rw [hX0]
    show ((w.alloc _).alloc _).heap[w.heap.size]? = _
    rw [Below.heap_alloc _ _ _ (by simp)]; exact heap_alloc_new w _
  have b1 : X0.heap[w.heap.size + 1]? = some (.cells #[.int .i64 0, .slice none 0 0] 76 (0, 0)) := by
    rw [hX0]
    show ((w.alloc (.cells #[.int .i64 most, .slice (some ⟨b, off, none⟩) l.length c] 76)).alloc (.cells #[.int .i64 0, .slice none 0 0] 76)).heap[w.heap.size + 1]? = _
    have := heap_alloc_new (w.alloc (.cells #[.int .i64 most, .slice (some ⟨b, off, none⟩) l.length c] 76)) (.cells #[.int .i64 0, .slice none 0 0] 76)
    simpa only [World.size_alloc] using this
  have hS : DblS X0 w.heap.size most (.slice (some ⟨b, off, none⟩) l.length c) b (off + K * 2) p.1 (.slice ap p.2.length cp) X0 := ⟨cell_at b0 0 rfl, cell_at b0 1 rfl, fW.cell' g0 id, fW.cell' g1 id, hblt, ⟨_, _, b1⟩, Frm.refl _ _⟩
  have hcall := rsend_any (fun k => N k ∨ k = w.heap.size + 1) X0 (fun k h => h.elim (fun h => by have := hN k h; omega) (fun h => by omega)) most (some ⟨b, off, none⟩) c l ap cp p ((hv.or (M := fun k => k = w.heap.size + 1) (fun k h e => by omega)).keepCell fW.cells0) (gp.keepCell fW.cells0) (fun hz k hk hs => hs.elim (gpn hz k hk) (rd_old (N := fun k => k = w.heap.size + 1) gp (fun k h e => by omega) hz k hk)) hl
  have HN := Lib.hid hn; clear hn
  have HS := Lib.hid hS; clear hS
  have HX0 := Lib.hid hX0; clear hX0
  have B1 := Lib.hid b1; clear b1
  have HCALL := Lib.hid hcall; clear hcall
  have hk1 : ¬ (K : Int) < 0 := by omega
  have hk2 : ¬ (l.length : Int) ≤ K := by omega
  have FW := Lib.hid fW; clear fW
  have HPK := Lib.hid hpK; clear hpK
  obtain ⟨code, hcode⟩ : ∃ code : Int, code = if l.length < most then 0 else 4 := ⟨_, rfl⟩
  obtain ⟨l', hl'⟩ : ∃ l' : List Par, l' = if l.length < most then l ++ [p] else l := ⟨_, rfl⟩
  rw [← hcode, ← hl'] at HCALL
  rw [← hcode, ← hl']
  clear b0 g0 g1 hblt gp gpn hv hcode hl'
  go_enter Try.func56, Try.ntmps56
  go_wp2_with fail
  have hS := HS.out
  refine wp_region_held_drew (S := DblS X0 w.heap.size most (.slice (some ⟨b, off, none⟩) l.length c) b (off + K * 2) p.1 (.slice ap p.2.length cp)) (by kernel_rfl) (by rw [← HX0.out]; exact hS) (fun hHeld => ?_)
  rw [← HX0.out] at hHeld ⊢
  refine take_op 0 16 (v := ?_) rfl rfl (by kernel_rfl) (by kernel_rfl) (by kernel_rfl) (fun _ _ _ h => h) (Or.inl ⟨by rfl, ?_⟩) (by assumption) ?_
  rotate_left 1
  · (intro w hSw; obtain ⟨s0, s1, s2, s3, s4, s5, s6⟩ := hSw; clear s4 s5 s6; go_simp; (try with_reducible rfl))
  try simp only [Act.put, List.setIfInBounds_toArray, List.set_cons_zero, List.set_cons_succ]
  refine take_op 1 17 (v := ?_) rfl rfl (by kernel_rfl) (by kernel_rfl) (by kernel_rfl) (fun _ _ _ h => h) (Or.inl ⟨by rfl, ?_⟩) (by assumption) ?_
  rotate_left 1
  · (intro w hSw; obtain ⟨s0, s1, s2, s3, s4, s5, s6⟩ := hSw; clear s4 s5 s6; go_simp; (try with_reducible rfl))
  try simp only [Act.put, List.setIfInBounds_toArray, List.set_cons_zero, List.set_cons_succ]
  refine take_op 2 18 (v := ?_) rfl rfl (by kernel_rfl) (by kernel_rfl) (by kernel_rfl) (fun _ _ _ h => h) (Or.inl ⟨by rfl, ?_⟩) (by assumption) ?_
  rotate_left 1
  · (intro w hSw; obtain ⟨s0, s1, s2, s3, s4, s5, s6⟩ := hSw; clear s4 s5 s6; go_simp; (try with_reducible rfl))
  try simp only [Act.put, List.setIfInBounds_toArray, List.set_cons_zero, List.set_cons_succ]
  refine take_op 3 19 (v := ?_) rfl rfl (by kernel_rfl) (by kernel_rfl) (by kernel_rfl) (fun _ _ _ h => h) (Or.inl ⟨by rfl, ?_⟩) (by assumption) ?_
  rotate_left 1
  · (intro w hSw; obtain ⟨s0, s1, s2, s3, s4, s5, s6⟩ := hSw; clear s4 s5 s6; go_simp; (try with_reducible rfl))
  try simp only [Act.put, List.setIfInBounds_toArray, List.set_cons_zero, List.set_cons_succ]
  refine take_op 4 20 (v := ?_) rfl rfl (by kernel_rfl) (by kernel_rfl) (by kernel_rfl) (fun _ _ _ h => h) (Or.inl ⟨by rfl, ?_⟩) (by assumption) ?_
  rotate_left 1
  · (intro w hSw; obtain ⟨s0, s1, s2, s3, s4, s5, s6⟩ := hSw; clear s4 s5 s6; go_simp; (try with_reducible rfl))
  try simp only [Act.put, List.setIfInBounds_toArray, List.set_cons_zero, List.set_cons_succ]
  refine take_op 5 21 (v := ?_) rfl rfl (by kernel_rfl) (by kernel_rfl) (by kernel_rfl) (fun _ _ _ h => h) (Or.inl ⟨by rfl, ?_⟩) (by assumption) ?_
  rotate_left 1
  · (intro w hSw; obtain ⟨s0, s1, s2, s3, s4, s5, s6⟩ := hSw; clear s4 s5 s6; go_simp; (try with_reducible rfl))
  try simp only [Act.put, List.setIfInBounds_toArray, List.set_cons_zero, List.set_cons_succ]
  clear hHeld
  refine wpAnyH_ready (rs := [6]) (by kernel_rfl) (by simp) ?_
  refine AllReadyH.cons rfl (fun KK hK => ?_) AllReadyH.nil
  go_simp
  go_wp2_with (go_at_call 54; refine HCALL.out.mono ?_; rintro e X1 ⟨v1, rfl, hr1, hf1⟩)
  obtain ⟨av, cv, rfl⟩ := hr1.shape
  have q0 := hf1.blk B1.out id
  have hS1 : DblS X0 w.heap.size most (.slice (some ⟨b, off, none⟩) l.length c) b (off + K * 2) p.1 (.slice ap p.2.length cp) X1 := ⟨hf1.cell' hS.c0 id, hf1.cell' hS.c1 id, hf1.cell' hS.d0 id, hf1.cell' hS.d1 id, hS.blt, ⟨_, _, q0⟩, (hS.frm.trans (hf1.mono fun _ _ h => h.elim) fun _ _ h => h)⟩
  refine hK.out _ _ hS1 (fun _ => ?_)
  clear hK KK
  try simp only [Act.put, List.setIfInBounds_toArray, List.set_cons_zero, List.set_cons_succ]
  refine take_op 7 23 (v := ?_) rfl rfl (by kernel_rfl) (by kernel_rfl) (by kernel_rfl) (fun _ _ _ h => h) (Or.inl ⟨by rfl, ?_⟩) (by assumption) ?_
  rotate_left 1
  · (intro w hSw; obtain ⟨s0, s1, s2, s3, s4, s5, s6⟩ := hSw; clear s4 s5 s6; go_simp; (try with_reducible rfl))
  try simp only [Act.put, List.setIfInBounds_toArray, List.set_cons_zero, List.set_cons_succ]
  refine take_op 8 24 (v := ?_) rfl rfl (by kernel_rfl) (by kernel_rfl) (by kernel_rfl) (fun _ _ _ h => h) (Or.inl ⟨by rfl, ?_⟩) (by assumption) ?_
  rotate_left 1
  · (intro w hSw; obtain ⟨s0, s1, s2, s3, s4, s5, s6⟩ := hSw; clear s4 s5 s6; go_simp; (try with_reducible rfl))
  try simp only [Act.put, List.setIfInBounds_toArray, List.set_cons_zero, List.set_cons_succ]
  refine wpAnyH_ready (rs := [9]) (by kernel_rfl) (by simp) ?_
  refine AllReadyH.cons rfl (fun KK hK => ?_) AllReadyH.nil
  have e0 : X1.cell? ⟨w.heap.size + 1, 0, none⟩ = some (.int .i64 0) := cell_at q0 0 rfl
  have e1 : X1.cell? ⟨w.heap.size + 1, 1, none⟩ = some (.slice none 0 0) := cell_at q0 1 rfl
  have e2 := free_at q0 0
  have e3 := free_at q0 1
  have q1 := set_at (set_at q0 0 (.int .i64 most)) 1 (.slice av l'.length cv)
  have f20 := Frm.mono (T := fun i => i = w.heap.size + 1) (frm_set2 X1 (w.heap.size + 1) (.int .i64 most) (.slice av l'.length cv)) fun _ _ h => h
  have hS2 : DblS X0 w.heap.size most (.slice (some ⟨b, off, none⟩) l.length c) b (off + K * 2) p.1 (.slice ap p.2.length cp) ((X1.setCell ⟨w.heap.size + 1, 0, none⟩ (.int .i64 most)).setCell ⟨w.heap.size + 1, 1, none⟩ (.slice av l'.length cv)) := ⟨f20.cell' hS1.c0 (fun h => by have h1 : w.heap.size = w.heap.size + 1 := h; omega), f20.cell' hS1.c1 (fun h => by have h1 : w.heap.size = w.heap.size + 1 := h; omega), f20.cell' hS1.d0 (fun h => by have h1 : b = w.heap.size + 1 := h; have := hS1.blt; omega), f20.cell' hS1.d1 (fun h => by have h1 : b = w.heap.size + 1 := h; have := hS1.blt; omega), hS1.blt, ⟨_, _, q1⟩, hS1.frm.trans f20 fun _ _ h => h⟩
  have Q1 := Lib.hid q1; clear q1
  have F20 := Lib.hid f20; clear f20
  have HR1 := Lib.hid hr1; clear hr1
  have HF1 := Lib.hid hf1; clear hf1
  clear q0
  go_simp
  refine hK.out _ _ hS2 (fun _ => ?_)
  clear hK KK e0 e1 e2 e3
  have hk := HR1.out.keepNo (w' := (X1.setCell ⟨w.heap.size + 1, 0, none⟩ (.int .i64 most)).setCell ⟨w.heap.size + 1, 1, none⟩ (.slice av l'.length cv)) (fun q u hq hu => F20.out.cell' hu (fun h => hq (.inr h)))
  have HK := Lib.hid hk; clear hk
  generalize (X1.setCell ⟨w.heap.size + 1, 0, none⟩ (.int .i64 most)).setCell ⟨w.heap.size + 1, 1, none⟩ (.slice av l'.length cv) = X2 at *
  try simp only [Act.put, List.setIfInBounds_toArray, List.set_cons_zero, List.set_cons_succ]
  refine take_op 10 5 (v := .int .i64 code) rfl rfl (by kernel_rfl) (by kernel_rfl) (by kernel_rfl) (fun _ _ _ h => h) (Or.inl ⟨by rfl, ?_⟩) (by assumption) ?_
  · (intro w hSw; obtain ⟨s0, s1, s2, s3, s4, s5, s6⟩ := hSw; clear s4 s5 s6; go_simp; (try with_reducible rfl))
  try simp only [Act.put, List.setIfInBounds_toArray, List.set_cons_zero, List.set_cons_succ]
  refine wpAnyH_done (by kernel_rfl) ?_ _
  clear hS hS1 hS2
  have z0 : X2.cell? ⟨w.heap.size + 1, 0, none⟩ = some (.int .i64 most) := cell_at Q1.out 0 rfl
  have z1 : X2.cell? ⟨w.heap.size + 1, 1, none⟩ = some (.slice av l'.length cv) := cell_at Q1.out 1 rfl
  go_wp2
  exact bodyPost_ret (v := .tuple #[.agg #[.int .i64 most, .slice av l'.length cv], .int .i64 code]) (by simp [results, Try.results56, go_sem, z0, z1]) rfl ⟨_, rfl, HK.out.sub (fun k h => .inl h), (FW.out.trans HF1.out fun _ _ h => h).trans F20.out fun i hi h => by have h1 : i = w.heap.size + 1 := h; omega⟩

end Go.Proofs.Ytclihppeaikhiaa
