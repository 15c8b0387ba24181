/- tributaryref26.Net.Take: the walk. -/
import Derived.Test.YtclihppeaikhiaaRNSend
namespace Go.Proofs.Ytclihppeaikhiaa
open Go.RowKit

/-- What Take's drawn region leaves as it is. -/
structure TakS (X0 : World) (n0 : Nat) (most : Int) (vL : Value) (b o : Nat) (t : Int) (sv : Value) (w : World) : Prop where
  c0 : w.cell? ⟨n0, 0, none⟩ = some (.int .i64 most)
  c1 : w.cell? ⟨n0, 1, none⟩ = some vL
  d0 : w.cell? ⟨b, o, none⟩ = some (.int .i64 t)
  d1 : w.cell? ⟨b, o + 1, none⟩ = some sv
  blt : b < n0
  r1 : ∃ x y, w.heap[n0 + 1]? = some (.cells #[x, y] 76 (0, 0))
  r2 : ∃ x y, w.heap[n0 + 1 + 1]? = some (.cells #[x, y] 107 (0, 0))
  frm : Frm (fun i => i = n0 + 1 ∨ i = n0 + 1 + 1) X0 w
theorem TakS.keep {X0 : World} {n0 : Nat} {most : Int} {vL : Value} {b o : Nat} {t : Int} {sv : Value} {w w' : World} (h : TakS X0 n0 most vL b o t sv w) (hn : X0.heap.size = n0 + 1 + 1 + 1) {S : Nat → Prop} (f : Frm S w w') (hs : ∀ i, S i → X0.heap.size ≤ i) : TakS X0 n0 most vL b o t sv w' := by
  have no : ∀ i, i < n0 + 3 → ¬ S i := fun i hi hsi => by have := hs i hsi; omega
  have hb := h.blt
  obtain ⟨x, y, hr⟩ := h.r1
  obtain ⟨x2, y2, hr2⟩ := h.r2
  exact ⟨f.cell' h.c0 (no _ (by show n0 < _; omega)), f.cell' h.c1 (no _ (by show n0 < _; omega)), f.cell' h.d0 (no _ (by show b < _; omega)), f.cell' h.d1 (no _ (by show b < _; omega)), hb, ⟨x, y, f.blk hr (no _ (by omega))⟩, ⟨x2, y2, f.blk hr2 (no _ (by omega))⟩,
    h.frm.trans f fun i hi hsi => by have := hs i hsi; omega⟩
theorem TakS.keepR {X0 : World} {n0 : Nat} {most : Int} {vL : Value} {b o : Nat} {t : Int} {sv : Value} {w w' : World} (h : TakS X0 n0 most vL b o t sv w) {k : Nat} (f : Frm (fun i => i = k) w w') (hk : k = n0 + 1 ∨ k = n0 + 1 + 1)
    (r1 : ∃ x y, w'.heap[n0 + 1]? = some (.cells #[x, y] 76 (0, 0))) (r2 : ∃ x y, w'.heap[n0 + 1 + 1]? = some (.cells #[x, y] 107 (0, 0))) : TakS X0 n0 most vL b o t sv w' := by
  have hb := h.blt
  exact ⟨f.cell' h.c0 (fun e => by have e1 : n0 = k := e; omega), f.cell' h.c1 (fun e => by have e1 : n0 = k := e; omega), f.cell' h.d0 (fun e => by have e1 : b = k := e; omega), f.cell' h.d1 (fun e => by have e1 : b = k := e; omega), hb, r1, r2,
    h.frm.trans f fun i _ h => by have e1 : i = k := h; omega⟩
theorem frm_set2 (w : World) (k : Nat) (a b : Value) : Frm (fun i => i = k) w ((w.setCell ⟨k, 0, none⟩ a).setCell ⟨k, 1, none⟩ b) :=
  (Frm.setCell (S := fun i => i = k) w (p := ⟨k, 0, none⟩) (.inl rfl) _).trans (Frm.setCell (S := fun i => i = k) _ (p := ⟨k, 1, none⟩) (.inl rfl) _) fun _ _ h => h
theorem outCells_append (a b : List (Int × Value)) : outCells a ++ outCells b = outCells (a ++ b) := by simp [outCells]
theorem outCells_take : ∀ (outs : List (Int × Value)) (k : Nat), (outCells outs).take (k * 2) = outCells (outs.take k)
  | [], k => by simp [outCells]
  | q :: r, 0 => rfl
  | q :: r, k + 1 => by
    have e : outCells (q :: r) = .int .i64 q.1 :: q.2 :: outCells r := rfl
    rw [e, show (k + 1) * 2 = k * 2 + 1 + 1 by omega, List.take_succ_cons, List.take_succ_cons, outCells_take r k, List.take_succ_cons]
    rfl
theorem outCells_drop : ∀ (outs : List (Int × Value)) (k : Nat), (outCells outs).drop (k * 2) = outCells (outs.drop k)
  | [], k => by simp [outCells]
  | q :: r, 0 => rfl
  | q :: r, k + 1 => by
    have e : outCells (q :: r) = .int .i64 q.1 :: q.2 :: outCells r := rfl
    rw [e, show (k + 1) * 2 = k * 2 + 1 + 1 by omega, List.drop_succ_cons, List.drop_succ_cons, outCells_drop r k, List.drop_succ_cons]
theorem outCells_mem {outs outs' : List (Int × Value)} (h : ∀ q ∈ outs', q ∈ outs) (h1 : ∀ u ∈ outCells outs, u.oneCell' = true) : ∀ u ∈ outCells outs', u.oneCell' = true := by
  intro u hu
  simp only [outCells, List.mem_flatMap] at hu
  obtain ⟨q, hq, hu⟩ := hu
  exact h1 u (by simp only [outCells, List.mem_flatMap]; exact ⟨q, h q hq, hu⟩)

set_option linter.unusedSimpArgs false in
set_option maxHeartbeats 4000000 in
set_option maxRecDepth 1000000 in
theorem rtake_ok (N : Nat → Prop) (w : World) (hN : ∀ k, N k → k < w.heap.size) (most : Int) (b off c : Nat) (l : List Par) (K : Nat) (p : Par) (hv : RefAt N w (.slice (some ⟨b, off, none⟩) l.length c) l) (hpK : l[K]? = some p) (hl : l.length ≤ 1000) :
    Calls Try.prog 55 #[.agg #[.int .i64 most, .slice (some ⟨b, off, none⟩) l.length c], .int .i64 K] w fun e w' => ∃ v' ap cp, e = .returned (.tuple #[.agg #[.int .i64 most, v'], .agg #[.int .i64 p.1, .slice ap p.2.length cp], .int .i64 0]) ∧ RefAt N w' v' (l.eraseIdx K) ∧ Rd w' (.slice ap p.2.length cp) p.2.length (bV p.2) ∧ NotIn N p.2.length (.slice ap p.2.length cp) ∧ Frm (fun _ => False) w w' := by
  obtain ⟨i0, hi, hz0, hz1, hz2⟩ := info_parts rpar_info
  have hKl : K < l.length := len_of_some hpK
  obtain ⟨b', off', ap, cp, hbo, g0, g1, gp, gpn⟩ := hv.getN hpK
  simp only [Option.some.injEq, Addr.mk.injEq, and_true] at hbo
  obtain ⟨rfl, rfl⟩ := hbo
  have hblt : b < w.heap.size := World.block_lt_of_cell? w _ g0
  obtain ⟨outs, ho1, ho2, ho3, ho4, ho5⟩ := hv
  have hcap : l.length ≤ c ∧ c ≤ maxLen := by
    rcases ho2 with ⟨ad, h1, h2, h3⟩ | ⟨b1, off1, c1, h1, h2, h3, h4⟩
    · omega
    · simp only [Value.slice.injEq] at h1; omega
  obtain ⟨X0, hX0⟩ : ∃ X0, X0 = (((w.alloc (.cells #[.int .i64 most, .slice (some ⟨b, off, none⟩) l.length c] 76)).alloc (.cells #[.int .i64 0, .slice none 0 0] 76)).alloc (.cells #[.int .i64 0, .slice none 0 0] 107)).drew := ⟨_, rfl⟩
  have fW : Frm (fun _ => False) w X0 := by rw [hX0]; exact (((Frm.alloc _ w _).trans (Frm.alloc _ _ _) fun _ _ h => h).trans (Frm.alloc _ _ _) fun _ _ h => h).trans (Frm.drew _ _) fun _ _ h => h
  have hn : X0.heap.size = w.heap.size + 1 + 1 + 1 := by rw [hX0]; show (((w.alloc _).alloc _).alloc _).heap.size = _; simp
  have b0 : X0.heap[w.heap.size]? = some (.cells #[.int .i64 most, .slice (some ⟨b, off, none⟩) l.length c] 76) := by
    rw [hX0]
    show (((w.alloc _).alloc _).alloc _).heap[w.heap.size]? = _
    rw [Below.heap_alloc _ _ _ (by simp; omega), Below.heap_alloc _ _ _ (by simp)]; exact heap_alloc_new w _
  have b1 : X0.heap[w.heap.size + 1]? = some (.cells #[.int .i64 0, .slice none 0 0] 76 (0, 0)) := by
    rw [hX0]
    show (((w.alloc (.cells #[.int .i64 most, .slice (some ⟨b, off, none⟩) l.length c] 76)).alloc (.cells #[.int .i64 0, .slice none 0 0] 76)).alloc _).heap[w.heap.size + 1]? = _
    rw [Below.heap_alloc _ _ _ (by simp)]
    have := heap_alloc_new (w.alloc (.cells #[.int .i64 most, .slice (some ⟨b, off, none⟩) l.length c] 76)) (.cells #[.int .i64 0, .slice none 0 0] 76)
    simpa only [World.size_alloc] using this
  have b2 : X0.heap[w.heap.size + 1 + 1]? = some (.cells #[.int .i64 0, .slice none 0 0] 107 (0, 0)) := by
    rw [hX0]
    show (((w.alloc (.cells #[.int .i64 most, .slice (some ⟨b, off, none⟩) l.length c] 76)).alloc (.cells #[.int .i64 0, .slice none 0 0] 76)).alloc (.cells #[.int .i64 0, .slice none 0 0] 107)).heap[w.heap.size + 1 + 1]? = _
    have := heap_alloc_new ((w.alloc (.cells #[.int .i64 most, .slice (some ⟨b, off, none⟩) l.length c] 76)).alloc (.cells #[.int .i64 0, .slice none 0 0] 76)) (.cells #[.int .i64 0, .slice none 0 0] 107)
    simpa only [World.size_alloc] using this
  have hS : TakS X0 w.heap.size most (.slice (some ⟨b, off, none⟩) l.length c) b (off + K * 2) p.1 (.slice ap p.2.length cp) X0 := ⟨cell_at b0 0 rfl, cell_at b0 1 rfl, fW.cell' g0 id, fW.cell' g1 id, hblt, ⟨_, _, b1⟩, ⟨_, _, b2⟩, Frm.refl _ _⟩
  have hcells : ∀ X, TakS X0 w.heap.size most (.slice (some ⟨b, off, none⟩) l.length c) b (off + K * 2) p.1 (.slice ap p.2.length cp) X → ∀ q u, w.cell? q = some u → X.cell? q = some u := fun X hX q u hu => by
    have hlt := World.block_lt_of_cell? w _ hu
    exact hX.frm.cell' (fW.cell' hu id) (fun e => by rcases e with e | e <;> (have e1 : q.block = _ := e; omega))
  have hsrc1 : ∀ X, TakS X0 w.heap.size most (.slice (some ⟨b, off, none⟩) l.length c) b (off + K * 2) p.1 (.slice ap p.2.length cp) X → Src Try.prog 2 74 (.slice (some ⟨b, off, none⟩) K c) K (outCells (outs.take K)) X := fun X hX => by
    have hr : Rd X (.slice (some ⟨b, off, none⟩) K c) K (outCells (outs.take K)) := by
      rcases ho2 with ⟨ad, h1, h2, h3⟩ | ⟨b1, off1, c1, h1, h2, h3, h4⟩
      · omega
      · simp only [Value.slice.injEq, Option.some.injEq, Addr.mk.injEq, and_true, true_and] at h1
        obtain ⟨⟨rfl, rfl⟩, rfl⟩ := h1
        refine .inr ⟨b, off, c, rfl, by omega, h3, fun j u hu => hcells X hX _ _ (h4 j u ?_)⟩
        rw [← outCells_take, List.getElem?_take] at hu
        split at hu
        · exact hu
        · cases hu
    exact hr.src (P := Try.prog) (size := 2) Try.underlying74 (by rw [outCells_length, List.length_take, Nat.min_eq_left (by omega)]) (outCells_mem (fun q hq => List.mem_of_mem_take hq) (outCells_one ho1 ho3))
  have hsrc2 : ∀ X, TakS X0 w.heap.size most (.slice (some ⟨b, off, none⟩) l.length c) b (off + K * 2) p.1 (.slice ap p.2.length cp) X → Src Try.prog 2 74 (.slice (if c = K + 1 then some ⟨b, off, none⟩ else some ⟨b, off + (K + 1) * 2, none⟩) (l.length - (K + 1)) (c - (K + 1))) (l.length - (K + 1)) (outCells (outs.drop (K + 1))) X := fun X hX => by
    have hr : Rd X (.slice (if c = K + 1 then some ⟨b, off, none⟩ else some ⟨b, off + (K + 1) * 2, none⟩) (l.length - (K + 1)) (c - (K + 1))) (l.length - (K + 1)) (outCells (outs.drop (K + 1))) := by
      by_cases hcK : c = K + 1
      · refine .inl ⟨some ⟨b, off, none⟩, ?_, by omega, ?_⟩
        · rw [if_pos hcK, show l.length - (K + 1) = 0 by omega, show c - (K + 1) = 0 by omega]
        · rw [List.drop_eq_nil_of_le (by omega)]; rfl
      · rcases ho2 with ⟨ad, h1, h2, h3⟩ | ⟨b1, off1, c1, h1, h2, h3, h4⟩
        · omega
        · simp only [Value.slice.injEq, Option.some.injEq, Addr.mk.injEq, and_true, true_and] at h1
          obtain ⟨⟨rfl, rfl⟩, rfl⟩ := h1
          refine .inr ⟨b, off + (K + 1) * 2, c - (K + 1), by rw [if_neg hcK], by omega, by omega, fun j u hu => ?_⟩
          rw [← outCells_drop, List.getElem?_drop] at hu
          have := hcells X hX _ _ (h4 _ u hu)
          rw [← Nat.add_assoc] at this
          exact this
    exact hr.src (P := Try.prog) (size := 2) Try.underlying74 (by rw [outCells_length, List.length_drop, ho1]) (outCells_mem (fun q hq => List.mem_of_mem_drop hq) (outCells_one ho1 ho3))
  have hfin : ∀ X ad cc, X.ownsRow 0 107 2 (.slice ad (K + (l.length - (K + 1))) cc) (K + (l.length - (K + 1))) (outCells (outs.take K) ++ outCells (outs.drop (K + 1))) → (∀ k, (Value.slice ad (K + (l.length - (K + 1))) cc).ownBlock = some k → X0.heap.size ≤ k) → TakS X0 w.heap.size most (.slice (some ⟨b, off, none⟩) l.length c) b (off + K * 2) p.1 (.slice ap p.2.length cp) X → ∀ Z, TakS X0 w.heap.size most (.slice (some ⟨b, off, none⟩) l.length c) b (off + K * 2) p.1 (.slice ap p.2.length cp) Z → Frm (fun i => i = w.heap.size + 1 ∨ i = w.heap.size + 1 + 1) X Z →
      RefAt N Z (.slice ad (K + (l.length - (K + 1))) cc) (l.eraseIdx K) ∧ Rd Z (.slice ap p.2.length cp) p.2.length (bV p.2) ∧ NotIn N p.2.length (.slice ap p.2.length cp) ∧ Frm (fun _ => False) w Z := fun X ad cc ho hb hX Z hZ f2 => by
    have e1 : (l.eraseIdx K).length = K + (l.length - (K + 1)) := by rw [List.length_eraseIdx, if_pos hKl]; omega
    refine ⟨⟨outs.eraseIdx K, by rw [List.length_eraseIdx, List.length_eraseIdx, ho1], ?_, fun i q p' hq hp' => ?_, fun _ k hk hNk => by have := hb k hk; have := hN k hNk; omega, fun i q p' hq hp' => ?_⟩, gp.keepCell (hcells Z hZ), gpn, fW.trans hZ.frm fun i hi h => by omega⟩
    · rw [e1, List.eraseIdx_eq_take_drop_succ, ← outCells_append]
      exact Rd.own (f2.owns ho fun k hk h => by have := hb k hk; omega)
    · rw [List.getElem?_eraseIdx] at hq hp'
      split at hq
      · rename_i hi; rw [if_pos hi] at hp'; exact ⟨(ho3 _ q p' hq hp').1, (ho3 _ q p' hq hp').2.keepCell (hcells Z hZ)⟩
      · rename_i hi; rw [if_neg hi] at hp'; exact ⟨(ho3 _ q p' hq hp').1, (ho3 _ q p' hq hp').2.keepCell (hcells Z hZ)⟩
    · rw [List.getElem?_eraseIdx] at hq hp'
      split at hq
      · rename_i hi; rw [if_pos hi] at hp'; exact ho5 _ q p' hq hp'
      · rename_i hi; rw [if_neg hi] at hp'; exact ho5 _ q p' hq hp'
  have HSRC1 := Lib.hid hsrc1; clear hsrc1
  have HSRC2 := Lib.hid hsrc2; clear hsrc2
  have HFIN := Lib.hid hfin; clear hfin
  have HN := Lib.hid hn; clear hn
  have HS := Lib.hid hS; clear hS
  have HX0 := Lib.hid hX0; clear hX0
  have hk1 : ¬ (K : Int) < 0 := by omega
  have hk2 : ¬ (l.length : Int) ≤ K := by omega
  have hw1 : IntKind.i64.wrap ((K : Int) + 1) = ((K + 1 : Nat) : Int) := by rw [wrap_small ((K : Int) + 1) (by omega) (by omega)]; rfl
  have hcc : (K : Int) ≤ c := by omega
  have hc1 : ((K + 1 : Nat) : Int) ≤ l.length := by omega
  have hc3 : (0 : Int) ≤ (K : Int) + 1 := by omega
  have hc4 : (K : Int) + 1 ≤ l.length := by omega
  have hc2 : K + 1 ≤ l.length := by omega
  have HC := Lib.hid hcells; clear hcells
  have HO2 := Lib.hid ho2; clear ho2
  have HO3 := Lib.hid ho3; clear ho3
  have HCAP := Lib.hid hcap; clear hcap
  have GP := Lib.hid gp; clear gp
  have HPK := Lib.hid hpK; clear hpK
  have FW := Lib.hid fW; clear fW
  clear b0 b1 b2 g0 g1 hblt ho4 ho5 gpn
  go_enter Try.func55, Try.ntmps55
  go_wp2_with fail
  have hS := HS.out
  refine wp_region_held_drew (S := TakS X0 w.heap.size most (.slice (some ⟨b, off, none⟩) l.length c) b (off + K * 2) p.1 (.slice ap p.2.length cp)) (by kernel_rfl) (by rw [← HX0.out]; exact hS) (fun hHeld => ?_)
  rw [← HX0.out] at hHeld ⊢
  refine take_op 0 18 (v := ?_) rfl rfl (by kernel_rfl) (by kernel_rfl) (by kernel_rfl) (fun _ _ _ h => h) (Or.inl ⟨by rfl, ?_⟩) (by assumption) ?_
  rotate_left 1
  · (intro w hSw; obtain ⟨s0, s1, s2, s3, s4, s5, s6, s7⟩ := hSw; clear s4 s5 s6 s7; go_simp; (try with_reducible rfl))
  try simp only [Act.put, List.setIfInBounds_toArray, List.set_cons_zero, List.set_cons_succ, Nat.zero_add]
  refine take_op 1 19 (v := ?_) rfl rfl (by kernel_rfl) (by kernel_rfl) (by kernel_rfl) (fun _ _ _ h => h) (Or.inl ⟨by rfl, ?_⟩) (by assumption) ?_
  rotate_left 1
  · (intro w hSw; obtain ⟨s0, s1, s2, s3, s4, s5, s6, s7⟩ := hSw; clear s4 s5 s6 s7; go_simp; (try with_reducible rfl))
  try simp only [Act.put, List.setIfInBounds_toArray, List.set_cons_zero, List.set_cons_succ, Nat.zero_add]
  refine take_op 3 21 (v := ?_) rfl rfl (by kernel_rfl) (by kernel_rfl) (by kernel_rfl) (fun _ _ _ h => h) (Or.inl ⟨by rfl, ?_⟩) (by assumption) ?_
  rotate_left 1
  · (intro w hSw; obtain ⟨s0, s1, s2, s3, s4, s5, s6, s7⟩ := hSw; clear s4 s5 s6 s7; go_simp; (try with_reducible rfl))
  try simp only [Act.put, List.setIfInBounds_toArray, List.set_cons_zero, List.set_cons_succ, Nat.zero_add]
  refine take_op 4 22 (v := ?_) rfl rfl (by kernel_rfl) (by kernel_rfl) (by kernel_rfl) (fun _ _ _ h => h) (Or.inl ⟨by rfl, ?_⟩) (by assumption) ?_
  rotate_left 1
  · (intro w hSw; obtain ⟨s0, s1, s2, s3, s4, s5, s6, s7⟩ := hSw; clear s4 s5 s6 s7; go_simp; (try with_reducible rfl))
  try simp only [Act.put, List.setIfInBounds_toArray, List.set_cons_zero, List.set_cons_succ, Nat.zero_add]
  refine take_op 5 23 (v := ?_) rfl rfl (by kernel_rfl) (by kernel_rfl) (by kernel_rfl) (fun _ _ _ h => h) (Or.inl ⟨by rfl, ?_⟩) (by assumption) ?_
  rotate_left 1
  · (intro w hSw; obtain ⟨s0, s1, s2, s3, s4, s5, s6, s7⟩ := hSw; clear s4 s5 s6 s7; go_simp; (try with_reducible rfl))
  try simp only [Act.put, List.setIfInBounds_toArray, List.set_cons_zero, List.set_cons_succ, Nat.zero_add]
  refine take_op 6 24 (v := ?_) rfl rfl (by kernel_rfl) (by kernel_rfl) (by kernel_rfl) (fun _ _ _ h => h) (Or.inl ⟨by rfl, ?_⟩) (by assumption) ?_
  rotate_left 1
  · (intro w hSw; obtain ⟨s0, s1, s2, s3, s4, s5, s6, s7⟩ := hSw; clear s4 s5 s6 s7; go_simp; (try with_reducible rfl))
  try simp only [Act.put, List.setIfInBounds_toArray, List.set_cons_zero, List.set_cons_succ, Nat.zero_add]
  refine take_op 8 26 (v := ?_) rfl rfl (by kernel_rfl) (by kernel_rfl) (by kernel_rfl) (fun _ _ _ h => h) (Or.inl ⟨by rfl, ?_⟩) (by assumption) ?_
  rotate_left 1
  · (intro w hSw; obtain ⟨s0, s1, s2, s3, s4, s5, s6, s7⟩ := hSw; clear s4 s5 s6 s7; go_simp; (try with_reducible rfl))
  try simp only [Act.put, List.setIfInBounds_toArray, List.set_cons_zero, List.set_cons_succ, Nat.zero_add]
  refine take_op 9 27 (v := ?_) rfl rfl (by kernel_rfl) (by kernel_rfl) (by kernel_rfl) (fun _ _ _ h => h) (Or.inl ⟨by rfl, ?_⟩) (by assumption) ?_
  rotate_left 1
  · (intro w hSw; obtain ⟨s0, s1, s2, s3, s4, s5, s6, s7⟩ := hSw; clear s4 s5 s6 s7; go_simp; (try with_reducible rfl))
  try simp only [Act.put, List.setIfInBounds_toArray, List.set_cons_zero, List.set_cons_succ, Nat.zero_add]
  refine take_op 10 28 (v := ?_) rfl rfl (by kernel_rfl) (by kernel_rfl) (by kernel_rfl) (fun _ _ _ h => h) (Or.inl ⟨by rfl, ?_⟩) (by assumption) ?_
  rotate_left 1
  · (intro w hSw; obtain ⟨s0, s1, s2, s3, s4, s5, s6, s7⟩ := hSw; clear s4 s5 s6 s7; go_simp; (try with_reducible rfl))
  try simp only [Act.put, List.setIfInBounds_toArray, List.set_cons_zero, List.set_cons_succ, Nat.zero_add]
  refine take_op 11 29 (v := ?_) rfl rfl (by kernel_rfl) (by kernel_rfl) (by kernel_rfl) (fun _ _ _ h => h) (Or.inl ⟨by rfl, ?_⟩) (by assumption) ?_
  rotate_left 1
  · (intro w hSw; obtain ⟨s0, s1, s2, s3, s4, s5, s6, s7⟩ := hSw; clear s4 s5 s6 s7; go_simp; (try with_reducible rfl))
  try simp only [Act.put, List.setIfInBounds_toArray, List.set_cons_zero, List.set_cons_succ, Nat.zero_add]
  refine take_op 12 30 (v := ?_) rfl rfl (by kernel_rfl) (by kernel_rfl) (by kernel_rfl) (fun _ _ _ h => h) (Or.inl ⟨by rfl, ?_⟩) (by assumption) ?_
  rotate_left 1
  · (intro w hSw; obtain ⟨s0, s1, s2, s3, s4, s5, s6, s7⟩ := hSw; clear s4 s5 s6 s7; go_simp; (try with_reducible rfl))
  try simp only [Act.put, List.setIfInBounds_toArray, List.set_cons_zero, List.set_cons_succ, Nat.zero_add]
  refine take_op 15 33 (v := ?_) rfl rfl (by kernel_rfl) (by kernel_rfl) (by kernel_rfl) (fun _ _ _ h => h) (Or.inl ⟨by rfl, ?_⟩) (by assumption) ?_
  rotate_left 1
  · (intro w hSw; obtain ⟨s0, s1, s2, s3, s4, s5, s6, s7⟩ := hSw; clear s4 s5 s6 s7; go_simp; (try with_reducible rfl))
  try simp only [Act.put, List.setIfInBounds_toArray, List.set_cons_zero, List.set_cons_succ, Nat.zero_add]
  refine take_op 16 34 (v := ?_) rfl rfl (by kernel_rfl) (by kernel_rfl) (by kernel_rfl) (fun _ _ _ h => h) (Or.inl ⟨by rfl, ?_⟩) (by assumption) ?_
  rotate_left 1
  · (intro w hSw; obtain ⟨s0, s1, s2, s3, s4, s5, s6, s7⟩ := hSw; clear s4 s5 s6 s7; go_simp; (try with_reducible rfl))
  try simp only [Act.put, List.setIfInBounds_toArray, List.set_cons_zero, List.set_cons_succ, Nat.zero_add]
  refine take_op 17 35 (v := ?_) rfl rfl (by kernel_rfl) (by kernel_rfl) (by kernel_rfl) (fun _ _ _ h => h) (Or.inl ⟨by rfl, ?_⟩) (by assumption) ?_
  rotate_left 1
  · (intro w hSw; obtain ⟨s0, s1, s2, s3, s4, s5, s6, s7⟩ := hSw; clear s4 s5 s6 s7; go_simp; (try with_reducible rfl))
  try simp only [Act.put, List.setIfInBounds_toArray, List.set_cons_zero, List.set_cons_succ, Nat.zero_add]
  refine take_op 18 36 (v := ?_) rfl rfl (by kernel_rfl) (by kernel_rfl) (by kernel_rfl) (fun _ _ _ h => h) (Or.inl ⟨by rfl, ?_⟩) (by assumption) ?_
  rotate_left 1
  · (intro w hSw; obtain ⟨s0, s1, s2, s3, s4, s5, s6, s7⟩ := hSw; clear s4 s5 s6 s7; go_simp; (try with_reducible rfl))
  try simp only [Act.put, List.setIfInBounds_toArray, List.set_cons_zero, List.set_cons_succ, Nat.zero_add]
  refine take_op 19 37 (v := ?_) rfl rfl (by kernel_rfl) (by kernel_rfl) (by kernel_rfl) (fun _ _ _ h => h) (Or.inl ⟨by rfl, ?_⟩) (by assumption) ?_
  rotate_left 1
  · (intro w hSw; obtain ⟨s0, s1, s2, s3, s4, s5, s6, s7⟩ := hSw; clear s4 s5 s6 s7; go_simp; (try with_reducible rfl))
  try simp only [Act.put, List.setIfInBounds_toArray, List.set_cons_zero, List.set_cons_succ, Nat.zero_add]
  clear hHeld
  refine wpAnyH_ready (rs := [2]) (by kernel_rfl) (by simp) ?_
  refine AllReadyH.cons rfl (fun KK hK => ?_) AllReadyH.nil
  go_simp
  have fE : Frm (fun _ => False) X0 (X0.alloc (.cells #[] 107)) := Frm.alloc _ _ _
  have ownE := own_emptyR X0
  have hS1 := hS.keep HN.out fE fun _ h => h.elim
  refine hK.out _ _ hS1 (fun _ => ?_)
  clear hK KK fE
  generalize X0.alloc (.cells #[] 107) = X1 at *
  try simp only [Act.put, List.setIfInBounds_toArray, List.set_cons_zero, List.set_cons_succ, Nat.zero_add]
  refine wpAnyH_ready (rs := [7]) (by kernel_rfl) (by simp) ?_
  refine AllReadyH.cons rfl (fun KK hK => ?_) AllReadyH.nil
  refine step_app X1 rfl (.tmp 20) (.tmp 24) 74 74 rfl 107 i0 _ 2 32 Try.underlying74 hi hz0 hz1 hz2 (by decide) (by decide) _ 0 ([]) ownE _ K _ (by simp [Act.eval]) (by simp [Act.eval]) (HSRC1.out X1 hS1) (by simp only [maxLen]; omega) (by omega) ?_
  intro ad1 cc1 X2 own1 fm1 fr1
  simp only [Nat.zero_add, List.nil_append] at own1 fr1
  have hS2 := hS1.keep HN.out fm1 (fun i hi => by simp [RowS, Value.ownBlock] at hi; omega)
  have hs5 := hS1.frm.size
  have hn1 : ∀ k, (Value.slice ad1 K cc1).ownBlock = some k → X0.heap.size ≤ k := fun k hk => by
    rcases fr1 k hk with h | h
    · simp [Value.ownBlock] at h; omega
    · omega
  refine hK.out _ _ hS2 (fun _ => ?_)
  clear hK KK fm1 fr1 ownE
  try simp only [Act.put, List.setIfInBounds_toArray, List.set_cons_zero, List.set_cons_succ, Nat.zero_add]
  refine wpAnyH_ready (rs := [13]) (by kernel_rfl) (by simp) ?_
  refine AllReadyH.cons rfl (fun KK hK => ?_) AllReadyH.nil
  refine step_app X2 rfl (.tmp 25) (.tmp 30) 74 74 rfl 107 i0 _ 2 32 Try.underlying74 hi hz0 hz1 hz2 (by decide) (by decide) _ K (outCells (outs.take K)) own1 _ (l.length - (K + 1)) _ (by simp [Act.eval]) (by simp [Act.eval]) (HSRC2.out X2 hS2) (by simp only [maxLen]; omega) (by omega) ?_
  intro ad2 cc2 X3 own2 fm2 fr2
  have hS3 := hS2.keep HN.out fm2 (fun i hi => hn1 i hi)
  have hs8 := hS2.frm.size
  have hn2 : ∀ k, (Value.slice ad2 (K + (l.length - (K + 1))) cc2).ownBlock = some k → X0.heap.size ≤ k := fun k hk => by
    rcases fr2 k hk with h | h
    · exact hn1 k h
    · omega
  refine hK.out _ _ hS3 (fun _ => ?_)
  clear hK KK fm2 fr2 own1 hn1 hs5 hs8
  try simp only [Act.put, List.setIfInBounds_toArray, List.set_cons_zero, List.set_cons_succ, Nat.zero_add]
  refine take_op 14 32 (v := ?_) rfl rfl (by kernel_rfl) (by kernel_rfl) (by kernel_rfl) (fun _ _ _ h => h) (Or.inl ⟨by rfl, ?_⟩) (by assumption) ?_
  rotate_left 1
  · (intro w hSw; obtain ⟨s0, s1, s2, s3, s4, s5, s6, s7⟩ := hSw; clear s4 s5 s6 s7; go_simp; (try with_reducible rfl))
  try simp only [Act.put, List.setIfInBounds_toArray, List.set_cons_zero, List.set_cons_succ, Nat.zero_add]
  refine wpAnyH_ready (rs := [20]) (by kernel_rfl) (by simp) ?_
  refine AllReadyH.cons rfl (fun KK hK => ?_) AllReadyH.nil
  obtain ⟨x, y, hr⟩ := hS3.r1
  have e0 : X3.cell? ⟨w.heap.size + 1, 0, none⟩ = some x := cell_at hr 0 rfl
  have e1 : X3.cell? ⟨w.heap.size + 1, 1, none⟩ = some y := cell_at hr 1 rfl
  have e2 := free_at hr 0
  have e3 := free_at hr 1
  have q1 := set_at (set_at hr 0 (.int .i64 most)) 1 (.slice ad2 (K + (l.length - (K + 1))) cc2)
  have f20 := frm_set2 X3 (w.heap.size + 1) (.int .i64 most) (.slice ad2 (K + (l.length - (K + 1))) cc2)
  obtain ⟨x2, y2, hr2⟩ := hS3.r2
  have q2 := f20.blk hr2 (fun h => by have h1 : w.heap.size + 1 + 1 = w.heap.size + 1 := h; omega)
  have hS4 := hS3.keepR f20 (.inl rfl) ⟨_, _, q1⟩ ⟨_, _, q2⟩
  have OWN2 := Lib.hid own2; clear own2
  have HN2 := Lib.hid hn2; clear hn2
  have Q1 := Lib.hid q1; clear q1
  have Q2 := Lib.hid q2; clear q2
  have F20 := Lib.hid f20; clear f20
  have HS3 := Lib.hid hS3; clear hS3
  clear hr hr2
  go_simp
  refine hK.out _ _ hS4 (fun _ => ?_)
  clear hK KK e0 e1 e2 e3
  generalize (X3.setCell ⟨w.heap.size + 1, 0, none⟩ (.int .i64 most)).setCell ⟨w.heap.size + 1, 1, none⟩ (.slice ad2 (K + (l.length - (K + 1))) cc2) = X4 at *
  try simp only [Act.put, List.setIfInBounds_toArray, List.set_cons_zero, List.set_cons_succ, Nat.zero_add]
  refine wpAnyH_ready (rs := [21]) (by kernel_rfl) (by simp) ?_
  refine AllReadyH.cons rfl (fun KK hK => ?_) AllReadyH.nil
  have e0 : X4.cell? ⟨w.heap.size + 1 + 1, 0, none⟩ = some x2 := cell_at Q2.out 0 rfl
  have e1 : X4.cell? ⟨w.heap.size + 1 + 1, 1, none⟩ = some y2 := cell_at Q2.out 1 rfl
  have e2 := free_at Q2.out 0
  have e3 := free_at Q2.out 1
  have q3 := set_at (set_at Q2.out 0 (.int .i64 p.1)) 1 (.slice ap p.2.length cp)
  have f21 := frm_set2 X4 (w.heap.size + 1 + 1) (.int .i64 p.1) (.slice ap p.2.length cp)
  have q4 := f21.blk Q1.out (fun h => by have h1 : w.heap.size + 1 = w.heap.size + 1 + 1 := h; omega)
  have hS5 := hS4.keepR f21 (.inr rfl) ⟨_, _, q4⟩ ⟨_, _, q3⟩
  have Q3 := Lib.hid q3; clear q3
  have Q4 := Lib.hid q4; clear q4
  have F21 := Lib.hid f21; clear f21
  go_simp
  refine hK.out _ _ hS5 (fun _ => ?_)
  clear hK KK e0 e1 e2 e3
  generalize (X4.setCell ⟨w.heap.size + 1 + 1, 0, none⟩ (.int .i64 p.1)).setCell ⟨w.heap.size + 1 + 1, 1, none⟩ (.slice ap p.2.length cp) = X5 at *
  try simp only [Act.put, List.setIfInBounds_toArray, List.set_cons_zero, List.set_cons_succ, Nat.zero_add]
  refine take_op 22 6 (v := .int .i64 0) rfl rfl (by kernel_rfl) (by kernel_rfl) (by kernel_rfl) (fun _ _ _ h => h) (Or.inl ⟨by rfl, ?_⟩) (by assumption) ?_
  · (intro w hSw; obtain ⟨s0, s1, s2, s3, s4, s5, s6, s7⟩ := hSw; clear s4 s5 s6 s7; go_simp; (try with_reducible rfl))
  try simp only [Act.put, List.setIfInBounds_toArray, List.set_cons_zero, List.set_cons_succ, Nat.zero_add]
  refine wpAnyH_done (by kernel_rfl) ?_ _
  have HS5 := Lib.hid hS5; clear hS5
  clear hS hS1 hS2 hS4
  have z0 : X5.cell? ⟨w.heap.size + 1, 0, none⟩ = some (.int .i64 most) := cell_at Q4.out 0 rfl
  have z1 : X5.cell? ⟨w.heap.size + 1, 1, none⟩ = some (.slice ad2 (K + (l.length - (K + 1))) cc2) := cell_at Q4.out 1 rfl
  have z2 : X5.cell? ⟨w.heap.size + 1 + 1, 0, none⟩ = some (.int .i64 p.1) := cell_at Q3.out 0 rfl
  have z3 : X5.cell? ⟨w.heap.size + 1 + 1, 1, none⟩ = some (.slice ap p.2.length cp) := cell_at Q3.out 1 rfl
  go_wp2
  all_goals exact bodyPost_ret (v := .tuple #[.agg #[.int .i64 most, .slice ad2 (K + (l.length - (K + 1))) cc2], .agg #[.int .i64 p.1, .slice ap p.2.length cp], .int .i64 0]) (by simp [results, Try.results55, go_sem, z0, z1, z2, z3]) rfl ⟨_, _, _, rfl, HFIN.out _ _ _ OWN2.out HN2.out HS3.out X5 HS5.out ((F20.out.mono fun _ _ h => .inl h).trans F21.out fun _ _ h => .inr h)⟩

end Go.Proofs.Ytclihppeaikhiaa
