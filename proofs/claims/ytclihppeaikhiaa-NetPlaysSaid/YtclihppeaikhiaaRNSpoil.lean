/- tributaryref26.Net.Spoil: the walk. -/
import Derived.Test.YtclihppeaikhiaaRNDouble
import Derived.Test.YtclihppeaikhiaaNetOwn2
import Derived.Deep.DeepCutAuto
namespace Go.Proofs.Ytclihppeaikhiaa
open Go.RowKit

/-- What Spoil's drawn region leaves as it is. -/
structure SplS (X0 : World) (n0 : Nat) (most : Int) (vL : Value) (w : World) : Prop where
  c0 : w.cell? ⟨n0, 0, none⟩ = some (.int .i64 most)
  c1 : w.cell? ⟨n0, 1, none⟩ = some vL
  frm : Frm (fun _ => False) X0 w
theorem SplS.keep {X0 : World} {n0 : Nat} {most : Int} {vL : Value} {w w' : World} (h : SplS X0 n0 most vL w) {S : Nat → Prop} (f : Frm S w w') (hs : ∀ i, S i → X0.heap.size ≤ i) (hn : n0 < X0.heap.size := by assumption) : SplS X0 n0 most vL w' := by
  have no : ¬ S n0 := fun hsi => by have := hs _ hsi; omega
  exact ⟨f.cell' h.c0 no, f.cell' h.c1 no, h.frm.trans f fun i hi hsi => by have := hs i hsi; omega⟩
theorem own_someR {w : World} {e : TypeId} {size : Nat} {a : Option Addr} {n c : Nat} {xs : List Value} (h : w.ownsRow 0 e size (.slice a n c) n xs) (hn : 0 < n) : ∃ g, a = some ⟨g, 0, none⟩ := by
  rcases h.2 with ⟨hx, _⟩ | ⟨g', cp, cur, hx, _⟩
  · simp at hx; omega
  · simp only [Value.slice.injEq] at hx
    exact ⟨_, hx.1⟩
theorem own_cells {w : World} {e : TypeId} {size g n c : Nat} {xs : List Value} (h : w.ownsRow 0 e size (.slice (some ⟨g, 0, none⟩) n c) n xs) : ∃ cur, w.heap[g]? = some (.cells cur e (0, 0)) := by
  rcases h.2 with ⟨hx, _⟩ | ⟨g', cp, cur, hx, _, hg, _⟩
  · cases hx
  · simp only [Value.slice.injEq, Option.some.injEq, Addr.mk.injEq, and_true] at hx
    obtain ⟨rfl, _⟩ := hx
    exact ⟨cur, hg⟩
theorem own_set_gen {w : World} {e : TypeId} {size g n c : Nat} {xs : List Value} (h : w.ownsRow 0 e size (.slice (some ⟨g, 0, none⟩) n c) n xs) (j : Nat) (u : Value) : (w.setCell ⟨g, j, none⟩ u).ownsRow 0 e size (.slice (some ⟨g, 0, none⟩) n c) n (xs.set j u) := by
  refine ⟨by rw [List.length_set]; exact h.1, ?_⟩
  rcases h.2 with ⟨hx, _⟩ | ⟨g', cp, cur, hx, hb, hg, hn, hcc, hcs, ht⟩
  · cases hx
  · simp only [Value.slice.injEq, Option.some.injEq, Addr.mk.injEq, true_and, and_true] at hx
    obtain ⟨rfl, rfl⟩ := hx
    exact .inr ⟨g, c, _, rfl, hb, set_at hg j u, hn, hcc, by simpa using hcs, by rw [Array.toList_setIfInBounds, List.take_set, ht]⟩
theorem outCells_set : ∀ (outs : List (Int × Value)) (K : Nat) (t : Int) (v u : Value), outs[K]? = some (t, v) → (outCells outs).set (K * 2 + 1) u = outCells (outs.set K (t, u))
  | [], _, _, _, _, h => by simp at h
  | q :: r, 0, t, v, u, h => by simp at h; subst h; rfl
  | q :: r, K + 1, t, v, u, h => by
    have e : outCells (q :: r) = .int .i64 q.1 :: q.2 :: outCells r := rfl
    rw [e, show (K + 1) * 2 + 1 = K * 2 + 1 + 1 + 1 by omega, List.set_cons_succ, List.set_cons_succ, outCells_set r K t v u (by simpa using h), List.set_cons_succ]
    rfl
theorem spoilIdx_pos (at_ : Int) {n : Nat} (h : 0 < n) (h0 : 0 ≤ at_.tmod n) : at_.tmod n = (spoilIdx at_ n : Int) := by
  rw [← spoilIdx_go at_ h]
  have h2 : (at_.tmod n).natAbs < n := by rw [Int.natAbs_tmod]; exact Nat.mod_lt _ (by simpa using h)
  rw [Int.tmod_eq_emod_of_nonneg (a := at_.tmod n + n) (by omega), Int.add_emod_right, Int.emod_eq_of_lt h0 (by omega)]
theorem spoilIdx_neg (at_ : Int) {n : Nat} (h : 0 < n) (h0 : at_.tmod n < 0) : at_.tmod n + n = (spoilIdx at_ n : Int) := by
  rw [← spoilIdx_go at_ h]
  have h2 : (at_.tmod n).natAbs < n := by rw [Int.natAbs_tmod]; exact Nat.mod_lt _ (by simpa using h)
  rw [Int.tmod_eq_emod_of_nonneg (a := at_.tmod n + n) (by omega), Int.emod_eq_of_lt (by omega) (by omega)]
theorem spl_fin {N : Nat → Prop} {w w4 : World} {g cc K n c2 : Nat} {ad : Option Addr} {l : List Par} {outs : List (Int × Value)} {p : Par} {v0 : Value} {bs' : List UInt8} (hW : Frm (fun _ => False) w w4) (o4 : w4.ownsRow 0 107 2 (.slice (some ⟨g, 0, none⟩) l.length cc) l.length (outCells outs))
    (ho1 : outs.length = l.length) (ho3 : ∀ (i : Nat) (q : Int × Value) (p : Par), outs[i]? = some q → l[i]? = some p → q.1 = p.1 ∧ Rd w q.2 p.2.length (bV p.2)) (hq : outs[K]? = some (p.1, v0)) (row : w4.ownsRow 0 5 1 (.slice ad n c2) n (bV bs')) (hbn : bs'.length = n)
    (hbk : ∀ k, (Value.slice ad n c2).ownBlock = some k → k ≠ g ∧ k ≠ w.heap.size + 1) (hgn : ¬ g = w.heap.size + 1) (hg : w.heap.size ≤ g) (hN : ∀ k, N k → k < w.heap.size) (hbk2 : ∀ k, (Value.slice ad n c2).ownBlock = some k → w.heap.size ≤ k)
    (ho5 : ∀ (i : Nat) (q : Int × Value) (p : Par), outs[i]? = some q → l[i]? = some p → p.2.length ≠ 0 → ∀ k, q.2.ownBlock = some k → ¬ N k) (a b : Value) :
    RefAt N (((w4.setCell ⟨g, K * 2 + 1, none⟩ (.slice ad n c2)).setCell ⟨w.heap.size + 1, 0, none⟩ a).setCell ⟨w.heap.size + 1, 1, none⟩ b) (.slice (some ⟨g, 0, none⟩) l.length cc) (l.set K (p.1, bs')) ∧
      Frm (fun _ => False) w (((w4.setCell ⟨g, K * 2 + 1, none⟩ (.slice ad n c2)).setCell ⟨w.heap.size + 1, 0, none⟩ a).setCell ⟨w.heap.size + 1, 1, none⟩ b) := by
  have f1 : Frm (fun i => i = g) w4 (w4.setCell ⟨g, K * 2 + 1, none⟩ (.slice ad n c2)) := Frm.setCell (S := fun i => i = g) w4 (p := ⟨g, K * 2 + 1, none⟩) (.inl rfl) _
  have f2 := frm_set2 (w4.setCell ⟨g, K * 2 + 1, none⟩ (.slice ad n c2)) (w.heap.size + 1) a b
  have o5 := f2.owns (own_set_gen o4 (K * 2 + 1) (.slice ad n c2)) (fun k hk h => by simp [Value.ownBlock] at hk; have h1 : k = w.heap.size + 1 := h; omega)
  rw [outCells_set outs K p.1 v0 _ hq] at o5
  have r5 := f2.owns (f1.owns row (fun k hk h => (hbk k hk).1 h)) (fun k hk h => (hbk k hk).2 h)
  have hF : Frm (fun _ => False) w (((w4.setCell ⟨g, K * 2 + 1, none⟩ (.slice ad n c2)).setCell ⟨w.heap.size + 1, 0, none⟩ a).setCell ⟨w.heap.size + 1, 1, none⟩ b) :=
    (hW.trans f1 fun i hi h => by have h1 : i = g := h; omega).trans f2 fun i hi h => by have h1 : i = w.heap.size + 1 := h; omega
  refine ⟨⟨outs.set K (p.1, .slice ad n c2), by simp [ho1], by rw [List.length_set]; exact Rd.own o5, fun i q p' hq' hp' => ?_, fun _ k hk hNk => by simp [Value.ownBlock] at hk; have := hN k hNk; omega, fun i q p' hq' hp' => ?_⟩, hF⟩
  rotate_left 1
  · rw [List.getElem?_set] at hq' hp'
    split at hq'
    · rename_i hi
      rw [if_pos hi] at hp'
      split at hq'
      · split at hp'
        · cases hq'; cases hp'
          exact fun _ k hk hNk => by have := hN k hNk; have := hbk2 k hk; omega
        · cases hp'
      · cases hq'
    · rename_i hi
      rw [if_neg hi] at hp'
      exact ho5 i q p' hq' hp'
  rw [List.getElem?_set] at hq' hp'
  split at hq'
  · rename_i hi
    rw [if_pos hi] at hp'
    split at hq'
    · split at hp'
      · cases hq'; cases hp'
        refine ⟨rfl, ?_⟩
        show Rd _ _ bs'.length (bV bs')
        rw [hbn]
        exact Rd.own r5
      · cases hp'
    · cases hq'
  · rename_i hi
    rw [if_neg hi] at hp'
    exact ⟨(ho3 i q p' hq' hp').1, (ho3 i q p' hq' hp').2.keep hF fun _ _ => id⟩
def SplMid (X0 : World) (n0 : Nat) (most : Int) (vL : Value) (n : Nat) (xs : List Value) (v10 : Value) (wd : World) : Prop :=
  ∃ xb g cc, v10 = .pointer (some ⟨xb, 0, none⟩) ∧ wd.heap[xb]? = some (.cells #[.int .i64 most, .slice (some ⟨g, 0, none⟩) n cc] 76 (0, 0)) ∧ wd.ownsRow 0 107 2 (.slice (some ⟨g, 0, none⟩) n cc) n xs ∧
    X0.heap.size ≤ xb ∧ X0.heap.size ≤ g ∧ g ≠ xb ∧ SplS X0 n0 most vL wd

set_option linter.unusedSimpArgs false in
set_option maxHeartbeats 4000000 in
set_option maxRecDepth 1000000 in
theorem rspoil_ok (N : Nat → Prop) (w : World) (hN : ∀ k, N k → k < w.heap.size) (most : Nat) (b off c : Nat) (l : List Par) (K : Nat) (p : Par) (hv : RefAt N w (.slice (some ⟨b, off, none⟩) l.length c) l) (hpK : l[K]? = some p) (hl : l.length ≤ 1000) (hpl : p.2.length ≤ 140737488355328) (at_ : Int) (x : UInt8) :
    Calls Try.prog 57 #[.agg #[.int .i64 most, .slice (some ⟨b, off, none⟩) l.length c], .int .i64 K, .int .i64 at_, .int .u8 (x.toNat : Int)] w fun e w' => ∃ v', e = .returned (.tuple #[.agg #[.int .i64 most, v'], .int .i64 0]) ∧ RefAt N w' v' (l.set K (spoilP at_ x p)) ∧ Frm (fun _ => False) w w' := by
  obtain ⟨i0, hi, hz0, hz1, hz2⟩ := info_parts rpar_info
  have hKl : K < l.length := len_of_some hpK
  obtain ⟨b', off', ap, cp, hbo, g0, g1, gp⟩ := hv.get hpK
  simp only [Option.some.injEq, Addr.mk.injEq, and_true] at hbo
  obtain ⟨rfl, rfl⟩ := hbo
  have hblt : b < w.heap.size := World.block_lt_of_cell? w _ g0
  obtain ⟨outs, ho1, ho2, ho3, ho4, ho5⟩ := hv
  obtain ⟨X0, hX0⟩ : ∃ X0, X0 = ((w.alloc (.cells #[.int .i64 most, .slice (some ⟨b, off, none⟩) l.length c] 76)).alloc (.cells #[.int .i64 0, .slice none 0 0] 76)).drew := ⟨_, rfl⟩
  have fW : Frm (fun _ => False) w X0 := by rw [hX0]; exact ((Frm.alloc _ w _).trans (Frm.alloc _ _ _) fun _ _ h => h).trans (Frm.drew _ _) fun _ _ h => h
  have hn : X0.heap.size = w.heap.size + 1 + 1 := by rw [hX0]; show ((w.alloc _).alloc _).heap.size = _; simp
  have b0 : X0.heap[w.heap.size]? = some (.cells #[.int .i64 most, .slice (some ⟨b, off, none⟩) l.length c] 76) := by
    rw [hX0]
    show ((w.alloc _).alloc _).heap[w.heap.size]? = _
    rw [Below.heap_alloc _ _ _ (by simp)]; exact heap_alloc_new w _
  have b1 : X0.heap[w.heap.size + 1]? = some (.cells #[.int .i64 0, .slice none 0 0] 76 (0, 0)) := by
    rw [hX0]
    show ((w.alloc (.cells #[.int .i64 most, .slice (some ⟨b, off, none⟩) l.length c] 76)).alloc (.cells #[.int .i64 0, .slice none 0 0] 76)).heap[w.heap.size + 1]? = _
    have := heap_alloc_new (w.alloc (.cells #[.int .i64 most, .slice (some ⟨b, off, none⟩) l.length c] 76)) (.cells #[.int .i64 0, .slice none 0 0] 76)
    simpa only [World.size_alloc] using this
  have hS : SplS X0 w.heap.size most (.slice (some ⟨b, off, none⟩) l.length c) X0 := ⟨cell_at b0 0 rfl, cell_at b0 1 rfl, Frm.refl _ _⟩
  have hsrc : ∀ X, SplS X0 w.heap.size most (.slice (some ⟨b, off, none⟩) l.length c) X → Src Try.prog 2 74 (.slice (some ⟨b, off, none⟩) l.length c) l.length (outCells outs) X := fun X hX =>
    (ho2.keepCell (fW.trans hX.frm fun _ _ h => h).cells0).src (P := Try.prog) (size := 2) Try.underlying74 (by rw [outCells_length, ho1]) (outCells_one ho1 ho3)
  have hn0 : w.heap.size < X0.heap.size := by omega
  have HSRC := Lib.hid hsrc; clear hsrc
  have HN := Lib.hid hn; clear hn
  have HS := Lib.hid hS; clear hS
  have HX0 := Lib.hid hX0; clear hX0
  have B1 := Lib.hid b1; clear b1
  have FW := Lib.hid fW; clear fW
  have HPK := Lib.hid hpK; clear hpK
  have HO2 := Lib.hid ho2; clear ho2
  have HO3 := Lib.hid ho3; clear ho3
  have G1 := Lib.hid g1; clear g1
  have GP := Lib.hid gp; clear gp
  have hk1 : ¬ (K : Int) < 0 := by omega
  have hk2 : ¬ (l.length : Int) ≤ K := by omega
  clear b0 g0
  go_enter Try.func57, Try.ntmps57
  go_wp2_with fail
  go_cut [10] (fun v10 wd => SplMid X0 w.heap.size most (.slice (some ⟨b, off, none⟩) l.length c) l.length (outCells outs) v10 wd)
  case first =>
    have hS := HS.out
    refine wp_region_held_drew (S := SplS X0 w.heap.size most (.slice (some ⟨b, off, none⟩) l.length c)) (by kernel_rfl) (by rw [← HX0.out]; exact hS) (fun hHeld => ?_)
    rw [← HX0.out] at hHeld ⊢
    refine take_op 0 23 (v := ?_) rfl rfl (by kernel_rfl) (by kernel_rfl) (by kernel_rfl) (fun _ _ _ h => h) (Or.inl ⟨by rfl, ?_⟩) (by assumption) ?_
    rotate_left 1
    · (intro w hSw; obtain ⟨s0, s1, s2⟩ := hSw; clear s2; go_simp; (try with_reducible rfl))
    try simp only [Act.put, List.setIfInBounds_toArray, List.set_cons_zero, List.set_cons_succ, Nat.zero_add]
    refine take_op 1 24 (v := ?_) rfl rfl (by kernel_rfl) (by kernel_rfl) (by kernel_rfl) (fun _ _ _ h => h) (Or.inl ⟨by rfl, ?_⟩) (by assumption) ?_
    rotate_left 1
    · (intro w hSw; obtain ⟨s0, s1, s2⟩ := hSw; clear s2; go_simp; (try with_reducible rfl))
    try simp only [Act.put, List.setIfInBounds_toArray, List.set_cons_zero, List.set_cons_succ, Nat.zero_add]
    refine take_op 3 26 (v := ?_) rfl rfl (by kernel_rfl) (by kernel_rfl) (by kernel_rfl) (fun _ _ _ h => h) (Or.inl ⟨by rfl, ?_⟩) (by assumption) ?_
    rotate_left 1
    · (intro w hSw; obtain ⟨s0, s1, s2⟩ := hSw; clear s2; go_simp; (try with_reducible rfl))
    try simp only [Act.put, List.setIfInBounds_toArray, List.set_cons_zero, List.set_cons_succ, Nat.zero_add]
    refine take_op 4 27 (v := ?_) rfl rfl (by kernel_rfl) (by kernel_rfl) (by kernel_rfl) (fun _ _ _ h => h) (Or.inl ⟨by rfl, ?_⟩) (by assumption) ?_
    rotate_left 1
    · (intro w hSw; obtain ⟨s0, s1, s2⟩ := hSw; clear s2; go_simp; (try with_reducible rfl))
    try simp only [Act.put, List.setIfInBounds_toArray, List.set_cons_zero, List.set_cons_succ, Nat.zero_add]
    clear hHeld
    refine wpAnyH_ready (rs := [2, 7]) (by kernel_rfl) (by simp) ?_
    refine AllReadyH.cons rfl (fun KK hK => ?_) (AllReadyH.cons rfl (fun KK hK => ?_) AllReadyH.nil)
    · go_simp
      have fE : Frm (fun _ => False) X0 (X0.alloc (.cells #[] 107)) := Frm.alloc _ _ _
      have ownE := own_emptyR X0
      have hge : X0.heap.size ≤ X0.heap.size := hS.frm.size
      have hS2 := hS.keep fE fun _ h => h.elim
      refine hK.out _ _ hS2 (fun _ => ?_)
      clear hK KK fE
      generalize X0.alloc (.cells #[] 107) = XE1 at *
      try simp only [Act.put, List.setIfInBounds_toArray, List.set_cons_zero, List.set_cons_succ, Nat.zero_add]
      refine wpAnyH_ready (rs := [5, 7]) (by kernel_rfl) (by simp) ?_
      refine AllReadyH.cons rfl (fun KK hK => ?_) (AllReadyH.cons rfl (fun KK hK => ?_) AllReadyH.nil)
      · refine step_app XE1 rfl (.tmp 25) (.tmp 27) 74 74 rfl 107 i0 _ 2 32 Try.underlying74 hi hz0 hz1 hz2 (by decide) (by decide) _ 0 [] ownE _ l.length (outCells outs) (by simp [Act.eval]) (by simp [Act.eval]) (HSRC.out XE1 hS2) (by simp only [maxLen]; omega) (by omega) ?_
        intro ad1 cc1 X14 own1 fm1 fr1
        simp only [Nat.zero_add, List.nil_append] at own1 fr1
        have hS3 := hS2.keep fm1 (fun i hi => by simp [RowS, Value.ownBlock] at hi; omega)
        have hs5 := hS2.frm.size
        have hn1 : ∀ k, (Value.slice ad1 l.length cc1).ownBlock = some k → X0.heap.size ≤ k := fun k hk => by
          rcases fr1 k hk with h | h
          · simp [Value.ownBlock] at h; omega
          · omega
        refine hK.out _ _ hS3 (fun _ => ?_)
        clear hK KK fm1 fr1 ownE
        try simp only [Act.put, List.setIfInBounds_toArray, List.set_cons_zero, List.set_cons_succ, Nat.zero_add]
        refine take_op 6 29 (v := ?_) rfl rfl (by kernel_rfl) (by kernel_rfl) (by kernel_rfl) (fun _ _ _ h => h) (Or.inl ⟨by rfl, ?_⟩) (by assumption) ?_
        rotate_left 1
        · (intro w hSw; obtain ⟨s0, s1, s2⟩ := hSw; clear s2; go_simp; (try with_reducible rfl))
        try simp only [Act.put, List.setIfInBounds_toArray, List.set_cons_zero, List.set_cons_succ, Nat.zero_add]
        refine wpAnyH_ready (rs := [7]) (by kernel_rfl) (by simp) ?_
        refine AllReadyH.cons rfl (fun KK hK => ?_) AllReadyH.nil
        go_simp
        have fN : Frm (fun _ => False) X14 (X14.alloc (.cells #[.int .i64 0, .slice none 0 0] 76)) := Frm.alloc _ _ _
        have hnb := heap_alloc_new X14 (.cells #[.int .i64 0, .slice none 0 0] 76)
        have hxg : X0.heap.size ≤ X14.heap.size := hS3.frm.size
        have hS6 := hS3.keep fN fun _ h => h.elim
        have hlt1 := own_lt own1
        have hn2 : ∀ k, (Value.slice ad1 l.length cc1).ownBlock = some k → k ≠ X14.heap.size := fun k hk => by have := hlt1 k hk; omega
        have own1 := fN.owns own1 (fun _ _ => id)
        refine hK.out _ _ hS6 (fun _ => ?_)
        clear hK KK fN
        generalize X14.alloc (.cells #[.int .i64 0, .slice none 0 0] 76) = XN5 at *
        try simp only [Act.put, List.setIfInBounds_toArray, List.set_cons_zero, List.set_cons_succ, Nat.zero_add]
        refine wpAnyH_ready (rs := [8]) (by kernel_rfl) (by simp) ?_
        refine AllReadyH.cons rfl (fun KK hK => ?_) AllReadyH.nil
        obtain ⟨g, rfl⟩ := own_someR own1 (by omega)
        have e0 : XN5.cell? ⟨X14.heap.size, 0, none⟩ = some (.int .i64 0) := cell_at hnb 0 rfl
        have e1 : XN5.cell? ⟨X14.heap.size, 1, none⟩ = some (.slice none 0 0) := cell_at hnb 1 rfl
        have e2 := free_at hnb 0
        have e3 := free_at hnb 1
        have q1 := set_at (set_at hnb 0 (.int .i64 most)) 1 (.slice (some ⟨g, 0, none⟩) l.length cc1)
        have f8 := frm_set2 XN5 (X14.heap.size) (.int .i64 most) (.slice (some ⟨g, 0, none⟩) l.length cc1)
        have hS8 := hS6.keep f8 (fun i hi => by have h1 : i = X14.heap.size := hi; omega)
        have own8 := f8.owns own1 (fun k hk h => by have h1 : k = X14.heap.size := h; exact hn2 k hk h1)
        have hgx := hn2 g rfl
        have hg1 := hn1 g rfl
        go_simp
        refine hK.out _ _ hS8 (fun _ => ?_)
        clear hK KK e0 e1 e2 e3 f8 hn1 hn2
        try simp only [Act.put, List.setIfInBounds_toArray, List.set_cons_zero, List.set_cons_succ, Nat.zero_add]
        refine wpAnyH_done (by kernel_rfl) ?_ _
        go_wp2_with fail
        go_meet
        case rel => exact ⟨X14.heap.size, g, cc1, rfl, q1, own8, by omega, by omega, hgx, hS8⟩
      · go_simp
        have fN : Frm (fun _ => False) XE1 (XE1.alloc (.cells #[.int .i64 0, .slice none 0 0] 76)) := Frm.alloc _ _ _
        have hnb := heap_alloc_new XE1 (.cells #[.int .i64 0, .slice none 0 0] 76)
        have hxg : X0.heap.size ≤ XE1.heap.size := hS2.frm.size
        have hS4 := hS2.keep fN fun _ h => h.elim
        have hne : XE1.heap.size ≠ X0.heap.size := (Nat.ne_of_lt (own_lt ownE _ rfl)).symm
        have ownE := fN.owns ownE (fun _ _ => id)
        refine hK.out _ _ hS4 (fun _ => ?_)
        clear hK KK fN
        generalize XE1.alloc (.cells #[.int .i64 0, .slice none 0 0] 76) = XN3 at *
        try simp only [Act.put, List.setIfInBounds_toArray, List.set_cons_zero, List.set_cons_succ, Nat.zero_add]
        refine wpAnyH_ready (rs := [5]) (by kernel_rfl) (by simp) ?_
        refine AllReadyH.cons rfl (fun KK hK => ?_) AllReadyH.nil
        have hnlt := lt_of_block hnb
        refine step_app XN3 rfl (.tmp 25) (.tmp 27) 74 74 rfl 107 i0 _ 2 32 Try.underlying74 hi hz0 hz1 hz2 (by decide) (by decide) _ 0 [] ownE _ l.length (outCells outs) (by simp [Act.eval]) (by simp [Act.eval]) (HSRC.out XN3 hS4) (by simp only [maxLen]; omega) (by omega) ?_
        intro ad1 cc1 X16 own1 fm1 fr1
        simp only [Nat.zero_add, List.nil_append] at own1 fr1
        have hS5 := hS4.keep fm1 (fun i hi => by simp [RowS, Value.ownBlock] at hi; omega)
        have hs5 := hS4.frm.size
        have hn1 : ∀ k, (Value.slice ad1 l.length cc1).ownBlock = some k → X0.heap.size ≤ k := fun k hk => by
          rcases fr1 k hk with h | h
          · simp [Value.ownBlock] at h; omega
          · omega
        have hn2 : ∀ k, (Value.slice ad1 l.length cc1).ownBlock = some k → k ≠ XE1.heap.size := fun k hk => by
          rcases fr1 k hk with h | h
          · simp [Value.ownBlock] at h; omega
          · omega
        have hnb := fm1.blk hnb (fun h => by simp [RowS, Value.ownBlock] at h; omega)
        refine hK.out _ _ hS5 (fun _ => ?_)
        clear hK KK fm1 fr1 ownE
        try simp only [Act.put, List.setIfInBounds_toArray, List.set_cons_zero, List.set_cons_succ, Nat.zero_add]
        refine take_op 6 29 (v := ?_) rfl rfl (by kernel_rfl) (by kernel_rfl) (by kernel_rfl) (fun _ _ _ h => h) (Or.inl ⟨by rfl, ?_⟩) (by assumption) ?_
        rotate_left 1
        · (intro w hSw; obtain ⟨s0, s1, s2⟩ := hSw; clear s2; go_simp; (try with_reducible rfl))
        try simp only [Act.put, List.setIfInBounds_toArray, List.set_cons_zero, List.set_cons_succ, Nat.zero_add]
        refine wpAnyH_ready (rs := [8]) (by kernel_rfl) (by simp) ?_
        refine AllReadyH.cons rfl (fun KK hK => ?_) AllReadyH.nil
        obtain ⟨g, rfl⟩ := own_someR own1 (by omega)
        have e0 : X16.cell? ⟨XE1.heap.size, 0, none⟩ = some (.int .i64 0) := cell_at hnb 0 rfl
        have e1 : X16.cell? ⟨XE1.heap.size, 1, none⟩ = some (.slice none 0 0) := cell_at hnb 1 rfl
        have e2 := free_at hnb 0
        have e3 := free_at hnb 1
        have q1 := set_at (set_at hnb 0 (.int .i64 most)) 1 (.slice (some ⟨g, 0, none⟩) l.length cc1)
        have f8 := frm_set2 X16 (XE1.heap.size) (.int .i64 most) (.slice (some ⟨g, 0, none⟩) l.length cc1)
        have hS8 := hS5.keep f8 (fun i hi => by have h1 : i = XE1.heap.size := hi; omega)
        have own8 := f8.owns own1 (fun k hk h => by have h1 : k = XE1.heap.size := h; exact hn2 k hk h1)
        have hgx := hn2 g rfl
        have hg1 := hn1 g rfl
        go_simp
        refine hK.out _ _ hS8 (fun _ => ?_)
        clear hK KK e0 e1 e2 e3 f8 hn1 hn2
        try simp only [Act.put, List.setIfInBounds_toArray, List.set_cons_zero, List.set_cons_succ, Nat.zero_add]
        refine wpAnyH_done (by kernel_rfl) ?_ _
        go_wp2_with fail
        go_meet
        case rel => exact ⟨XE1.heap.size, g, cc1, rfl, q1, own8, by omega, by omega, hgx, hS8⟩
    · go_simp
      have fN : Frm (fun _ => False) X0 (X0.alloc (.cells #[.int .i64 0, .slice none 0 0] 76)) := Frm.alloc _ _ _
      have hnb := heap_alloc_new X0 (.cells #[.int .i64 0, .slice none 0 0] 76)
      have hxg : X0.heap.size ≤ X0.heap.size := hS.frm.size
      have hS2 := hS.keep fN fun _ h => h.elim
      refine hK.out _ _ hS2 (fun _ => ?_)
      clear hK KK fN
      generalize X0.alloc (.cells #[.int .i64 0, .slice none 0 0] 76) = XN1 at *
      try simp only [Act.put, List.setIfInBounds_toArray, List.set_cons_zero, List.set_cons_succ, Nat.zero_add]
      refine wpAnyH_ready (rs := [2]) (by kernel_rfl) (by simp) ?_
      refine AllReadyH.cons rfl (fun KK hK => ?_) AllReadyH.nil
      go_simp
      have fE : Frm (fun _ => False) XN1 (XN1.alloc (.cells #[] 107)) := Frm.alloc _ _ _
      have ownE := own_emptyR XN1
      have hge : X0.heap.size ≤ XN1.heap.size := hS2.frm.size
      have hS4 := hS2.keep fE fun _ h => h.elim
      have hne : X0.heap.size ≠ XN1.heap.size := Nat.ne_of_lt (lt_of_block hnb)
      have hnb := fE.blk hnb id
      refine hK.out _ _ hS4 (fun _ => ?_)
      clear hK KK fE
      generalize XN1.alloc (.cells #[] 107) = XE3 at *
      try simp only [Act.put, List.setIfInBounds_toArray, List.set_cons_zero, List.set_cons_succ, Nat.zero_add]
      refine wpAnyH_ready (rs := [5]) (by kernel_rfl) (by simp) ?_
      refine AllReadyH.cons rfl (fun KK hK => ?_) AllReadyH.nil
      have hnlt := lt_of_block hnb
      refine step_app XE3 rfl (.tmp 25) (.tmp 27) 74 74 rfl 107 i0 _ 2 32 Try.underlying74 hi hz0 hz1 hz2 (by decide) (by decide) _ 0 [] ownE _ l.length (outCells outs) (by simp [Act.eval]) (by simp [Act.eval]) (HSRC.out XE3 hS4) (by simp only [maxLen]; omega) (by omega) ?_
      intro ad1 cc1 X16 own1 fm1 fr1
      simp only [Nat.zero_add, List.nil_append] at own1 fr1
      have hS5 := hS4.keep fm1 (fun i hi => by simp [RowS, Value.ownBlock] at hi; omega)
      have hs5 := hS4.frm.size
      have hn1 : ∀ k, (Value.slice ad1 l.length cc1).ownBlock = some k → X0.heap.size ≤ k := fun k hk => by
        rcases fr1 k hk with h | h
        · simp [Value.ownBlock] at h; omega
        · omega
      have hn2 : ∀ k, (Value.slice ad1 l.length cc1).ownBlock = some k → k ≠ X0.heap.size := fun k hk => by
        rcases fr1 k hk with h | h
        · simp [Value.ownBlock] at h; omega
        · omega
      have hnb := fm1.blk hnb (fun h => by simp [RowS, Value.ownBlock] at h; omega)
      refine hK.out _ _ hS5 (fun _ => ?_)
      clear hK KK fm1 fr1 ownE
      try simp only [Act.put, List.setIfInBounds_toArray, List.set_cons_zero, List.set_cons_succ, Nat.zero_add]
      refine take_op 6 29 (v := ?_) rfl rfl (by kernel_rfl) (by kernel_rfl) (by kernel_rfl) (fun _ _ _ h => h) (Or.inl ⟨by rfl, ?_⟩) (by assumption) ?_
      rotate_left 1
      · (intro w hSw; obtain ⟨s0, s1, s2⟩ := hSw; clear s2; go_simp; (try with_reducible rfl))
      try simp only [Act.put, List.setIfInBounds_toArray, List.set_cons_zero, List.set_cons_succ, Nat.zero_add]
      refine wpAnyH_ready (rs := [8]) (by kernel_rfl) (by simp) ?_
      refine AllReadyH.cons rfl (fun KK hK => ?_) AllReadyH.nil
      obtain ⟨g, rfl⟩ := own_someR own1 (by omega)
      have e0 : X16.cell? ⟨X0.heap.size, 0, none⟩ = some (.int .i64 0) := cell_at hnb 0 rfl
      have e1 : X16.cell? ⟨X0.heap.size, 1, none⟩ = some (.slice none 0 0) := cell_at hnb 1 rfl
      have e2 := free_at hnb 0
      have e3 := free_at hnb 1
      have q1 := set_at (set_at hnb 0 (.int .i64 most)) 1 (.slice (some ⟨g, 0, none⟩) l.length cc1)
      have f8 := frm_set2 X16 (X0.heap.size) (.int .i64 most) (.slice (some ⟨g, 0, none⟩) l.length cc1)
      have hS8 := hS5.keep f8 (fun i hi => by have h1 : i = X0.heap.size := hi; omega)
      have own8 := f8.owns own1 (fun k hk h => by have h1 : k = X0.heap.size := h; exact hn2 k hk h1)
      have hgx := hn2 g rfl
      have hg1 := hn1 g rfl
      go_simp
      refine hK.out _ _ hS8 (fun _ => ?_)
      clear hK KK e0 e1 e2 e3 f8 hn1 hn2
      try simp only [Act.put, List.setIfInBounds_toArray, List.set_cons_zero, List.set_cons_succ, Nat.zero_add]
      refine wpAnyH_done (by kernel_rfl) ?_ _
      go_wp2_with fail
      go_meet
      case rel => exact ⟨X0.heap.size, g, cc1, rfl, q1, own8, by omega, by omega, hgx, hS8⟩
  case rest =>
    obtain ⟨xb, g, cc, rfl, q0, own0, hxb, hg, hgx, hSd⟩ := hcut
    have hn := HN.out
    have hc0 := hSd.c0
    have hc1 := hSd.c1
    have fWd := FW.out.trans hSd.frm fun _ _ h => h
    have g1c := fWd.cell' G1.out id
    have hB1 := hSd.frm.blk B1.out id
    have hs := (GP.out.keep (fWd.trans (Frm.alloc (fun _ => False) wc (.cells #[] 5)) fun _ _ h => h) (fun _ _ h => h)).src (P := Try.prog) (size := 1) Try.underlying25 (by simp) (bV_oneCell p.2)
    have HS2 := Lib.hid hs; clear hs
    have Q0 := Lib.hid q0; clear q0
    have OWN0 := Lib.hid own0; clear own0
    have HB1 := Lib.hid hB1; clear hB1
    have FWD := Lib.hid fWd; clear fWd
    have hlx := lt_of_block Q0.out
    have hlg := own_lt OWN0.out g rfl
    have hlb := lt_of_block HB1.out
    have hbw : b < wc.heap.size := by have := FWD.out.size; omega
    have hbx : w.heap.size < wc.heap.size := by have := hSd.frm.size; omega
    clear hSd
    have hn' := Lib.hid hn; clear hn
    go_wp2_with (at_builtin; go_loud (refine app_u8 _ rfl (.tmp 30) (.tmp 36) 25 rfl _ [] (own_empty wc) _ p.2 rfl rfl HS2.out ?c1 ?_))
    case c1 => simpa using hpl
    intro ad c2 w2 own2 fm2 fr2 _
    have f2 : Frm (fun _ => False) wc w2 := (Frm.alloc (fun _ => False) wc _).trans fm2 (fun i hi hs => by simp [RowS, Value.ownBlock] at hs; omega)
    have own2' : w2.ownsRow 0 5 1 (.slice ad p.2.length c2) p.2.length (bV p.2) := by simpa using own2
    have hbn : ∀ k, (Value.slice ad p.2.length c2).ownBlock = some k → wc.heap.size ≤ k := fun k hk => by
      rcases fr2 k (by simpa using hk) with h1 | h1
      · simp [Value.ownBlock] at h1; omega
      · simp at h1; omega
    have hs2 := f2.size
    have q2 := f2.blk Q0.out id
    have o2 := f2.owns OWN0.out (fun _ _ => id)
    have b2 := f2.blk HB1.out id
    have fW2 := FWD.out.trans f2 fun _ _ h => h
    have OWN2 := Lib.hid own2'; clear own2'
    have HBN := Lib.hid hbn; clear hbn
    have F2 := Lib.hid f2; clear f2
    have Q2 := Lib.hid q2; clear q2
    have O2 := Lib.hid o2; clear o2
    have B2 := Lib.hid b2; clear b2
    have FW2 := Lib.hid fW2; clear fW2
    clear own2 fm2 fr2 hc0 g1c
    have hgn : ¬ g = w.heap.size + 1 := by have := hn'.out; omega
    have hxn : ¬ xb = w.heap.size + 1 := by have := hn'.out; omega
    have hgx' : ¬ xb = g := fun h => hgx h.symm
    by_cases hp0 : p.2.length = 0
    · have hp1 : ¬ (0 : Int) < p.2.length := by omega
      obtain ⟨qq, hqq⟩ : ∃ qq, outs[K]? = some qq := ⟨_, List.getElem?_eq_getElem (by omega)⟩
      obtain ⟨v0, rfl⟩ : ∃ v0, qq = (p.1, v0) := ⟨qq.2, Prod.ext (HO3.out K qq p hqq HPK.out).1 rfl⟩
      have hog := outCells_get outs K _ hqq
      have e0 : w2.cell? ⟨xb, 0, none⟩ = some (.int .i64 most) := cell_at Q2.out 0 rfl
      have e1 : w2.cell? ⟨xb, 1, none⟩ = some (.slice (some ⟨g, 0, none⟩) l.length cc) := cell_at Q2.out 1 rfl
      have r0 : w2.cell? ⟨w.heap.size + 1, 0, none⟩ = some (.int .i64 0) := cell_at B2.out 0 rfl
      have r1 : w2.cell? ⟨w.heap.size + 1, 1, none⟩ = some (.slice none 0 0) := cell_at B2.out 1 rfl
      have r2 := free_at B2.out 0
      have r3 := free_at B2.out 1
      have d0 : w2.cell? ⟨g, K * 2 + 1, none⟩ = some v0 := by
        have := O2.out.cells (g := g) rfl _ _ hog.2
        rwa [addr_add, Nat.zero_add] at this
      have d1 : w2.frozen? ⟨g, K * 2 + 1, none⟩ = false := by
        obtain ⟨cur, hcur⟩ := own_cells O2.out
        exact free_at hcur _
      have hsp : spoilB at_ x p.2 = p.2 := spoilB_same at_ x p.2 (.inl (List.eq_nil_of_length_eq_zero hp0))
      have hbk : ∀ k, (Value.slice ad p.2.length c2).ownBlock = some k → k ≠ g ∧ k ≠ w.heap.size + 1 := fun k hk => by have := HBN.out k hk; omega
      have hfin := spl_fin FW2.out O2.out ho1 HO3.out hqq OWN2.out rfl hbk hgn (by have := hn'.out; omega) hN (fun k hk => by have := HBN.out k hk; omega) ho5 (.int .i64 most) (.slice (some ⟨g, 0, none⟩) l.length cc)
      have hset : l.set K (spoilP at_ x p) = l.set K (p.1, p.2) := by rw [spoilP, hsp]
      rw [← hset] at hfin
      have HFIN := Lib.hid hfin; clear hfin
      have f1 : Frm (fun i => i = g) w2 (w2.setCell ⟨g, K * 2 + 1, none⟩ (.slice ad p.2.length c2)) := Frm.setCell (S := fun i => i = g) w2 (p := ⟨g, K * 2 + 1, none⟩) (.inl rfl) _
      have z := set_at (set_at (f1.blk B2.out (fun h => hgn h.symm)) 0 (.int .i64 most)) 1 (.slice (some ⟨g, 0, none⟩) l.length cc)
      have z0 := cell_at z 0 rfl
      have z1 := cell_at z 1 rfl
      simp at z0 z1
      clear f1 z hbk hog hqq
      clear hset hsp
      have HP0 := Lib.hid hp0; clear hp0
      go_wp2
      exact bodyPost_ret (v := .tuple #[.agg #[.int .i64 most, .slice (some ⟨g, 0, none⟩) l.length cc], .int .i64 0]) (by simp [results, Try.results57, go_sem, z0, z1]) rfl ⟨_, rfl, HFIN.out⟩
    · have hp1 : (0 : Int) < p.2.length := by omega
      obtain ⟨qq, hqq⟩ : ∃ qq, outs[K]? = some qq := ⟨_, List.getElem?_eq_getElem (by omega)⟩
      obtain ⟨v0, rfl⟩ : ∃ v0, qq = (p.1, v0) := ⟨qq.2, Prod.ext (HO3.out K qq p hqq HPK.out).1 rfl⟩
      have hog := outCells_get outs K _ hqq
      obtain ⟨gb, rfl⟩ := own_some OWN2.out (by omega)
      have hi2 := spoilIdx_lt at_ (n := p.2.length) (by omega)
      obtain ⟨idx, hidx0⟩ : ∃ idx, idx = spoilIdx at_ p.2.length := ⟨_, rfl⟩
      obtain ⟨cb, hcb0⟩ : ∃ cb, cb = p.2.getD idx 0 := ⟨_, rfl⟩
      rw [← hidx0] at hi2
      have hgb := HBN.out gb rfl
      obtain ⟨hcb, hfb⟩ := own_row_cell OWN2.out rfl hi2
      rw [← hcb0] at hcb
      have hbx : bits BinOp.xor IntKind.u8 ((cb).toNat : Int) (x.toNat : Int) = ((cb ^^^ x).toNat : Int) := bits_xor_u8 _ _
      have n1 : ¬ gb = xb := by omega
      have n2 : ¬ gb = g := by omega
      have n3 : ¬ gb = w.heap.size + 1 := by omega
      have ROW3 := Lib.hid (own_row_set (i := idx) OWN2.out rfl (cb ^^^ x))
      have f3 : Frm (fun i => i = gb) w2 (w2.setCell ⟨gb, idx, none⟩ (.int .u8 ((cb ^^^ x).toNat : Int))) := Frm.setCell (S := fun i => i = gb) w2 (p := ⟨gb, idx, none⟩) (.inl rfl) _
      have Q3 := Lib.hid (f3.blk Q2.out (fun h => n1 h.symm))
      have O3 := Lib.hid (f3.owns O2.out (fun k hk h => by simp [Value.ownBlock] at hk; have h1 : k = gb := h; omega))
      have B3 := Lib.hid (f3.blk B2.out (fun h => n3 h.symm))
      have FW3 := Lib.hid (FW2.out.trans f3 fun i hi h => by have h1 : i = gb := h; have := hn'.out; omega)
      clear f3
      have e0 : w2.cell? ⟨xb, 0, none⟩ = some (.int .i64 most) := cell_at Q2.out 0 rfl
      have e1 : w2.cell? ⟨xb, 1, none⟩ = some (.slice (some ⟨g, 0, none⟩) l.length cc) := cell_at Q2.out 1 rfl
      have r0 : w2.cell? ⟨w.heap.size + 1, 0, none⟩ = some (.int .i64 0) := cell_at B2.out 0 rfl
      have r1 : w2.cell? ⟨w.heap.size + 1, 1, none⟩ = some (.slice none 0 0) := cell_at B2.out 1 rfl
      have r2 := free_at B2.out 0
      have r3 := free_at B2.out 1
      have d0 : w2.cell? ⟨g, K * 2 + 1, none⟩ = some v0 := by
        have := O2.out.cells (g := g) rfl _ _ hog.2
        rwa [addr_add, Nat.zero_add] at this
      have d1 : w2.frozen? ⟨g, K * 2 + 1, none⟩ = false := by
        obtain ⟨cur, hcur⟩ := own_cells O2.out
        exact free_at hcur _
      have hbk : ∀ k, (Value.slice (some ⟨gb, 0, none⟩) p.2.length c2).ownBlock = some k → k ≠ g ∧ k ≠ w.heap.size + 1 := fun k hk => by have := HBN.out k hk; omega
      have hfin := spl_fin FW3.out O3.out ho1 HO3.out hqq ROW3.out (by simp) hbk hgn (by have := hn'.out; omega) hN (fun k hk => by have := HBN.out k hk; omega) ho5 (.int .i64 most) (.slice (some ⟨g, 0, none⟩) l.length cc)
      have hset : l.set K (spoilP at_ x p) = l.set K (p.1, p.2.set idx (cb ^^^ x)) := by rw [hcb0, hidx0]; rfl
      rw [← hset] at hfin
      have HFIN := Lib.hid hfin; clear hfin
      have f1 : Frm (fun i => i = g) (w2.setCell ⟨gb, idx, none⟩ (.int .u8 ((cb ^^^ x).toNat : Int))) ((w2.setCell ⟨gb, idx, none⟩ (.int .u8 ((cb ^^^ x).toNat : Int))).setCell ⟨g, K * 2 + 1, none⟩ (.slice (some ⟨gb, 0, none⟩) p.2.length c2)) := Frm.setCell (S := fun i => i = g) (w2.setCell ⟨gb, idx, none⟩ (.int .u8 ((cb ^^^ x).toNat : Int))) (p := ⟨g, K * 2 + 1, none⟩) (.inl rfl) _
      have z := set_at (set_at (f1.blk B3.out (fun h => hgn h.symm)) 0 (.int .i64 most)) 1 (.slice (some ⟨g, 0, none⟩) l.length cc)
      have z0 := cell_at z 0 rfl
      have z1 := cell_at z 1 rfl
      simp at z0 z1
      clear f1 z hbk hog hqq
      clear hset
      have hpos : 0 < p.2.length := by omega
      have hsn := spoilIdx_neg at_ hpos
      have hsp := spoilIdx_pos at_ hpos
      rw [← hidx0] at hsn hsp
      clear hidx0 hcb0
      have hab : (at_.tmod p.2.length).natAbs < p.2.length := by rw [Int.natAbs_tmod]; exact Nat.mod_lt _ (by simpa using hpos)
      by_cases hneg : at_.tmod (p.2.length : Int) < 0
      · have hw1 : IntKind.i64.wrap (at_.tmod (p.2.length : Int) + p.2.length) = (idx : Int) := by rw [wrap_small _ (by omega) (by omega)]; exact hsn hneg
        clear hsn hsp hab
        go_wp2
        exact bodyPost_ret (v := .tuple #[.agg #[.int .i64 most, .slice (some ⟨g, 0, none⟩) l.length cc], .int .i64 0]) (by simp [results, Try.results57, go_sem, z0, z1]) rfl ⟨_, rfl, HFIN.out⟩
      · have hidx : at_.tmod (p.2.length : Int) = (idx : Int) := hsp (by omega)
        clear hsn hsp hab hneg
        go_wp2
        exact bodyPost_ret (v := .tuple #[.agg #[.int .i64 most, .slice (some ⟨g, 0, none⟩) l.length cc], .int .i64 0]) (by simp [results, Try.results57, go_sem, z0, z1]) rfl ⟨_, rfl, HFIN.out⟩

end Go.Proofs.Ytclihppeaikhiaa
