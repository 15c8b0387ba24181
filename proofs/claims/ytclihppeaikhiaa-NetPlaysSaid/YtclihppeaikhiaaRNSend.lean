/- tributaryref26.Net.Send: the walk. -/
import Derived.Test.YtclihppeaikhiaaRNSend0
namespace Go.Proofs.Ytclihppeaikhiaa
open Go.RowKit

theorem outCells_one {w : World} {outs : List (Int × Value)} {l : List Par} (hn : outs.length = l.length) (h : ∀ (i : Nat) (q : Int × Value) (p : Par), outs[i]? = some q → l[i]? = some p → q.1 = p.1 ∧ Rd w q.2 p.2.length (bV p.2)) : ∀ u ∈ outCells outs, u.oneCell' = true := by
  intro u hu
  simp only [outCells, List.mem_flatMap] at hu
  obtain ⟨q, hq, hu⟩ := hu
  simp only [List.mem_cons, List.not_mem_nil, or_false] at hu
  rcases hu with rfl | rfl
  · rfl
  · obtain ⟨i, hi, rfl⟩ := List.getElem_of_mem hq
    obtain ⟨a, c, e⟩ := rd_shape (h i _ _ (List.getElem?_eq_getElem hi) (List.getElem?_eq_getElem (by omega : i < l.length))).2
    rw [e]; rfl

set_option linter.unusedSimpArgs false in
set_option maxHeartbeats 4000000 in
set_option maxRecDepth 1000000 in
theorem rsend_ok (N : Nat → Prop) (w : World) (hN : ∀ k, N k → k < w.heap.size) (most : Int) (a : Option Addr) (c : Nat) (l : List Par) (ap : Option Addr) (cp : Nat) (p : Par) (hv : RefAt N w (.slice a l.length c) l) (hp : Rd w (.slice ap p.2.length cp) p.2.length (bV p.2)) (hpn : p.2.length ≠ 0 → ∀ k, (Value.slice ap p.2.length cp).ownBlock = some k → ¬ N k) (hl : l.length ≤ 1000) (hm : (l.length : Int) < most) :
    Calls Try.prog 54 #[.agg #[.int .i64 most, .slice a l.length c], .agg #[.int .i64 p.1, .slice ap p.2.length cp]] w fun e w' => ∃ v', e = .returned (.tuple #[.agg #[.int .i64 most, v'], .int .i64 0]) ∧ RefAt N w' v' (l ++ [p]) ∧ Frm (fun _ => False) w w' := by
  obtain ⟨i0, hi, hz0, hz1, hz2⟩ := info_parts rpar_info
  obtain ⟨outs, ho1, ho2, ho3, ho4, ho5⟩ := hv
  obtain ⟨X0, hX0⟩ : ∃ X0, X0 = (((w.alloc (.cells #[.int .i64 most, .slice a l.length c] 76)).alloc (.cells #[.int .i64 p.1, .slice ap p.2.length cp] 107)).alloc (.cells #[.int .i64 0, .slice none 0 0] 76)).drew := ⟨_, rfl⟩
  have fW : Frm (fun _ => False) w X0 := by rw [hX0]; exact (((Frm.alloc _ w _).trans (Frm.alloc _ _ _) fun _ _ h => h).trans (Frm.alloc _ _ _) fun _ _ h => h).trans (Frm.drew _ _) fun _ _ h => h
  have hn : X0.heap.size = w.heap.size + 1 + 1 + 1 := by rw [hX0]; show (((w.alloc _).alloc _).alloc _).heap.size = _; simp
  have b0 : X0.heap[w.heap.size]? = some (.cells #[.int .i64 most, .slice a l.length c] 76) := by
    rw [hX0]
    show (((w.alloc _).alloc _).alloc _).heap[w.heap.size]? = _
    rw [Below.heap_alloc _ _ _ (by simp; omega), Below.heap_alloc _ _ _ (by simp)]; exact heap_alloc_new w _
  have b1 : X0.heap[w.heap.size + 1]? = some (.cells #[.int .i64 p.1, .slice ap p.2.length cp] 107) := by
    rw [hX0]
    show (((w.alloc (.cells #[.int .i64 most, .slice a l.length c] 76)).alloc (.cells #[.int .i64 p.1, .slice ap p.2.length cp] 107)).alloc _).heap[w.heap.size + 1]? = _
    rw [Below.heap_alloc _ _ _ (by simp)]
    have := heap_alloc_new (w.alloc (.cells #[.int .i64 most, .slice a l.length c] 76)) (.cells #[.int .i64 p.1, .slice ap p.2.length cp] 107)
    simpa only [World.size_alloc] using this
  have b2 : X0.heap[w.heap.size + 1 + 1]? = some (.cells #[.int .i64 0, .slice none 0 0] 76 (0, 0)) := by
    rw [hX0]
    show (((w.alloc (.cells #[.int .i64 most, .slice a l.length c] 76)).alloc (.cells #[.int .i64 p.1, .slice ap p.2.length cp] 107)).alloc (.cells #[.int .i64 0, .slice none 0 0] 76)).heap[w.heap.size + 1 + 1]? = _
    have := heap_alloc_new ((w.alloc (.cells #[.int .i64 most, .slice a l.length c] 76)).alloc (.cells #[.int .i64 p.1, .slice ap p.2.length cp] 107)) (.cells #[.int .i64 0, .slice none 0 0] 76)
    simpa only [World.size_alloc] using this
  have hS : SndS X0 w.heap.size most (.slice a l.length c) p.1 (.slice ap p.2.length cp) X0 := ⟨cell_at b0 0 rfl, cell_at b0 1 rfl, cell_at b1 0 rfl, cell_at b1 1 rfl, ⟨_, _, b2⟩, Frm.refl _ _⟩
  have hcells : ∀ X, SndS X0 w.heap.size most (.slice a l.length c) p.1 (.slice ap p.2.length cp) X → ∀ q u, w.cell? q = some u → X.cell? q = some u := fun X hX q u hu => by
    have hlt := World.block_lt_of_cell? w _ hu
    exact hX.frm.cell' (fW.cell' hu id) (fun e => by have e1 : q.block = w.heap.size + 1 + 1 := e; omega)
  have hsrc : ∀ X, SndS X0 w.heap.size most (.slice a l.length c) p.1 (.slice ap p.2.length cp) X → Src Try.prog 2 74 (.slice a l.length c) l.length (outCells outs) X := fun X hX =>
    (ho2.keepCell (hcells X hX)).src (P := Try.prog) (size := 2) Try.underlying74 (by rw [outCells_length, ho1]) (outCells_one ho1 ho3)
  have hfin : ∀ X ad cc, X.ownsRow 0 107 2 (.slice ad (l.length + 1) cc) (l.length + 1) (outCells outs ++ [.int .i64 p.1, .slice ap p.2.length cp]) → (∀ k, (Value.slice ad (l.length + 1) cc).ownBlock = some k → X0.heap.size ≤ k) → SndS X0 w.heap.size most (.slice a l.length c) p.1 (.slice ap p.2.length cp) X →
      RefAt N ((X.setCell ⟨w.heap.size + 1 + 1, 0, none⟩ (.int .i64 most)).setCell ⟨w.heap.size + 1 + 1, 1, none⟩ (.slice ad (l.length + 1) cc)) (.slice ad (l.length + 1) cc) (l ++ [p]) ∧ Frm (fun _ => False) w ((X.setCell ⟨w.heap.size + 1 + 1, 0, none⟩ (.int .i64 most)).setCell ⟨w.heap.size + 1 + 1, 1, none⟩ (.slice ad (l.length + 1) cc)) := fun X ad cc ho hb hX => by
    have hst := (hX.store (.int .i64 most) (.slice ad (l.length + 1) cc)).1
    have f2 : Frm (fun i => i = w.heap.size + 1 + 1) X ((X.setCell ⟨w.heap.size + 1 + 1, 0, none⟩ (.int .i64 most)).setCell ⟨w.heap.size + 1 + 1, 1, none⟩ (.slice ad (l.length + 1) cc)) :=
      (Frm.setCell (S := fun i => i = w.heap.size + 1 + 1) X (p := ⟨w.heap.size + 1 + 1, 0, none⟩) (.inl rfl) _).trans (Frm.setCell (S := fun i => i = w.heap.size + 1 + 1) _ (p := ⟨w.heap.size + 1 + 1, 1, none⟩) (.inl rfl) _) fun _ _ h => h
    refine ⟨⟨outs ++ [(p.1, .slice ap p.2.length cp)], by simp [ho1], ?_, fun i q p' hq hp' => ?_, fun _ k hk hNk => by have := hb k hk; have := hN k hNk; omega, fun i q p' hq hp' => ?_⟩, fW.trans hst.frm fun i hi h => by have h1 : i = w.heap.size + 1 + 1 := h; omega⟩
    · rw [← outCells_snoc, List.length_append]
      exact Rd.own (f2.owns ho fun k hk h => by have h1 : k = w.heap.size + 1 + 1 := h; have := hb k hk; omega)
    · rcases Nat.lt_or_ge i outs.length with hi | hi
      · rw [List.getElem?_append_left hi] at hq
        rw [List.getElem?_append_left (by omega)] at hp'
        exact ⟨(ho3 i q p' hq hp').1, (ho3 i q p' hq hp').2.keepCell (hcells _ hst)⟩
      · have hi2 : i = outs.length := by have := len_of_some hq; simp at this; omega
        subst hi2
        simp at hq
        rw [ho1] at hp'
        simp at hp'
        subst hq hp'
        exact ⟨rfl, hp.keepCell (hcells _ hst)⟩
    · rcases Nat.lt_or_ge i outs.length with hi | hi
      · rw [List.getElem?_append_left hi] at hq
        rw [List.getElem?_append_left (by omega)] at hp'
        exact ho5 i q p' hq hp'
      · have hi2 : i = outs.length := by have := len_of_some hq; simp at this; omega
        subst hi2
        simp at hq
        rw [ho1] at hp'
        simp at hp'
        subst hq hp'
        exact hpn
  have HSRC := Lib.hid hsrc; clear hsrc
  have HFIN := Lib.hid hfin; clear hfin
  have HN := Lib.hid hn; clear hn
  have HS := Lib.hid hS; clear hS
  have HX0 := Lib.hid hX0; clear hX0
  have hm1 : ¬ most ≤ (l.length : Int) := by omega
  clear b0 b1 b2 hcells fW hp ho2 ho3 ho4 ho5 hpn
  go_enter Try.func54, Try.ntmps54
  go_wp2_with fail
  have hS := HS.out
  refine wp_region_held_drew (S := SndS X0 w.heap.size most (.slice a l.length c) p.1 (.slice ap p.2.length cp)) (by kernel_rfl) (by rw [← HX0.out]; exact hS) (fun hHeld => ?_)
  rw [← HX0.out] at hHeld ⊢
  refine take_op 0 13 (v := ?_) rfl rfl (by kernel_rfl) (by kernel_rfl) (by kernel_rfl) (fun _ _ _ h => h) (Or.inl ⟨by rfl, ?_⟩) (by assumption) ?_
  rotate_left 1
  · (intro w hSw; obtain ⟨s0, s1, s2, s3, s4, s5⟩ := hSw; clear s4 s5; go_simp; (try with_reducible rfl))
  try simp only [Act.put, List.setIfInBounds_toArray, List.set_cons_zero, List.set_cons_succ, Nat.zero_add]
  refine take_op 1 14 (v := ?_) rfl rfl (by kernel_rfl) (by kernel_rfl) (by kernel_rfl) (fun _ _ _ h => h) (Or.inl ⟨by rfl, ?_⟩) (by assumption) ?_
  rotate_left 1
  · (intro w hSw; obtain ⟨s0, s1, s2, s3, s4, s5⟩ := hSw; clear s4 s5; go_simp; (try with_reducible rfl))
  try simp only [Act.put, List.setIfInBounds_toArray, List.set_cons_zero, List.set_cons_succ, Nat.zero_add]
  refine take_op 3 16 (v := ?_) rfl rfl (by kernel_rfl) (by kernel_rfl) (by kernel_rfl) (fun _ _ _ h => h) (Or.inl ⟨by rfl, ?_⟩) (by assumption) ?_
  rotate_left 1
  · (intro w hSw; obtain ⟨s0, s1, s2, s3, s4, s5⟩ := hSw; clear s4 s5; go_simp; (try with_reducible rfl))
  try simp only [Act.put, List.setIfInBounds_toArray, List.set_cons_zero, List.set_cons_succ, Nat.zero_add]
  refine take_op 4 17 (v := ?_) rfl rfl (by kernel_rfl) (by kernel_rfl) (by kernel_rfl) (fun _ _ _ h => h) (Or.inl ⟨by rfl, ?_⟩) (by assumption) ?_
  rotate_left 1
  · (intro w hSw; obtain ⟨s0, s1, s2, s3, s4, s5⟩ := hSw; clear s4 s5; go_simp; (try with_reducible rfl))
  try simp only [Act.put, List.setIfInBounds_toArray, List.set_cons_zero, List.set_cons_succ, Nat.zero_add]
  refine take_op 6 19 (v := ?_) rfl rfl (by kernel_rfl) (by kernel_rfl) (by kernel_rfl) (fun _ _ _ h => h) (Or.inl ⟨by rfl, ?_⟩) (by assumption) ?_
  rotate_left 1
  · (intro w hSw; obtain ⟨s0, s1, s2, s3, s4, s5⟩ := hSw; clear s4 s5; go_simp; (try with_reducible rfl))
  try simp only [Act.put, List.setIfInBounds_toArray, List.set_cons_zero, List.set_cons_succ, Nat.zero_add]
  clear hHeld
  refine wpAnyH_ready (rs := [2, 7]) (by kernel_rfl) (by simp) ?_
  refine AllReadyH.cons rfl (fun K hK => ?_) (AllReadyH.cons rfl (fun K hK => ?_) AllReadyH.nil)
  · go_simp
    have fE : Frm (fun _ => False) X0 (X0.alloc (.cells #[] 107)) := Frm.alloc _ _ _
    have ownE := own_emptyR X0
    have hge : X0.heap.size ≤ X0.heap.size := hS.frm.size
    have hS2 := hS.keep HN.out fE fun _ h => h.elim
    refine hK.out _ _ hS2 (fun _ => ?_)
    clear hK K hS fE
    generalize X0.alloc (.cells #[] 107) = XE1 at *
    try simp only [Act.put, List.setIfInBounds_toArray, List.set_cons_zero, List.set_cons_succ, Nat.zero_add]
    refine wpAnyH_ready (rs := [5, 7]) (by kernel_rfl) (by simp) ?_
    refine AllReadyH.cons rfl (fun K hK => ?_) (AllReadyH.cons rfl (fun K hK => ?_) AllReadyH.nil)
    · refine step_app XE1 rfl (.tmp 15) (.tmp 17) 74 74 rfl 107 i0 _ 2 32 Try.underlying74 hi hz0 hz1 hz2 (by decide) (by decide) _ 0 [] ownE _ l.length (outCells outs) (by simp [Act.eval]) (by simp [Act.eval]) (HSRC.out XE1 hS2) (by simp only [maxLen]; omega) (by omega) ?_
      intro ad1 cc1 X14 own1 fm1 fr1
      simp only [Nat.zero_add, List.nil_append] at own1 fr1
      have hS3 := hS2.keep HN.out fm1 (fun i hi => by simp [RowS, Value.ownBlock] at hi; omega)
      have hs5 := hS2.frm.size
      have hn1 : ∀ k, (Value.slice ad1 l.length cc1).ownBlock = some k → X0.heap.size ≤ k := fun k hk => by
        rcases fr1 k hk with h | h
        · simp [Value.ownBlock] at h; omega
        · omega
      refine hK.out _ _ hS3 (fun _ => ?_)
      clear hK K hS2 fm1 fr1 ownE
      try simp only [Act.put, List.setIfInBounds_toArray, List.set_cons_zero, List.set_cons_succ, Nat.zero_add]
      refine wpAnyH_ready (rs := [7]) (by kernel_rfl) (by simp) ?_
      refine AllReadyH.cons rfl (fun K hK => ?_) AllReadyH.nil
      go_simp
      have fP : Frm (fun _ => False) X14 (X14.alloc (.cells #[.int .i64 p.1, .slice ap p.2.length cp] 107)) := Frm.alloc _ _ _
      have hp1 := heap_alloc_new X14 (.cells #[.int .i64 p.1, .slice ap p.2.length cp] 107)
      have hS6 := hS3.keep HN.out fP fun _ h => h.elim
      have own1 := fP.owns own1 (fun _ _ => id)
      refine hK.out _ _ hS6 (fun _ => ?_)
      clear hK K hS3 fP
      generalize X14.alloc (.cells #[.int .i64 p.1, .slice ap p.2.length cp] 107) = XP5 at *
      try simp only [Act.put, List.setIfInBounds_toArray, List.set_cons_zero, List.set_cons_succ, Nat.zero_add]
      refine wpAnyH_ready (rs := [8]) (by kernel_rfl) (by simp) ?_
      refine AllReadyH.cons rfl (fun K hK => ?_) AllReadyH.nil
      have hsrc : Src Try.prog 2 74 (.slice (some ⟨X14.heap.size, 0, none⟩) 1 1) 1 [.int .i64 p.1, .slice ap p.2.length cp] XP5 := Src.ofSlice XP5 Try.underlying74 ⟨X14.heap.size, 0, none⟩ 1 1 _ rfl (fun j u hu => by rw [addr_add, Nat.zero_add]; exact cell_at hp1 j (by simpa using hu)) (by simp [Value.oneCell'])
      refine step_app XP5 rfl (.tmp 18) (.tmp 20) 74 74 rfl 107 i0 _ 2 32 Try.underlying74 hi hz0 hz1 hz2 (by decide) (by decide) _ l.length (outCells outs) own1 _ 1 _ (by simp [Act.eval]) (by simp [Act.eval]) hsrc (by simp only [maxLen]; omega) (by omega) ?_
      intro ad2 cc2 X28 own2 fm2 fr2
      have hS7 := hS6.keep HN.out fm2 (fun i hi => hn1 i hi)
      have hs8 := hS6.frm.size
      have hn2 : ∀ k, (Value.slice ad2 (l.length + 1) cc2).ownBlock = some k → X0.heap.size ≤ k := fun k hk => by
        rcases fr2 k hk with h | h
        · exact hn1 k h
        · omega
      refine hK.out _ _ hS7 (fun _ => ?_)
      clear hK K hS6 fm2 fr2 own1 hsrc
      try simp only [Act.put, List.setIfInBounds_toArray, List.set_cons_zero, List.set_cons_succ, Nat.zero_add]
      refine take_op 9 22 (v := ?_) rfl rfl (by kernel_rfl) (by kernel_rfl) (by kernel_rfl) (fun _ _ _ h => h) (Or.inl ⟨by rfl, ?_⟩) (by assumption) ?_
      rotate_left 1
      · (intro w hSw; obtain ⟨s0, s1, s2, s3, s4, s5⟩ := hSw; clear s4 s5; go_simp; (try with_reducible rfl))
      try simp only [Act.put, List.setIfInBounds_toArray, List.set_cons_zero, List.set_cons_succ, Nat.zero_add]
      refine wpAnyH_ready (rs := [10]) (by kernel_rfl) (by simp) ?_
      refine AllReadyH.cons rfl (fun K hK => ?_) AllReadyH.nil
      obtain ⟨x, y, hr⟩ := hS7.r
      have e0 : X28.cell? ⟨w.heap.size + 1 + 1, 0, none⟩ = some x := cell_at hr 0 rfl
      have e1 : X28.cell? ⟨w.heap.size + 1 + 1, 1, none⟩ = some y := cell_at hr 1 rfl
      have e2 := free_at hr 0
      have e3 := free_at hr 1
      clear hr
      have OWN2 := Lib.hid own2; clear own2
      have HN2 := Lib.hid hn2; clear hn2
      have HSX := Lib.hid hS7
      go_simp
      have hst := HSX.out.store (.int .i64 most) (.slice ad2 (l.length + 1) cc2)
      refine hK.out _ _ hst.1 (fun hHeld => ?_)
      clear hK K
      try simp only [Act.put, List.setIfInBounds_toArray, List.set_cons_zero, List.set_cons_succ, Nat.zero_add]
      refine take_op 11 5 (v := ?_) rfl rfl (by kernel_rfl) (by kernel_rfl) (by kernel_rfl) (fun _ _ _ h => h) (Or.inl ⟨by rfl, ?_⟩) (by assumption) ?_
      rotate_left 1
      · (intro w hSw; obtain ⟨s0, s1, s2, s3, s4, s5⟩ := hSw; clear s4 s5; go_simp; (try with_reducible rfl))
      try simp only [Act.put, List.setIfInBounds_toArray, List.set_cons_zero, List.set_cons_succ, Nat.zero_add]
      refine wpAnyH_done (by kernel_rfl) ?_ _
      have HST := Lib.hid hst; clear hst
      clear e0 e1 e2 e3 hHeld hS7
      have z0 := cell_at HST.out.2 0 rfl
      have z1 := cell_at HST.out.2 1 rfl
      simp at z0 z1
      go_wp2
      refine bodyPost_ret (v := .tuple #[.agg #[.int .i64 most, .slice ad2 (l.length + 1) cc2], .int .i64 0]) (by simp [results, Try.results54, go_sem, z0, z1]) rfl ⟨_, rfl, HFIN.out _ _ _ OWN2.out HN2.out HSX.out⟩
    · go_simp
      have fP : Frm (fun _ => False) XE1 (XE1.alloc (.cells #[.int .i64 p.1, .slice ap p.2.length cp] 107)) := Frm.alloc _ _ _
      have hp1 := heap_alloc_new XE1 (.cells #[.int .i64 p.1, .slice ap p.2.length cp] 107)
      have hS4 := hS2.keep HN.out fP fun _ h => h.elim
      have hpb : XE1.heap.size ≠ X0.heap.size := (Nat.ne_of_lt (own_lt ownE _ rfl)).symm
      have ownE := fP.owns ownE (fun _ _ => id)
      refine hK.out _ _ hS4 (fun _ => ?_)
      clear hK K hS2 fP
      generalize XE1.alloc (.cells #[.int .i64 p.1, .slice ap p.2.length cp] 107) = XP3 at *
      try simp only [Act.put, List.setIfInBounds_toArray, List.set_cons_zero, List.set_cons_succ, Nat.zero_add]
      refine wpAnyH_ready (rs := [5]) (by kernel_rfl) (by simp) ?_
      refine AllReadyH.cons rfl (fun K hK => ?_) AllReadyH.nil
      have hp1o := hp1
      refine step_app XP3 rfl (.tmp 15) (.tmp 17) 74 74 rfl 107 i0 _ 2 32 Try.underlying74 hi hz0 hz1 hz2 (by decide) (by decide) _ 0 [] ownE _ l.length (outCells outs) (by simp [Act.eval]) (by simp [Act.eval]) (HSRC.out XP3 hS4) (by simp only [maxLen]; omega) (by omega) ?_
      intro ad1 cc1 X16 own1 fm1 fr1
      simp only [Nat.zero_add, List.nil_append] at own1 fr1
      have hS5 := hS4.keep HN.out fm1 (fun i hi => by simp [RowS, Value.ownBlock] at hi; omega)
      have hs5 := hS4.frm.size
      have hn1 : ∀ k, (Value.slice ad1 l.length cc1).ownBlock = some k → X0.heap.size ≤ k := fun k hk => by
        rcases fr1 k hk with h | h
        · simp [Value.ownBlock] at h; omega
        · omega
      have hp1 := fm1.blk hp1 (fun h => by simp [RowS, Value.ownBlock] at h; omega)
      have hpn : ∀ k, (Value.slice ad1 l.length cc1).ownBlock = some k → k ≠ XE1.heap.size := fun k hk => by
        rcases fr1 k hk with h | h
        · simp [Value.ownBlock] at h; omega
        · have := lt_of_block hp1o; omega
      refine hK.out _ _ hS5 (fun _ => ?_)
      clear hK K hS4 fm1 fr1 ownE
      try simp only [Act.put, List.setIfInBounds_toArray, List.set_cons_zero, List.set_cons_succ, Nat.zero_add]
      refine wpAnyH_ready (rs := [8]) (by kernel_rfl) (by simp) ?_
      refine AllReadyH.cons rfl (fun K hK => ?_) AllReadyH.nil
      have hsrc : Src Try.prog 2 74 (.slice (some ⟨XE1.heap.size, 0, none⟩) 1 1) 1 [.int .i64 p.1, .slice ap p.2.length cp] X16 := Src.ofSlice X16 Try.underlying74 ⟨XE1.heap.size, 0, none⟩ 1 1 _ rfl (fun j u hu => by rw [addr_add, Nat.zero_add]; exact cell_at hp1 j (by simpa using hu)) (by simp [Value.oneCell'])
      refine step_app X16 rfl (.tmp 18) (.tmp 20) 74 74 rfl 107 i0 _ 2 32 Try.underlying74 hi hz0 hz1 hz2 (by decide) (by decide) _ l.length (outCells outs) own1 _ 1 _ (by simp [Act.eval]) (by simp [Act.eval]) hsrc (by simp only [maxLen]; omega) (by omega) ?_
      intro ad2 cc2 X28 own2 fm2 fr2
      have hS7 := hS5.keep HN.out fm2 (fun i hi => hn1 i hi)
      have hs8 := hS5.frm.size
      have hn2 : ∀ k, (Value.slice ad2 (l.length + 1) cc2).ownBlock = some k → X0.heap.size ≤ k := fun k hk => by
        rcases fr2 k hk with h | h
        · exact hn1 k h
        · omega
      refine hK.out _ _ hS7 (fun _ => ?_)
      clear hK K hS5 fm2 fr2 own1 hsrc
      try simp only [Act.put, List.setIfInBounds_toArray, List.set_cons_zero, List.set_cons_succ, Nat.zero_add]
      refine take_op 9 22 (v := ?_) rfl rfl (by kernel_rfl) (by kernel_rfl) (by kernel_rfl) (fun _ _ _ h => h) (Or.inl ⟨by rfl, ?_⟩) (by assumption) ?_
      rotate_left 1
      · (intro w hSw; obtain ⟨s0, s1, s2, s3, s4, s5⟩ := hSw; clear s4 s5; go_simp; (try with_reducible rfl))
      try simp only [Act.put, List.setIfInBounds_toArray, List.set_cons_zero, List.set_cons_succ, Nat.zero_add]
      refine wpAnyH_ready (rs := [10]) (by kernel_rfl) (by simp) ?_
      refine AllReadyH.cons rfl (fun K hK => ?_) AllReadyH.nil
      obtain ⟨x, y, hr⟩ := hS7.r
      have e0 : X28.cell? ⟨w.heap.size + 1 + 1, 0, none⟩ = some x := cell_at hr 0 rfl
      have e1 : X28.cell? ⟨w.heap.size + 1 + 1, 1, none⟩ = some y := cell_at hr 1 rfl
      have e2 := free_at hr 0
      have e3 := free_at hr 1
      clear hr
      have OWN2 := Lib.hid own2; clear own2
      have HN2 := Lib.hid hn2; clear hn2
      have HSX := Lib.hid hS7
      go_simp
      have hst := HSX.out.store (.int .i64 most) (.slice ad2 (l.length + 1) cc2)
      refine hK.out _ _ hst.1 (fun hHeld => ?_)
      clear hK K
      try simp only [Act.put, List.setIfInBounds_toArray, List.set_cons_zero, List.set_cons_succ, Nat.zero_add]
      refine take_op 11 5 (v := ?_) rfl rfl (by kernel_rfl) (by kernel_rfl) (by kernel_rfl) (fun _ _ _ h => h) (Or.inl ⟨by rfl, ?_⟩) (by assumption) ?_
      rotate_left 1
      · (intro w hSw; obtain ⟨s0, s1, s2, s3, s4, s5⟩ := hSw; clear s4 s5; go_simp; (try with_reducible rfl))
      try simp only [Act.put, List.setIfInBounds_toArray, List.set_cons_zero, List.set_cons_succ, Nat.zero_add]
      refine wpAnyH_done (by kernel_rfl) ?_ _
      have HST := Lib.hid hst; clear hst
      clear e0 e1 e2 e3 hHeld hS7
      have z0 := cell_at HST.out.2 0 rfl
      have z1 := cell_at HST.out.2 1 rfl
      simp at z0 z1
      go_wp2
      refine bodyPost_ret (v := .tuple #[.agg #[.int .i64 most, .slice ad2 (l.length + 1) cc2], .int .i64 0]) (by simp [results, Try.results54, go_sem, z0, z1]) rfl ⟨_, rfl, HFIN.out _ _ _ OWN2.out HN2.out HSX.out⟩
  · go_simp
    have fP : Frm (fun _ => False) X0 (X0.alloc (.cells #[.int .i64 p.1, .slice ap p.2.length cp] 107)) := Frm.alloc _ _ _
    have hp1 := heap_alloc_new X0 (.cells #[.int .i64 p.1, .slice ap p.2.length cp] 107)
    have hS2 := hS.keep HN.out fP fun _ h => h.elim
    refine hK.out _ _ hS2 (fun _ => ?_)
    clear hK K hS fP
    generalize X0.alloc (.cells #[.int .i64 p.1, .slice ap p.2.length cp] 107) = XP1 at *
    try simp only [Act.put, List.setIfInBounds_toArray, List.set_cons_zero, List.set_cons_succ, Nat.zero_add]
    refine wpAnyH_ready (rs := [2]) (by kernel_rfl) (by simp) ?_
    refine AllReadyH.cons rfl (fun K hK => ?_) AllReadyH.nil
    go_simp
    have fE : Frm (fun _ => False) XP1 (XP1.alloc (.cells #[] 107)) := Frm.alloc _ _ _
    have ownE := own_emptyR XP1
    have hge : X0.heap.size ≤ XP1.heap.size := hS2.frm.size
    have hS4 := hS2.keep HN.out fE fun _ h => h.elim
    have hpb : X0.heap.size ≠ XP1.heap.size := Nat.ne_of_lt (lt_of_block hp1)
    have hp1 := fE.blk hp1 id
    refine hK.out _ _ hS4 (fun _ => ?_)
    clear hK K hS2 fE
    generalize XP1.alloc (.cells #[] 107) = XE3 at *
    try simp only [Act.put, List.setIfInBounds_toArray, List.set_cons_zero, List.set_cons_succ, Nat.zero_add]
    refine wpAnyH_ready (rs := [5]) (by kernel_rfl) (by simp) ?_
    refine AllReadyH.cons rfl (fun K hK => ?_) AllReadyH.nil
    have hp1o := hp1
    refine step_app XE3 rfl (.tmp 15) (.tmp 17) 74 74 rfl 107 i0 _ 2 32 Try.underlying74 hi hz0 hz1 hz2 (by decide) (by decide) _ 0 [] ownE _ l.length (outCells outs) (by simp [Act.eval]) (by simp [Act.eval]) (HSRC.out XE3 hS4) (by simp only [maxLen]; omega) (by omega) ?_
    intro ad1 cc1 X16 own1 fm1 fr1
    simp only [Nat.zero_add, List.nil_append] at own1 fr1
    have hS5 := hS4.keep HN.out fm1 (fun i hi => by simp [RowS, Value.ownBlock] at hi; omega)
    have hs5 := hS4.frm.size
    have hn1 : ∀ k, (Value.slice ad1 l.length cc1).ownBlock = some k → X0.heap.size ≤ k := fun k hk => by
      rcases fr1 k hk with h | h
      · simp [Value.ownBlock] at h; omega
      · omega
    have hp1 := fm1.blk hp1 (fun h => by simp [RowS, Value.ownBlock] at h; omega)
    have hpn : ∀ k, (Value.slice ad1 l.length cc1).ownBlock = some k → k ≠ X0.heap.size := fun k hk => by
      rcases fr1 k hk with h | h
      · simp [Value.ownBlock] at h; omega
      · have := lt_of_block hp1o; omega
    refine hK.out _ _ hS5 (fun _ => ?_)
    clear hK K hS4 fm1 fr1 ownE
    try simp only [Act.put, List.setIfInBounds_toArray, List.set_cons_zero, List.set_cons_succ, Nat.zero_add]
    refine wpAnyH_ready (rs := [8]) (by kernel_rfl) (by simp) ?_
    refine AllReadyH.cons rfl (fun K hK => ?_) AllReadyH.nil
    have hsrc : Src Try.prog 2 74 (.slice (some ⟨X0.heap.size, 0, none⟩) 1 1) 1 [.int .i64 p.1, .slice ap p.2.length cp] X16 := Src.ofSlice X16 Try.underlying74 ⟨X0.heap.size, 0, none⟩ 1 1 _ rfl (fun j u hu => by rw [addr_add, Nat.zero_add]; exact cell_at hp1 j (by simpa using hu)) (by simp [Value.oneCell'])
    refine step_app X16 rfl (.tmp 18) (.tmp 20) 74 74 rfl 107 i0 _ 2 32 Try.underlying74 hi hz0 hz1 hz2 (by decide) (by decide) _ l.length (outCells outs) own1 _ 1 _ (by simp [Act.eval]) (by simp [Act.eval]) hsrc (by simp only [maxLen]; omega) (by omega) ?_
    intro ad2 cc2 X28 own2 fm2 fr2
    have hS7 := hS5.keep HN.out fm2 (fun i hi => hn1 i hi)
    have hs8 := hS5.frm.size
    have hn2 : ∀ k, (Value.slice ad2 (l.length + 1) cc2).ownBlock = some k → X0.heap.size ≤ k := fun k hk => by
      rcases fr2 k hk with h | h
      · exact hn1 k h
      · omega
    refine hK.out _ _ hS7 (fun _ => ?_)
    clear hK K hS5 fm2 fr2 own1 hsrc
    try simp only [Act.put, List.setIfInBounds_toArray, List.set_cons_zero, List.set_cons_succ, Nat.zero_add]
    refine take_op 9 22 (v := ?_) rfl rfl (by kernel_rfl) (by kernel_rfl) (by kernel_rfl) (fun _ _ _ h => h) (Or.inl ⟨by rfl, ?_⟩) (by assumption) ?_
    rotate_left 1
    · (intro w hSw; obtain ⟨s0, s1, s2, s3, s4, s5⟩ := hSw; clear s4 s5; go_simp; (try with_reducible rfl))
    try simp only [Act.put, List.setIfInBounds_toArray, List.set_cons_zero, List.set_cons_succ, Nat.zero_add]
    refine wpAnyH_ready (rs := [10]) (by kernel_rfl) (by simp) ?_
    refine AllReadyH.cons rfl (fun K hK => ?_) AllReadyH.nil
    obtain ⟨x, y, hr⟩ := hS7.r
    have e0 : X28.cell? ⟨w.heap.size + 1 + 1, 0, none⟩ = some x := cell_at hr 0 rfl
    have e1 : X28.cell? ⟨w.heap.size + 1 + 1, 1, none⟩ = some y := cell_at hr 1 rfl
    have e2 := free_at hr 0
    have e3 := free_at hr 1
    clear hr
    have OWN2 := Lib.hid own2; clear own2
    have HN2 := Lib.hid hn2; clear hn2
    have HSX := Lib.hid hS7
    go_simp
    have hst := HSX.out.store (.int .i64 most) (.slice ad2 (l.length + 1) cc2)
    refine hK.out _ _ hst.1 (fun hHeld => ?_)
    clear hK K
    try simp only [Act.put, List.setIfInBounds_toArray, List.set_cons_zero, List.set_cons_succ, Nat.zero_add]
    refine take_op 11 5 (v := ?_) rfl rfl (by kernel_rfl) (by kernel_rfl) (by kernel_rfl) (fun _ _ _ h => h) (Or.inl ⟨by rfl, ?_⟩) (by assumption) ?_
    rotate_left 1
    · (intro w hSw; obtain ⟨s0, s1, s2, s3, s4, s5⟩ := hSw; clear s4 s5; go_simp; (try with_reducible rfl))
    try simp only [Act.put, List.setIfInBounds_toArray, List.set_cons_zero, List.set_cons_succ, Nat.zero_add]
    refine wpAnyH_done (by kernel_rfl) ?_ _
    have HST := Lib.hid hst; clear hst
    clear e0 e1 e2 e3 hHeld hS7
    have z0 := cell_at HST.out.2 0 rfl
    have z1 := cell_at HST.out.2 1 rfl
    simp at z0 z1
    go_wp2
    refine bodyPost_ret (v := .tuple #[.agg #[.int .i64 most, .slice ad2 (l.length + 1) cc2], .int .i64 0]) (by simp [results, Try.results54, go_sem, z0, z1]) rfl ⟨_, rfl, HFIN.out _ _ _ OWN2.out HN2.out HSX.out⟩

end Go.Proofs.Ytclihppeaikhiaa
