/- tributarylaw26.NetPlays: the walk. -/
import Derived.Test.YtclihppeaikhiaaNetPlays
import Derived.Deep.DeepCutAuto
namespace Go.Proofs.Ytclihppeaikhiaa
open Go.RowKit

structure P12 (X0 : World) (n7 b o : Nat) (cap : Nat) (vL : Value) (x : ActI) (ab : Option Addr) (cb : Nat) (w : World) : Prop where
  c0 : w.cell? ⟨n7, 0, none⟩ = some (.int .i64 cap)
  c1 : w.cell? ⟨n7, 1, none⟩ = some vL
  d0 : w.cell? ⟨b, o, none⟩ = some (.int .u8 (x.kind.toNat : Int))
  d1 : w.cell? ⟨b, o + 1, none⟩ = some (.int .i64 x.k)
  d2 : w.cell? ⟨b, o + 2, none⟩ = some (.int .i64 x.dst)
  d3 : w.cell? ⟨b, o + 3, none⟩ = some (.slice ab x.b.length cb)
  d4 : w.cell? ⟨b, o + 4, none⟩ = some (.int .u8 (x.y.toNat : Int))
  siz : X0.heap.size ≤ w.heap.size ∧ n7 < X0.heap.size ∧ b < X0.heap.size
theorem P12.keepCell {X0 : World} {n7 b o : Nat} {cap : Nat} {vL : Value} {x : ActI} {ab : Option Addr} {cb : Nat} {w w' : World} (h : P12 X0 n7 b o cap vL x ab cb w) (f : ∀ p u, w.cell? p = some u → w'.cell? p = some u) (hs : w.heap.size ≤ w'.heap.size) : P12 X0 n7 b o cap vL x ab cb w' :=
  ⟨f _ _ h.c0, f _ _ h.c1, f _ _ h.d0, f _ _ h.d1, f _ _ h.d2, f _ _ h.d3, f _ _ h.d4, Nat.le_trans h.siz.1 hs, h.siz.2⟩
theorem P12.keep {X0 : World} {n7 b o : Nat} {cap : Nat} {vL : Value} {x : ActI} {ab : Option Addr} {cb : Nat} {w w' : World} (h : P12 X0 n7 b o cap vL x ab cb w) {S : Nat → Prop} (f : Frm S w w') (hs : ∀ i, S i → X0.heap.size ≤ i) : P12 X0 n7 b o cap vL x ab cb w' := by
  have n1 : ¬ S n7 := fun hi => by have := hs _ hi; have := h.siz; omega
  have n2 : ¬ S b := fun hi => by have := hs _ hi; have := h.siz; omega
  exact ⟨f.cell' h.c0 n1, f.cell' h.c1 n1, f.cell' h.d0 n2, f.cell' h.d1 n2, f.cell' h.d2 n2, f.cell' h.d3 n2, f.cell' h.d4 n2, Nat.le_trans h.siz.1 f.size, h.siz.2⟩

structure P13 (n9 : Nat) (vL : Value) (w : World) : Prop where
  c1 : w.cell? ⟨n9, 1, none⟩ = some vL
  t : True

set_option linter.unusedSimpArgs false in
set_option maxHeartbeats 8000000 in
set_option maxRecDepth 1000000 in
theorem plays_few (W : World) (cap : Nat) (h1 : 1 ≤ cap) (h2 : cap ≤ 64) (a : Option Addr) (c : Nat) (acts : List ActI) (ha : ActsAt W (.slice a acts.length c) acts) (hfew : fewA acts) :
    Calls Try.prog 11 #[.int .i64 cap, .slice a acts.length c] W fun e w' => e = .returned (.bool true) ∧ Frm (fun _ => False) W w' := by
  have hel : ∀ (k : Nat) (x : ActI), acts[k]? = some x → ∃ b off ab cb, a = some ⟨b, off, none⟩ ∧ ActCells W b (off + k * 5) x ab cb ∧ Rd W (.slice ab x.b.length cb) x.b.length (bV x.b) := by
    obtain ⟨a', c', he, _, _, hel⟩ := ha
    simp only [Value.slice.injEq] at he
    obtain ⟨rfl, _, rfl⟩ := he
    exact hel
  have HEL := Lib.hid hel; clear hel
  have HA := Lib.hid ha; clear ha
  have HFEW := Lib.hid hfew; clear hfew
  have hc1 : ¬ (cap : Int) < 1 := by omega
  have hc2 : ¬ (64 : Int) < cap := by omega
  go_enter Try.func11, Try.ntmps11
  go_wp2_with fail
  refine (awake26 _).mono ?_
  rintro e w1 ⟨rfl, hf1⟩
  have HF1 := Lib.hid hf1; clear hf1
  go_wp2_with fail
  have hfw : ActsAt w1 (.slice a acts.length c) acts := by
    obtain ⟨a', c', h1, h2, h3, h4⟩ := HA.out
    refine ⟨a', c', h1, h2, h3, fun k x hk => ?_⟩
    obtain ⟨b, off, ab, cb, e1, ⟨d0, d1, d2, d3, d4⟩, e3⟩ := h4 k x hk
    exact ⟨b, off, ab, cb, e1, ⟨HF1.out.cell' d0 id, HF1.out.cell' d1 id, HF1.out.cell' d2 id, HF1.out.cell' d3 id, HF1.out.cell' d4 id⟩, e3.keep HF1.out fun _ _ => id⟩
  refine (few_any w1 _ acts hfw).mono ?_
  clear hfw
  rintro e w2 ⟨g, rfl, hg, rfl⟩
  obtain rfl : g = true := hg.2 HFEW.out
  clear hg
  go_wp2_with fail
  refine (new_net cap h1 h2 w1).mono ?_
  rintro e w3 ⟨nb, ch, rfl, hn3, hf3, hch⟩
  have fW3 := HF1.out.trans hf3 fun _ _ h => h
  have hchW : W.heap.size ≤ ch := by have := HF1.out.size; omega
  have fa : Frm (fun _ => False) w3 (w3.alloc (.cells #[.int .i64 cap, .slice none 0 0] 76)) := Frm.alloc _ w3 _
  have hn4 := hn3.keep0 fa
  have hb7 := heap_alloc_new w3 (.cells #[.int .i64 cap, .slice none 0 0] 76)
  have hlen := net_len _ nb ch cap _ _ hn4
  have fW4 := fW3.trans fa fun _ _ h => h
  have hW3 := fW3.size
  have hc3 := hn3.clt
  have hnb3 := hn3.nlt
  have HLEN := Lib.hid hlen; clear hlen
  have HN4 := Lib.hid hn4; clear hn4
  have HB7 := Lib.hid hb7; clear hb7
  have FW4 := Lib.hid fW4; clear fW4
  clear hn3 hf3 fW3 fa
  go_wp2_with fail
  refine HLEN.out.mono ?_
  rintro e w4 ⟨rfl, hw4⟩
  rw [← hw4]
  clear hw4
  generalize hn7 : w3.heap.size = n7 at *
  clear hn7
  go_wp2_with fail
  go_loopw [47] (fun i wr => PlayRel W nb ch cap n7 i acts.length wr) (fun i _ => acts.length - (intOf i).toNat)
  case atStart => exact ⟨0, [], [], none, 0, Nat.zero_le _, rfl, HN4.out, HB7.out, ⟨[], rfl, .inl ⟨none, rfl, rfl, rfl⟩, fun i q p hq _ => by simp at hq, fun h => absurd rfl h, fun i q p hq _ => by simp at hq⟩, FW4.out⟩
  case round =>
    obtain ⟨k, buf, l, aL, cL, hk, rfl, hn, hb7, hr, hf⟩ := hrel
    have HN := Lib.hid hn; clear hn
    have HB := Lib.hid hb7; clear hb7
    have HR := Lib.hid hr; clear hr
    have HF := Lib.hid hf; clear hf
    clear HLEN HN4 HB7 FW4
    by_cases hlt : k < acts.length
    · obtain ⟨x, hx⟩ : ∃ x, acts[k]? = some x := ⟨_, List.getElem?_eq_getElem hlt⟩
      obtain ⟨b, off, ab, cb, rfl, ⟨d0, d1, d2, d3, d4⟩, hrd⟩ := HEL.out k x hx
      have hxl := HFEW.out.2 k x hx
      have hl7 := lt_of_block HB.out
      go_wp2_with fail
      go_cut [9, 10] (fun v9 v10 wd => PlayMid W nb ch cap n7 v9 v10 wd)
      case first =>
        obtain ⟨X0, hX0⟩ : ∃ X0, X0 = wr.drew := ⟨_, rfl⟩
        have fX : Frm (fun _ => False) wr X0 := by rw [hX0]; exact Frm.drew _ _
        have fWX := HF.out.trans fX fun _ _ h => h
        have hn0 := HN.out.keep0 fX
        have hb0 := fX.blk HB.out id
        have hr0 := HR.out.keepCell fX.cells0
        have hS : P12 X0 n7 b (off + k * 5) cap (.slice aL l.length cL) x ab cb X0 := ⟨cell_at hb0 0 rfl, cell_at hb0 1 rfl, fWX.cell' d0 id, fWX.cell' d1 id, fWX.cell' d2 id, fWX.cell' d3 id, fWX.cell' d4 id, Nat.le_refl _, lt_of_block hb0, World.block_lt_of_cell? X0 _ (fWX.cell' d0 id)⟩
        have hrdX := hrd.keep fWX fun _ _ => id
        have hcA := act_any (fun k => k = n7) X0 (fun j h => by rw [h]; exact lt_of_block hb0) nb ch cap buf l hn0 aL cL hr0 x ab cb hrdX hxl (rd_old hrd (fun j h e => by omega))
        have fB : Frm (fun _ => False) X0 (X0.alloc (.cells #[.int .i64 0, .slice none 0 0] 76)) := Frm.alloc _ X0 _
        have hcB := act_any (fun k => k = n7 ∨ k = X0.heap.size) (X0.alloc (.cells #[.int .i64 0, .slice none 0 0] 76)) (fun j h => by have := lt_of_block hb0; simp; omega) nb ch cap buf l (hn0.keep0 fB) aL cL ((hr0.or (M := fun k => k = X0.heap.size) (fun j h e => by omega)).keepCell fB.cells0) x ab cb (hrdX.keep fB fun _ _ => id) hxl (fun hz j hj hs => hs.elim (rd_old (N := fun k => k = n7) hrd (fun j h e => by omega) hz j hj) (rd_old (N := fun k => k = X0.heap.size) hrdX (fun j h e => by omega) hz j hj))
        have hl70 := lt_of_block hb0
        have hcl := hn0.clt
        have hnl := hn0.nlt
        have HCA := Lib.hid hcA; clear hcA
        have HCB := Lib.hid hcB; clear hcB
        have HS := Lib.hid hS; clear hS
        have HX0 := Lib.hid hX0; clear hX0
        have HN0 := Lib.hid hn0; clear hn0
        have HB0 := Lib.hid hb0; clear hb0
        have FWX := Lib.hid fWX; clear fWX
        have HRD := Lib.hid hrd; clear hrd
        have FB := Lib.hid fB; clear fB
        have HX := Lib.hid hx; clear hx
        clear fX hr0 hrdX d0 d1 d2 d3 d4
        have hS := HS.out
        refine wp_region_held_drew (S := P12 X0 n7 b (off + k * 5) cap (.slice aL l.length cL) x ab cb) (by kernel_rfl) (by rw [← HX0.out]; exact hS) (fun hHeld => ?_)
        rw [← HX0.out] at hHeld ⊢
        refine take_op 0 51 (v := ?_) rfl rfl (by kernel_rfl) (by kernel_rfl) (by kernel_rfl) (fun _ _ _ h => h) (Or.inl ⟨by rfl, ?_⟩) (by assumption) ?_
        rotate_left 1
        · (intro w hSw; obtain ⟨s0, s1, s2, s3, s4, s5, s6, s7⟩ := hSw; clear s7; go_simp; (try with_reducible rfl))
        try simp only [Act.put, List.setIfInBounds_toArray, List.set_cons_zero, List.set_cons_succ]
        refine take_op 1 52 (v := ?_) rfl rfl (by kernel_rfl) (by kernel_rfl) (by kernel_rfl) (fun _ _ _ h => h) (Or.inl ⟨by rfl, ?_⟩) (by assumption) ?_
        rotate_left 1
        · (intro w hSw; obtain ⟨s0, s1, s2, s3, s4, s5, s6, s7⟩ := hSw; clear s7; go_simp; (try with_reducible rfl))
        try simp only [Act.put, List.setIfInBounds_toArray, List.set_cons_zero, List.set_cons_succ]
        refine take_op 2 53 (v := ?_) rfl rfl (by kernel_rfl) (by kernel_rfl) (by kernel_rfl) (fun _ _ _ h => h) (Or.inl ⟨by rfl, ?_⟩) (by assumption) ?_
        rotate_left 1
        · (intro w hSw; obtain ⟨s0, s1, s2, s3, s4, s5, s6, s7⟩ := hSw; clear s7; go_simp; (try with_reducible rfl))
        try simp only [Act.put, List.setIfInBounds_toArray, List.set_cons_zero, List.set_cons_succ]
        refine take_op 3 54 (v := ?_) rfl rfl (by kernel_rfl) (by kernel_rfl) (by kernel_rfl) (fun _ _ _ h => h) (Or.inl ⟨by rfl, ?_⟩) (by assumption) ?_
        rotate_left 1
        · (intro w hSw; obtain ⟨s0, s1, s2, s3, s4, s5, s6, s7⟩ := hSw; clear s7; go_simp; (try with_reducible rfl))
        try simp only [Act.put, List.setIfInBounds_toArray, List.set_cons_zero, List.set_cons_succ]
        refine take_op 4 55 (v := ?_) rfl rfl (by kernel_rfl) (by kernel_rfl) (by kernel_rfl) (fun _ _ _ h => h) (Or.inl ⟨by rfl, ?_⟩) (by assumption) ?_
        rotate_left 1
        · (intro w hSw; obtain ⟨s0, s1, s2, s3, s4, s5, s6, s7⟩ := hSw; clear s7; go_simp; (try with_reducible rfl))
        try simp only [Act.put, List.setIfInBounds_toArray, List.set_cons_zero, List.set_cons_succ]
        refine take_op 5 56 (v := ?_) rfl rfl (by kernel_rfl) (by kernel_rfl) (by kernel_rfl) (fun _ _ _ h => h) (Or.inl ⟨by rfl, ?_⟩) (by assumption) ?_
        rotate_left 1
        · (intro w hSw; obtain ⟨s0, s1, s2, s3, s4, s5, s6, s7⟩ := hSw; clear s7; go_simp; (try with_reducible rfl))
        try simp only [Act.put, List.setIfInBounds_toArray, List.set_cons_zero, List.set_cons_succ]
        clear hHeld
        refine wpAnyH_ready (rs := [6, 10]) (by kernel_rfl) (by simp) ?_
        refine AllReadyH.cons rfl (fun KK hK => ?_) (AllReadyH.cons rfl (fun KK hK => ?_) AllReadyH.nil)
        · go_simp
          go_wp2_with (go_at_call 39; refine HCA.out.mono ?_; rintro e X1 ⟨buf1, v1, rfl, hn1, hr1, hf1⟩)
          obtain ⟨av, cv, rfl⟩ := hr1.shape
          obtain ⟨l1, hl1⟩ : ∃ l1, l1 = actL cap l x := ⟨_, rfl⟩
          rw [← hl1] at hn1 hr1 ⊢
          clear hl1
          have hS1 := hS.keepCell (HN0.out.cells hf1) hf1.size
          have hs1 := hf1.size
          have h71 := hf1.blk HB0.out (fun h => by have h1 : n7 = ch := h; omega)
          have hw1 := FWX.out.trans hf1 fun i hi h => by have h1 : i = ch := h; omega
          have HN1 := Lib.hid hn1; clear hn1
          have HR1 := Lib.hid hr1; clear hr1
          have HW1 := Lib.hid hw1; clear hw1
          have H71 := Lib.hid h71; clear h71
          clear hf1
          refine hK.out _ _ hS1 (fun _ => ?_)
          clear hK KK
          try simp only [Act.put, List.setIfInBounds_toArray, List.set_cons_zero, List.set_cons_succ]
          refine take_op 7 50 (v := ?_) rfl rfl (by kernel_rfl) (by kernel_rfl) (by kernel_rfl) (fun _ _ _ h => h) (Or.inl ⟨by rfl, ?_⟩) (by assumption) ?_
          rotate_left 1
          · (intro w hSw; obtain ⟨s0, s1, s2, s3, s4, s5, s6, s7⟩ := hSw; clear s7; go_simp; (try with_reducible rfl))
          try simp only [Act.put, List.setIfInBounds_toArray, List.set_cons_zero, List.set_cons_succ]
          refine take_op 8 58 (v := ?_) rfl rfl (by kernel_rfl) (by kernel_rfl) (by kernel_rfl) (fun _ _ _ h => h) (Or.inl ⟨by rfl, ?_⟩) (by assumption) ?_
          rotate_left 1
          · (intro w hSw; obtain ⟨s0, s1, s2, s3, s4, s5, s6, s7⟩ := hSw; clear s7; go_simp; (try with_reducible rfl))
          try simp only [Act.put, List.setIfInBounds_toArray, List.set_cons_zero, List.set_cons_succ]
          refine take_op 9 59 (v := ?_) rfl rfl (by kernel_rfl) (by kernel_rfl) (by kernel_rfl) (fun _ _ _ h => h) (Or.inl ⟨by rfl, ?_⟩) (by assumption) ?_
          rotate_left 1
          · (intro w hSw; obtain ⟨s0, s1, s2, s3, s4, s5, s6, s7⟩ := hSw; clear s7; go_simp; (try with_reducible rfl))
          try simp only [Act.put, List.setIfInBounds_toArray, List.set_cons_zero, List.set_cons_succ]
          refine wpAnyH_ready (rs := [10]) (by kernel_rfl) (by simp) ?_
          refine AllReadyH.cons rfl (fun KK hK => ?_) AllReadyH.nil
          go_simp
          have fE : Frm (fun _ => False) X1 (X1.alloc (.cells #[.int .i64 0, .slice none 0 0] 76)) := Frm.alloc _ X1 _
          have hz := heap_alloc_new X1 (.cells #[.int .i64 0, .slice none 0 0] 76)
          have hS3 := hS1.keep fE (fun i h => h.elim)
          have hn3 := HN1.out.keep0 fE
          have hr3 := (HR1.out.or (M := fun k => k = X1.heap.size) (fun j h e => by omega)).keepCell fE.cells0
          have hw3 := HW1.out.trans fE fun _ _ h => h
          have h73 := fE.blk H71.out id
          have hc3 := HN1.out.clt
          have hnl3 := HN1.out.nlt
          have hlt3 := lt_of_block H71.out
          have hWs := HW1.out.size
          refine hK.out _ _ hS3 (fun _ => ?_)
          clear hK KK fE hS1 hS
          generalize hX2 : X1.alloc (.cells #[.int .i64 0, .slice none 0 0] 76) = X2 at *
          clear hX2
          try simp only [Act.put, List.setIfInBounds_toArray, List.set_cons_zero, List.set_cons_succ]
          refine wpAnyH_ready (rs := [11]) (by kernel_rfl) (by simp) ?_
          refine AllReadyH.cons rfl (fun KK hK => ?_) AllReadyH.nil
          have e0 : X2.cell? ⟨X1.heap.size, 0, none⟩ = some (.int .i64 0) := cell_at hz 0 rfl
          have e1 : X2.cell? ⟨X1.heap.size, 1, none⟩ = some (.slice none 0 0) := cell_at hz 1 rfl
          have e2 := free_at hz 0
          have e3 := free_at hz 1
          have f := frm_set2 X2 (X1.heap.size) (.int .i64 cap) (.slice av l1.length cv)
          have z := set_at (set_at hz 0 (.int .i64 cap)) 1 (.slice av l1.length cv)
          have hS4 := hS3.keep f (fun i hi => by have h1 : i = X1.heap.size := hi; have := hS3.siz; omega)
          have hnet := hn3.keep f (fun h => by have h1 : nb = X1.heap.size := h; omega) (fun h => by have h1 : ch = X1.heap.size := h; omega) (fun i hi => .inr fun cur hc => by have h1 : i = X1.heap.size := hi; rw [h1, hz] at hc; cases hc)
          have href := (hr3.keepNo fun p u hp hu => f.cell' hu (fun h => hp (.inr h))).sub (M := fun k => k = n7) (fun k h => .inl h)
          have hfr := hw3.trans f fun i hi h => by have h1 : i = X1.heap.size := h; omega
          have h7 := f.blk h73 (fun h => by have h1 : n7 = X1.heap.size := h; omega)
          have HNET := Lib.hid hnet; clear hnet
          have HREF := Lib.hid href; clear href
          have HFR := Lib.hid hfr; clear hfr
          have HZ := Lib.hid z; clear z
          have H7 := Lib.hid h7; clear h7
          clear hz f hn3 hr3 hw3 h73
          go_simp
          refine hK.out _ _ hS4 (fun _ => ?_)
          clear hK KK e0 e1 e2 e3
          try simp only [Act.put, List.setIfInBounds_toArray, List.set_cons_zero, List.set_cons_succ]
          refine take_op 12 10 (v := .bool true) rfl rfl (by kernel_rfl) (by kernel_rfl) (by kernel_rfl) (fun _ _ _ h => h) (Or.inl ⟨by rfl, ?_⟩) (by assumption) ?_
          · (intro w hSw; obtain ⟨s0, s1, s2, s3, s4, s5, s6, s7⟩ := hSw; clear s7; go_simp; (try with_reducible rfl))
          try simp only [Act.put, List.setIfInBounds_toArray, List.set_cons_zero, List.set_cons_succ]
          refine wpAnyH_done (by kernel_rfl) ?_ _
          go_wp2_with fail
          go_meet
          case rel => exact ⟨X1.heap.size, buf1, l1, av, cv, rfl, rfl, HNET.out, HZ.out, HREF.out, ⟨_, _, H7.out⟩, by omega, HFR.out⟩
        · go_simp
          have hz0 := heap_alloc_new X0 (.cells #[.int .i64 0, .slice none 0 0] 76)
          have hS1 := hS.keep FB.out (fun i h => h.elim)
          have hnB := HN0.out.keep0 FB.out
          have hwB := FWX.out.trans FB.out fun _ _ h => h
          have h7B := FB.out.blk HB0.out id
          refine hK.out _ _ hS1 (fun _ => ?_)
          clear hK KK hS
          generalize hX1 : X0.alloc (.cells #[.int .i64 0, .slice none 0 0] 76) = X1 at *
          clear hX1
          try simp only [Act.put, List.setIfInBounds_toArray, List.set_cons_zero, List.set_cons_succ]
          refine wpAnyH_ready (rs := [6]) (by kernel_rfl) (by simp) ?_
          refine AllReadyH.cons rfl (fun KK hK => ?_) AllReadyH.nil
          go_simp
          go_wp2_with (go_at_call 39; refine HCB.out.mono ?_; rintro e X2 ⟨buf1, v1, rfl, hn3, hr3, hf1⟩)
          obtain ⟨av, cv, rfl⟩ := hr3.shape
          obtain ⟨l1, hl1⟩ : ∃ l1, l1 = actL cap l x := ⟨_, rfl⟩
          rw [← hl1] at hn3 hr3 ⊢
          clear hl1
          have hS3 := hS1.keepCell (hnB.cells hf1) hf1.size
          have hz := hf1.blk hz0 (fun h => by have h1 : X0.heap.size = ch := h; omega)
          have h73 := hf1.blk h7B (fun h => by have h1 : n7 = ch := h; omega)
          have hw3 := hwB.trans hf1 fun i hi h => by have h1 : i = ch := h; omega
          have hWs := FWX.out.size
          clear hS1 hnB hwB h7B hz0 hf1
          refine hK.out _ _ hS3 (fun _ => ?_)
          clear hK KK
          try simp only [Act.put, List.setIfInBounds_toArray, List.set_cons_zero, List.set_cons_succ]
          refine take_op 7 50 (v := ?_) rfl rfl (by kernel_rfl) (by kernel_rfl) (by kernel_rfl) (fun _ _ _ h => h) (Or.inl ⟨by rfl, ?_⟩) (by assumption) ?_
          rotate_left 1
          · (intro w hSw; obtain ⟨s0, s1, s2, s3, s4, s5, s6, s7⟩ := hSw; clear s7; go_simp; (try with_reducible rfl))
          try simp only [Act.put, List.setIfInBounds_toArray, List.set_cons_zero, List.set_cons_succ]
          refine take_op 8 58 (v := ?_) rfl rfl (by kernel_rfl) (by kernel_rfl) (by kernel_rfl) (fun _ _ _ h => h) (Or.inl ⟨by rfl, ?_⟩) (by assumption) ?_
          rotate_left 1
          · (intro w hSw; obtain ⟨s0, s1, s2, s3, s4, s5, s6, s7⟩ := hSw; clear s7; go_simp; (try with_reducible rfl))
          try simp only [Act.put, List.setIfInBounds_toArray, List.set_cons_zero, List.set_cons_succ]
          refine take_op 9 59 (v := ?_) rfl rfl (by kernel_rfl) (by kernel_rfl) (by kernel_rfl) (fun _ _ _ h => h) (Or.inl ⟨by rfl, ?_⟩) (by assumption) ?_
          rotate_left 1
          · (intro w hSw; obtain ⟨s0, s1, s2, s3, s4, s5, s6, s7⟩ := hSw; clear s7; go_simp; (try with_reducible rfl))
          try simp only [Act.put, List.setIfInBounds_toArray, List.set_cons_zero, List.set_cons_succ]
          refine wpAnyH_ready (rs := [11]) (by kernel_rfl) (by simp) ?_
          refine AllReadyH.cons rfl (fun KK hK => ?_) AllReadyH.nil
          have e0 : X2.cell? ⟨X0.heap.size, 0, none⟩ = some (.int .i64 0) := cell_at hz 0 rfl
          have e1 : X2.cell? ⟨X0.heap.size, 1, none⟩ = some (.slice none 0 0) := cell_at hz 1 rfl
          have e2 := free_at hz 0
          have e3 := free_at hz 1
          have f := frm_set2 X2 (X0.heap.size) (.int .i64 cap) (.slice av l1.length cv)
          have z := set_at (set_at hz 0 (.int .i64 cap)) 1 (.slice av l1.length cv)
          have hS4 := hS3.keep f (fun i hi => by have h1 : i = X0.heap.size := hi; have := hS3.siz; omega)
          have hnet := hn3.keep f (fun h => by have h1 : nb = X0.heap.size := h; omega) (fun h => by have h1 : ch = X0.heap.size := h; omega) (fun i hi => .inr fun cur hc => by have h1 : i = X0.heap.size := hi; rw [h1, hz] at hc; cases hc)
          have href := (hr3.keepNo fun p u hp hu => f.cell' hu (fun h => hp (.inr h))).sub (M := fun k => k = n7) (fun k h => .inl h)
          have hfr := hw3.trans f fun i hi h => by have h1 : i = X0.heap.size := h; omega
          have h7 := f.blk h73 (fun h => by have h1 : n7 = X0.heap.size := h; omega)
          have HNET := Lib.hid hnet; clear hnet
          have HREF := Lib.hid href; clear href
          have HFR := Lib.hid hfr; clear hfr
          have HZ := Lib.hid z; clear z
          have H7 := Lib.hid h7; clear h7
          clear hz f hn3 hr3 hw3 h73
          go_simp
          refine hK.out _ _ hS4 (fun _ => ?_)
          clear hK KK e0 e1 e2 e3
          try simp only [Act.put, List.setIfInBounds_toArray, List.set_cons_zero, List.set_cons_succ]
          refine take_op 12 10 (v := .bool true) rfl rfl (by kernel_rfl) (by kernel_rfl) (by kernel_rfl) (fun _ _ _ h => h) (Or.inl ⟨by rfl, ?_⟩) (by assumption) ?_
          · (intro w hSw; obtain ⟨s0, s1, s2, s3, s4, s5, s6, s7⟩ := hSw; clear s7; go_simp; (try with_reducible rfl))
          try simp only [Act.put, List.setIfInBounds_toArray, List.set_cons_zero, List.set_cons_succ]
          refine wpAnyH_done (by kernel_rfl) ?_ _
          go_wp2_with fail
          go_meet
          case rel => exact ⟨X0.heap.size, buf1, l1, av, cv, rfl, rfl, HNET.out, HZ.out, HREF.out, ⟨_, _, H7.out⟩, by omega, HFR.out⟩
      case rest =>
        obtain ⟨n9, buf2, l2, aL2, cL2, rfl, rfl, hn, hb9, hr, h7, hne, hf⟩ := hcut
        have hxk := HFEW.out.1
        obtain ⟨X0, hX0⟩ : ∃ X0, X0 = wc.drew := ⟨_, rfl⟩
        have fX : Frm (fun _ => False) wc X0 := by rw [hX0]; exact Frm.drew _ _
        have hn0 := hn.keep0 fX
        have hl64 : l2.length ≤ 1000 := by have := hn.pars.1; have := hn.room; have := hn.capb; omega
        have hlenc := net_len X0 nb ch cap _ _ hn0
        have hall := all_any X0 nb ch cap _ _ hn0
        have hr0 := hr.keepCell fX.cells0
        have hb0 := fX.blk hb9 id
        obtain ⟨p7, q7, h7⟩ := h7
        have h70 := fX.blk h7 id
        have f0 := hf.trans fX fun _ _ h => h
        have hcl := hn0.clt
        have hnl := hn0.nlt
        have hc9 := hn0.ne
        have hS : P13 n9 (.slice aL2 l2.length cL2) X0 := ⟨cell_at hb0 1 rfl, trivial⟩
        have h9c : n9 ≠ ch := fun e => by
          obtain ⟨s, r, hc⟩ := hn0.chan
          rw [e, hc] at hb0
          cases hb0
        have h7c : n7 ≠ ch := fun e => by
          obtain ⟨s, r, hc⟩ := hn0.chan
          rw [e, hc] at h70
          cases h70
        have h7n : n7 ≠ nb := by omega
        have HLENC := Lib.hid hlenc; clear hlenc
        have HALL := Lib.hid hall; clear hall
        have HR0 := Lib.hid hr0; clear hr0
        have HB0 := Lib.hid hb0; clear hb0
        have H70 := Lib.hid h70; clear h70
        have F0 := Lib.hid f0; clear f0
        have HN0 := Lib.hid hn0; clear hn0
        have HX0 := Lib.hid hX0; clear hX0
        have HS := Lib.hid hS; clear hS
        clear hn hr hb9 h7 hf fX hx d0 d1 d2 d3 d4 hrd
        go_wp2_with fail
        have hS := HS.out
        refine wp_region_held_drew (S := P13 n9 (.slice aL2 l2.length cL2)) (by kernel_rfl) (by rw [← HX0.out]; exact hS) (fun hHeld => ?_)
        rw [← HX0.out] at hHeld ⊢
        refine take_op 0 60 (v := ?_) rfl rfl (by kernel_rfl) (by kernel_rfl) (by kernel_rfl) (fun _ _ _ h => h) (Or.inl ⟨by rfl, ?_⟩) (by assumption) ?_
        rotate_left 1
        · (intro w hSw; obtain ⟨s0, s1⟩ := hSw; clear s1; go_simp; (try with_reducible rfl))
        try simp only [Act.put, List.setIfInBounds_toArray, List.set_cons_zero, List.set_cons_succ]
        refine take_op 1 61 (v := ?_) rfl rfl (by kernel_rfl) (by kernel_rfl) (by kernel_rfl) (fun _ _ _ h => h) (Or.inl ⟨by rfl, ?_⟩) (by assumption) ?_
        rotate_left 1
        · (intro w hSw; obtain ⟨s0, s1⟩ := hSw; clear s1; go_simp; (try with_reducible rfl))
        try simp only [Act.put, List.setIfInBounds_toArray, List.set_cons_zero, List.set_cons_succ]
        refine take_op 2 62 (v := ?_) rfl rfl (by kernel_rfl) (by kernel_rfl) (by kernel_rfl) (fun _ _ _ h => h) (Or.inl ⟨by rfl, ?_⟩) (by assumption) ?_
        rotate_left 1
        · (intro w hSw; obtain ⟨s0, s1⟩ := hSw; clear s1; go_simp; (try with_reducible rfl))
        try simp only [Act.put, List.setIfInBounds_toArray, List.set_cons_zero, List.set_cons_succ]
        refine take_op 3 63 (v := ?_) rfl rfl (by kernel_rfl) (by kernel_rfl) (by kernel_rfl) (fun _ _ _ h => h) (Or.inl ⟨by rfl, ?_⟩) (by assumption) ?_
        rotate_left 1
        · (intro w hSw; obtain ⟨s0, s1⟩ := hSw; clear s1; go_simp; (try with_reducible rfl))
        try simp only [Act.put, List.setIfInBounds_toArray, List.set_cons_zero, List.set_cons_succ]
        refine take_op 5 65 (v := ?_) rfl rfl (by kernel_rfl) (by kernel_rfl) (by kernel_rfl) (fun _ _ _ h => h) (Or.inl ⟨by rfl, ?_⟩) (by assumption) ?_
        rotate_left 1
        · (intro w hSw; obtain ⟨s0, s1⟩ := hSw; clear s1; go_simp; (try with_reducible rfl))
        try simp only [Act.put, List.setIfInBounds_toArray, List.set_cons_zero, List.set_cons_succ]
        refine take_op 6 66 (v := ?_) rfl rfl (by kernel_rfl) (by kernel_rfl) (by kernel_rfl) (fun _ _ _ h => h) (Or.inl ⟨by rfl, ?_⟩) (by assumption) ?_
        rotate_left 1
        · (intro w hSw; obtain ⟨s0, s1⟩ := hSw; clear s1; go_simp; (try with_reducible rfl))
        try simp only [Act.put, List.setIfInBounds_toArray, List.set_cons_zero, List.set_cons_succ]
        refine take_op 7 67 (v := ?_) rfl rfl (by kernel_rfl) (by kernel_rfl) (by kernel_rfl) (fun _ _ _ h => h) (Or.inl ⟨by rfl, ?_⟩) (by assumption) ?_
        rotate_left 1
        · (intro w hSw; obtain ⟨s0, s1⟩ := hSw; clear s1; go_simp; (try with_reducible rfl))
        try simp only [Act.put, List.setIfInBounds_toArray, List.set_cons_zero, List.set_cons_succ]
        clear hHeld
        refine wpAnyH_ready (rs := [4]) (by kernel_rfl) (by simp) ?_
        refine AllReadyH.cons rfl (fun KK hK => ?_) AllReadyH.nil
        go_simp
        go_wp2_with (go_at_call 24; refine HLENC.out.mono ?_; rintro e w5 ⟨rfl, hw5⟩)
        rw [← hw5]
        clear hw5
        refine hK.out _ _ hS (fun _ => ?_)
        clear hK KK
        try simp only [Act.put, List.setIfInBounds_toArray, List.set_cons_zero, List.set_cons_succ]
        refine take_op 8 68 (v := ?_) rfl rfl (by kernel_rfl) (by kernel_rfl) (by kernel_rfl) (fun _ _ _ h => h) (Or.inl ⟨by rfl, ?_⟩) (by assumption) ?_
        rotate_left 1
        · (intro w hSw; obtain ⟨s0, s1⟩ := hSw; clear s1; go_simp; (try with_reducible rfl))
        try simp only [Act.put, List.setIfInBounds_toArray, List.set_cons_zero, List.set_cons_succ]
        refine take_op 9 69 (v := ?_) rfl rfl (by kernel_rfl) (by kernel_rfl) (by kernel_rfl) (fun _ _ _ h => h) (Or.inl ⟨by rfl, ?_⟩) (by assumption) ?_
        rotate_left 1
        · (intro w hSw; obtain ⟨s0, s1⟩ := hSw; clear s1; go_simp; (try with_reducible rfl))
        try simp only [Act.put, List.setIfInBounds_toArray, List.set_cons_zero, List.set_cons_succ]
        refine take_op 10 70 (v := ?_) rfl rfl (by kernel_rfl) (by kernel_rfl) (by kernel_rfl) (fun _ _ _ h => h) (Or.inl ⟨by rfl, ?_⟩) (by assumption) ?_
        rotate_left 1
        · (intro w hSw; obtain ⟨s0, s1⟩ := hSw; clear s1; go_simp; (try with_reducible rfl))
        try simp only [Act.put, List.setIfInBounds_toArray, List.set_cons_zero, List.set_cons_succ]
        refine take_op 11 71 (v := ?_) rfl rfl (by kernel_rfl) (by kernel_rfl) (by kernel_rfl) (fun _ _ _ h => h) (Or.inl ⟨by rfl, ?_⟩) (by assumption) ?_
        rotate_left 1
        · (intro w hSw; obtain ⟨s0, s1⟩ := hSw; clear s1; go_simp; (try with_reducible rfl))
        try simp only [Act.put, List.setIfInBounds_toArray, List.set_cons_zero, List.set_cons_succ]
        refine take_op 14 74 (v := ?_) rfl rfl (by kernel_rfl) (by kernel_rfl) (by kernel_rfl) (fun _ _ _ h => h) (Or.inl ⟨by rfl, ?_⟩) (by assumption) ?_
        rotate_left 1
        · (intro w hSw; obtain ⟨s0, s1⟩ := hSw; clear s1; go_simp; (try with_reducible rfl))
        try simp only [Act.put, List.setIfInBounds_toArray, List.set_cons_zero, List.set_cons_succ]
        refine take_op 15 75 (v := ?_) rfl rfl (by kernel_rfl) (by kernel_rfl) (by kernel_rfl) (fun _ _ _ h => h) (Or.inl ⟨by rfl, ?_⟩) (by assumption) ?_
        rotate_left 1
        · (intro w hSw; obtain ⟨s0, s1⟩ := hSw; clear s1; go_simp; (try with_reducible rfl))
        try simp only [Act.put, List.setIfInBounds_toArray, List.set_cons_zero, List.set_cons_succ]
        refine wpAnyH_ready (rs := [12]) (by kernel_rfl) (by simp) ?_
        refine AllReadyH.cons rfl (fun KK hK => ?_) AllReadyH.nil
        go_simp
        go_wp2_with (go_at_call 25; refine HALL.out.mono ?_; rintro e w6 ⟨v6, outs, rfl, hn6, hf6, hol, hoa⟩)
        have hS6 : P13 n9 (.slice aL2 l2.length cL2) w6 := ⟨hf6.cell' hS.c1 h9c, trivial⟩
        have hof := of_any w6 v6 l2 (RefAt.outs hoa hol) hl64
        have hr6 := HR0.out.keepCell (HN0.out.cells hf6)
        have hb6 := hf6.blk HB0.out h9c
        have h76 := hf6.blk H70.out h7c
        have f6 := F0.out.trans hf6 fun i hi h => by have h1 : i = ch := h; omega
        have HOF := Lib.hid hof; clear hof
        have HN6 := Lib.hid hn6; clear hn6
        have HR6 := Lib.hid hr6; clear hr6
        have HB6 := Lib.hid hb6; clear hb6
        have H76 := Lib.hid h76; clear h76
        have F6 := Lib.hid f6; clear f6
        clear hf6 hol hoa
        refine hK.out _ _ hS6 (fun _ => ?_)
        clear hK KK hS
        try simp only [Act.put, List.setIfInBounds_toArray, List.set_cons_zero, List.set_cons_succ]
        refine wpAnyH_ready (rs := [13]) (by kernel_rfl) (by simp) ?_
        refine AllReadyH.cons rfl (fun KK hK => ?_) AllReadyH.nil
        go_simp
        go_wp2_with (go_at_call 41; refine HOF.out.mono ?_; rintro e w7 ⟨v7, rfl, hr7, hf7⟩)
        have hS7 : P13 n9 (.slice aL2 l2.length cL2) w7 := ⟨hf7.cell' hS6.c1 id, trivial⟩
        have hsm := same_yes w7 v7 (.slice aL2 l2.length cL2) l2 hr7 (HR6.out.weak.keepCell hf7.cells0)
        have hr8 := HR6.out.keepCell hf7.cells0
        have hn8 := HN6.out.keep0 hf7
        have hb8 := hf7.blk HB6.out id
        have h78 := hf7.blk H76.out id
        have f8 := F6.out.trans hf7 fun _ _ h => h
        have HSM := Lib.hid hsm; clear hsm
        have HN8 := Lib.hid hn8; clear hn8
        have HR8 := Lib.hid hr8; clear hr8
        have HB8 := Lib.hid hb8; clear hb8
        have H78 := Lib.hid h78; clear h78
        have F8 := Lib.hid f8; clear f8
        clear hr7 hf7
        refine hK.out _ _ hS7 (fun _ => ?_)
        clear hK KK hS6
        try simp only [Act.put, List.setIfInBounds_toArray, List.set_cons_zero, List.set_cons_succ]
        refine wpAnyH_ready (rs := [16]) (by kernel_rfl) (by simp) ?_
        refine AllReadyH.cons rfl (fun KK hK => ?_) AllReadyH.nil
        go_simp
        go_wp2_with (go_at_call 40; refine HSM.out.mono ?_; rintro e w9 ⟨rfl, nq, rfl⟩)
        have fq : Frm (fun _ => False) w7 (w7.drewN nq) := Frm.drewN _ _ _
        have hS9 : P13 n9 (.slice aL2 l2.length cL2) (w7.drewN nq) := ⟨fq.cell' hS7.c1 id, trivial⟩
        have HN9 := Lib.hid (HN8.out.keep0 fq)
        have HR9 := Lib.hid (HR8.out.keepCell fq.cells0)
        have HB9 := Lib.hid (fq.blk HB8.out id)
        have H79 := Lib.hid (fq.blk H78.out id)
        have F9 := Lib.hid (F8.out.trans fq fun _ _ h => h)
        refine hK.out _ _ hS9 (fun _ => ?_)
        clear hK KK hS7 fq
        generalize w7.drewN nq = w9 at *
        try simp only [Act.put, List.setIfInBounds_toArray, List.set_cons_zero, List.set_cons_succ]
        refine take_op 17 77 (v := ?_) rfl rfl (by kernel_rfl) (by kernel_rfl) (by kernel_rfl) (fun _ _ _ h => h) (Or.inl ⟨by rfl, ?_⟩) (by assumption) ?_
        rotate_left 1
        · (intro w hSw; obtain ⟨s0, s1⟩ := hSw; clear s1; go_simp; (try with_reducible rfl))
        try simp only [Act.put, List.setIfInBounds_toArray, List.set_cons_zero, List.set_cons_succ]
        refine take_op 18 78 (v := ?_) rfl rfl (by kernel_rfl) (by kernel_rfl) (by kernel_rfl) (fun _ _ _ h => h) (Or.inl ⟨by rfl, ?_⟩) (by assumption) ?_
        rotate_left 1
        · (intro w hSw; obtain ⟨s0, s1⟩ := hSw; clear s1; go_simp; (try with_reducible rfl))
        try simp only [Act.put, List.setIfInBounds_toArray, List.set_cons_zero, List.set_cons_succ]
        refine wpAnyH_done (by kernel_rfl) ?_ _
        clear hS9
        have e0 : w9.cell? ⟨n9, 0, none⟩ = some (.int .i64 cap) := cell_at HB9.out 0 rfl
        have e1 : w9.cell? ⟨n9, 1, none⟩ = some (.slice aL2 l2.length cL2) := cell_at HB9.out 1 rfl
        have e2 : w9.cell? ⟨n7, 0, none⟩ = some p7 := cell_at H79.out 0 rfl
        have e3 : w9.cell? ⟨n7, 1, none⟩ = some q7 := cell_at H79.out 1 rfl
        have e4 := free_at H79.out 0
        have e5 := free_at H79.out 1
        go_wp2
        go_roundw
        case rel =>
          have f := frm_set2 w9 n7 (.int .i64 cap) (.slice aL2 l2.length cL2)
          have z := set_at (set_at H79.out 0 (.int .i64 cap)) 1 (.slice aL2 l2.length cL2)
          refine ⟨k + 1, buf2, l2, aL2, cL2, by omega, by go_num, HN9.out.keep f (fun h => h7n h.symm) (fun h => h7c h.symm) (fun i hi => .inr fun cur hc => ?_), z, HR9.out.keepNo fun p u hp hu => f.cell' hu hp, F9.out.trans f fun i hi h => by have h1 : i = n7 := h; omega⟩
          have h1 : i = n7 := hi
          rw [h1, H79.out] at hc
          cases hc
        case measure => simp [intOf]; omega
    · obtain rfl : k = acts.length := by omega
      go_wp2
      go_ret
      exact ⟨rfl, HF.out⟩

end Go.Proofs.Ytclihppeaikhiaa
