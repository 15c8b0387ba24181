/- Words for the law BundleGets: BunP. -/
import Derived.Test.YtafdclkpeomomaaGreatBundleGetsG18
import Derived.Test.YtafdclkpeomomaaGreatBundleGetsG19
set_option linter.unusedSimpArgs false
set_option linter.unusedVariables false
/- bundle: names, own, may: the walks. Printed by wip/bungen.py. -/
namespace Go.Proofs.YtafdclkpeomomaaGreat
open Go.RowKit

set_option maxHeartbeats 4000000 in
set_option maxRecDepth 1000000 in
theorem bnames_any (w : World) (dc af la v0 v1 v2 v3 : Int) (a0 a1 a2 : Option Addr) (n m k c0 c1 c2 : Nat) :
    Calls Tryz.prog 110 #[.agg #[.int .i64 dc, .int .i64 af, .int .i64 la, .int .i64 v0, .int .i64 v1, .int .i64 v2, .int .i64 v3, .slice a0 n c0, .slice a1 m c1, .slice a2 k c2]] w fun e w' => e = .returned (.bool (tf (BunNums dc af la (vecF v0 v1 v2 v3)))) ∧ Frm NoS w w' := by
  obtain ⟨α, hne, K, hK1, hK0, hK2⟩ := worlds (w.alloc (.cells #[.int .i64 dc, .int .i64 af, .int .i64 la, .int .i64 v0, .int .i64 v1, .int .i64 v2, .int .i64 v3, .slice a0 n c0, .slice a1 m c1, .slice a2 k c2] 52))
  have kb := fun s => box10 w _ _ _ _ _ _ _ _ _ _ _ (K s) (hK1 s)
  have k0 := fun s => (kb s).1
  have k1 := fun s => (kb s).2.1
  have k2 := fun s => (kb s).2.2.1
  have k3 := fun s => (kb s).2.2.2.1
  have k4 := fun s => (kb s).2.2.2.2.1
  have k5 := fun s => (kb s).2.2.2.2.2.1
  have k6 := fun s => (kb s).2.2.2.2.2.2.1
  have k7 := fun s => (kb s).2.2.2.2.2.2.2.1
  have k8 := fun s => (kb s).2.2.2.2.2.2.2.2.1
  have k9 := fun s => (kb s).2.2.2.2.2.2.2.2.2
  clear kb
  cases h0 : decide (dc < 0) with
  | true =>
    rw [tf_false (fun h => by obtain ⟨g0, g1, g2, g3, g4, g5, g6⟩ := h; simp at h0; omega)]
    go_enter Tryz.func110, Tryz.ntmps110
    go_wp2_with fail
    refine wp_region_new K (by kernel_rfl) (by kernel_rfl) hK0 ?_
    repeat (go_big_quiet_step (fail))
    refine wpQuiet_nil ?_
    intro w' hw'
    obtain ⟨s, rfl⟩ := hw'
    have hfs := (Frm.alloc NoS w _).then1 (hK1 s)
    go_wp2
    go_ret
    exact ⟨rfl, hfs⟩
  | false =>
    cases h1 : decide (4 ≤ dc) with
    | true =>
      rw [tf_false (fun h => by obtain ⟨g0, g1, g2, g3, g4, g5, g6⟩ := h; simp at h1; omega)]
      go_enter Tryz.func110, Tryz.ntmps110
      go_wp2_with fail
      refine wp_region_new K (by kernel_rfl) (by kernel_rfl) hK0 ?_
      repeat (go_big_quiet_step (fail))
      refine wpQuiet_nil ?_
      intro w' hw'
      obtain ⟨s, rfl⟩ := hw'
      have hfs := (Frm.alloc NoS w _).then1 (hK1 s)
      go_wp2
      go_ret
      exact ⟨rfl, hfs⟩
    | false =>
      cases h2 : decide (af < 0) with
      | true =>
        rw [tf_false (fun h => by obtain ⟨g0, g1, g2, g3, g4, g5, g6⟩ := h; simp at h2; omega)]
        go_enter Tryz.func110, Tryz.ntmps110
        go_wp2_with fail
        refine wp_region_new K (by kernel_rfl) (by kernel_rfl) hK0 ?_
        repeat (go_big_quiet_step (fail))
        refine wpQuiet_nil ?_
        intro w' hw'
        obtain ⟨s, rfl⟩ := hw'
        have hfs := (Frm.alloc NoS w _).then1 (hK1 s)
        go_wp2
        go_ret
        exact ⟨rfl, hfs⟩
      | false =>
        cases h3 : decide (la ≤ af) with
        | true =>
          rw [tf_false (fun h => by obtain ⟨g0, g1, g2, g3, g4, g5, g6⟩ := h; simp at h3; omega)]
          go_enter Tryz.func110, Tryz.ntmps110
          go_wp2_with fail
          refine wp_region_new K (by kernel_rfl) (by kernel_rfl) hK0 ?_
          repeat (go_big_quiet_step (fail))
          refine wpQuiet_nil ?_
          intro w' hw'
          obtain ⟨s, rfl⟩ := hw'
          have hfs := (Frm.alloc NoS w _).then1 (hK1 s)
          go_wp2
          go_ret
          exact ⟨rfl, hfs⟩
        | false =>
          cases h4 : decide (1099511627776 < la) with
          | true =>
            rw [tf_false (fun h => by obtain ⟨g0, g1, g2, g3, g4, g5, g6⟩ := h; simp at h4; omega)]
            go_enter Tryz.func110, Tryz.ntmps110
            go_wp2_with fail
            refine wp_region_new K (by kernel_rfl) (by kernel_rfl) hK0 ?_
            repeat (go_big_quiet_step (fail))
            refine wpQuiet_nil ?_
            intro w' hw'
            obtain ⟨s, rfl⟩ := hw'
            have hfs := (Frm.alloc NoS w _).then1 (hK1 s)
            go_wp2
            go_ret
            exact ⟨rfl, hfs⟩
          | false =>
            obtain ⟨dn, hdn⟩ : ∃ dn : Nat, dc = dn := ⟨dc.toNat, by simp at h0; omega⟩
            subst hdn
            have hd4 : dn < 4 := by simp at h1; omega
            have kd : ∀ s, (K s).cell? ⟨w.heap.size, 3 + dn, none⟩ = some (.int .i64 (vecF v0 v1 v2 v3 dn)) := fun s => by
              rcases (by omega : dn = 0 ∨ dn = 1 ∨ dn = 2 ∨ dn = 3) with rfl | rfl | rfl | rfl
              · exact k3 s
              · exact k4 s
              · exact k5 s
              · exact k6 s
            have hd4i : (dn : Int) < 4 := by omega
            have hd4b : decide ((dn : Int) < 4) = true := by simpa using hd4i
            obtain ⟨fd, hfd⟩ : ∃ fd, fd = vecF v0 v1 v2 v3 dn := ⟨_, rfl⟩
            rw [← hfd] at kd
            have HFD := Lib.hid hfd; clear hfd
            cases h5 : decide (af < fd) with
            | true =>
              rw [tf_false (fun h => by obtain ⟨g0, g1, g2, g3, g4, g5, g6⟩ := h; simp at h5; have := HFD.out; omega)]
              go_enter Tryz.func110, Tryz.ntmps110
              go_wp2_with fail
              refine wp_region_new K (by kernel_rfl) (by kernel_rfl) hK0 ?_
              repeat (go_big_quiet_step (fail))
              refine wpQuiet_nil ?_
              intro w' hw'
              obtain ⟨s, rfl⟩ := hw'
              have hfs := (Frm.alloc NoS w _).then1 (hK1 s)
              go_wp2
              go_ret
              exact ⟨rfl, hfs⟩
            | false =>
              by_cases hm : MayV (vecF v0 v1 v2 v3)
              · rw [tf_true (show BunNums dn af la (vecF v0 v1 v2 v3) from by simp at h1 h2 h3 h4 h5; have := HFD.out; exact ⟨by omega, by omega, h2, h3, h4, by omega, hm⟩)]
                go_enter Tryz.func110, Tryz.ntmps110
                go_wp2_with fail
                refine wp_region_new K (by kernel_rfl) (by kernel_rfl) hK0 ?_
                repeat (go_big_quiet_step (fail))
                refine wpQuiet_nil ?_
                intro w' hw'
                obtain ⟨s, rfl⟩ := hw'
                have hfs := (Frm.alloc NoS w _).then1 (hK1 s)
                go_wp2_with (go_at_call 90; go_loud (refine (cFull_any _ v0 v1 v2 v3).mono ?_); rintro e w2 ⟨hf2, hp1, hp2⟩; obtain ⟨v', rfl, ho, -⟩ := hp1 hm; obtain ⟨a', c', rfl⟩ := ho.shape; have HF2 := Lib.hid hf2; clear hf2 hp1 hp2)
                go_ret
                exact ⟨rfl, hfs.then1 HF2.out⟩
              · rw [tf_false (fun h => hm h.2.2.2.2.2.2)]
                go_enter Tryz.func110, Tryz.ntmps110
                go_wp2_with fail
                refine wp_region_new K (by kernel_rfl) (by kernel_rfl) hK0 ?_
                repeat (go_big_quiet_step (fail))
                refine wpQuiet_nil ?_
                intro w' hw'
                obtain ⟨s, rfl⟩ := hw'
                have hfs := (Frm.alloc NoS w _).then1 (hK1 s)
                go_wp2_with (go_at_call 90; go_loud (refine (cFull_any _ v0 v1 v2 v3).mono ?_); rintro e w2 ⟨hf2, hp1, hp2⟩; obtain rfl := hp2 hm; have HF2 := Lib.hid hf2; clear hf2 hp1 hp2)
                go_ret
                exact ⟨rfl, hfs.then1 HF2.out⟩
set_option maxRecDepth 1000000 in
theorem bown_ok (w : World) (dc af la v0 v1 v2 v3 : Int) (a0 a1 a2 : Option Addr) (n m k c0 c1 c2 : Nat) (hn : BunNums dc af la (vecF v0 v1 v2 v3)) :
    Calls Tryz.prog 112 #[.agg #[.int .i64 dc, .int .i64 af, .int .i64 la, .int .i64 v0, .int .i64 v1, .int .i64 v2, .int .i64 v3, .slice a0 n c0, .slice a1 m c1, .slice a2 k c2]] w fun e w' => ∃ v', e = .returned v' ∧ CtxAt w' v' [(dc, af + 1, la)] ∧ Frm NoS w w' := by
  have hb : 0 ≤ dc ∧ dc < 4 ∧ 0 ≤ af ∧ af < la ∧ la ≤ 1099511627776 := ⟨hn.1, hn.2.1, hn.2.2.1, hn.2.2.2.1, hn.2.2.2.2.1⟩
  have hwr : IntKind.i64.wrap (af + 1) = af + 1 := by simp [IntKind.wrap, IntKind.bits, IntKind.signed]; omega
  clear hn
  go_enter Tryz.func112, Tryz.ntmps112
  go_wp2_with (go_at_call 141; go_loud (refine (cRange_ok _ dc (af + 1) la (by omega) (by omega) (by omega) (by omega) (by omega)).mono ?_); rintro e w1 ⟨v1, rfl, hc1, hf1⟩; obtain ⟨a', c', rfl⟩ := Rd.sl hc1; have HC1 := Lib.hid hc1; clear hc1; have HF1 := Lib.hid hf1; clear hf1)
  go_ret
  exact ⟨_, rfl, HC1.out, (Frm.alloc NoS _ _).then1 HF1.out⟩
set_option maxHeartbeats 2000000 in
set_option maxRecDepth 1000000 in
theorem bmay_ok (w : World) (dc af la v0 v1 v2 v3 : Int) (a0 a1 a2 : Option Addr) (n m k c0 c1 c2 : Nat) (hn : BunNums dc af la (vecF v0 v1 v2 v3)) :
    Calls Tryz.prog 113 #[.agg #[.int .i64 dc, .int .i64 af, .int .i64 la, .int .i64 v0, .int .i64 v1, .int .i64 v2, .int .i64 v3, .slice a0 n c0, .slice a1 m c1, .slice a2 k c2]] w fun e w' => ∃ v', e = .returned v' ∧ OwnAt w w' 107 3 v' (fullL (setF (vecF v0 v1 v2 v3) dc la)).length (spC (fullL (setF (vecF v0 v1 v2 v3) dc la))) ∧ (fullL (setF (vecF v0 v1 v2 v3) dc la)).length ≤ 4 := by
  have hm := hn.may_set (x := la) (by have := hn.2.2.1; have := hn.2.2.2.1; omega) hn.2.2.2.2.1
  have h0 := hn.1
  have h4 := hn.2.1
  clear hn
  rcases four h0 h4 with rfl | rfl | rfl | rfl
  · have he := fullL_congr (f := vecF la v1 v2 v3) (g := setF (vecF v0 v1 v2 v3) 0 la) (fun x h0 h4 => (set_vec v0 v1 v2 v3 la x h0 h4).1)
    have hm2 : MayV (vecF la v1 v2 v3) := (mayV_congr (fun x h0 h4 => (set_vec v0 v1 v2 v3 la x h0 h4).1)).2 hm
    rw [← he]
    clear he hm h0 h4
    go_enter Tryz.func113, Tryz.ntmps113
    go_wp2_with (go_at_call 90; go_loud (refine (cFull_any _ la v1 v2 v3).mono ?_); rintro e w2 ⟨hf2, hp1, -⟩; obtain ⟨v', rfl, ho, hl⟩ := hp1 hm2; obtain ⟨a', c', rfl⟩ := ho.shape; have HO := Lib.hid ho; clear ho hf2 hp1; have HL := Lib.hid hl; clear hl)
    go_ret
    refine ⟨_, rfl, HO.out.base ?_, HL.out⟩
    exact (Frm.alloc _ _ _).alloc1
  · have he := fullL_congr (f := vecF v0 la v2 v3) (g := setF (vecF v0 v1 v2 v3) 1 la) (fun x h0 h4 => (set_vec v0 v1 v2 v3 la x h0 h4).2.1)
    have hm2 : MayV (vecF v0 la v2 v3) := (mayV_congr (fun x h0 h4 => (set_vec v0 v1 v2 v3 la x h0 h4).2.1)).2 hm
    rw [← he]
    clear he hm h0 h4
    go_enter Tryz.func113, Tryz.ntmps113
    go_wp2_with (go_at_call 90; go_loud (refine (cFull_any _ v0 la v2 v3).mono ?_); rintro e w2 ⟨hf2, hp1, -⟩; obtain ⟨v', rfl, ho, hl⟩ := hp1 hm2; obtain ⟨a', c', rfl⟩ := ho.shape; have HO := Lib.hid ho; clear ho hf2 hp1; have HL := Lib.hid hl; clear hl)
    go_ret
    refine ⟨_, rfl, HO.out.base ?_, HL.out⟩
    exact (Frm.alloc _ _ _).alloc1
  · have he := fullL_congr (f := vecF v0 v1 la v3) (g := setF (vecF v0 v1 v2 v3) 2 la) (fun x h0 h4 => (set_vec v0 v1 v2 v3 la x h0 h4).2.2.1)
    have hm2 : MayV (vecF v0 v1 la v3) := (mayV_congr (fun x h0 h4 => (set_vec v0 v1 v2 v3 la x h0 h4).2.2.1)).2 hm
    rw [← he]
    clear he hm h0 h4
    go_enter Tryz.func113, Tryz.ntmps113
    go_wp2_with (go_at_call 90; go_loud (refine (cFull_any _ v0 v1 la v3).mono ?_); rintro e w2 ⟨hf2, hp1, -⟩; obtain ⟨v', rfl, ho, hl⟩ := hp1 hm2; obtain ⟨a', c', rfl⟩ := ho.shape; have HO := Lib.hid ho; clear ho hf2 hp1; have HL := Lib.hid hl; clear hl)
    go_ret
    refine ⟨_, rfl, HO.out.base ?_, HL.out⟩
    exact (Frm.alloc _ _ _).alloc1
  · have he := fullL_congr (f := vecF v0 v1 v2 la) (g := setF (vecF v0 v1 v2 v3) 3 la) (fun x h0 h4 => (set_vec v0 v1 v2 v3 la x h0 h4).2.2.2)
    have hm2 : MayV (vecF v0 v1 v2 la) := (mayV_congr (fun x h0 h4 => (set_vec v0 v1 v2 v3 la x h0 h4).2.2.2)).2 hm
    rw [← he]
    clear he hm h0 h4
    go_enter Tryz.func113, Tryz.ntmps113
    go_wp2_with (go_at_call 90; go_loud (refine (cFull_any _ v0 v1 v2 la).mono ?_); rintro e w2 ⟨hf2, hp1, -⟩; obtain ⟨v', rfl, ho, hl⟩ := hp1 hm2; obtain ⟨a', c', rfl⟩ := ho.shape; have HO := Lib.hid ho; clear ho hf2 hp1; have HL := Lib.hid hl; clear hl)
    go_ret
    refine ⟨_, rfl, HO.out.base ?_, HL.out⟩
    exact (Frm.alloc _ _ _).alloc1
end Go.Proofs.YtafdclkpeomomaaGreat
