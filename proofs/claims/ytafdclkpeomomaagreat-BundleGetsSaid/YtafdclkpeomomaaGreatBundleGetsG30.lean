/- Words for the law BundleGets: BunR. -/
import Derived.Test.YtafdclkpeomomaaGreatBundleGetsG18
import Derived.Test.YtafdclkpeomomaaGreatBundleGetsG28
set_option linter.unusedSimpArgs false
set_option linter.unusedVariables false
/- tributaryref22: numbers, own: the walks. Printed by wip/bungen.py. -/
namespace Go.Proofs.YtafdclkpeomomaaGreat
open Go.RowKit

set_option maxHeartbeats 4000000 in
set_option maxRecDepth 1000000 in
theorem r22numbers_any (w : World) (dc af la v0 v1 v2 v3 : Int) (a0 a1 a2 : Option Addr) (n m k c0 c1 c2 : Nat) :
    Calls Tryz.prog 91 #[.agg #[.int .i64 dc, .int .i64 af, .int .i64 la, .int .i64 v0, .int .i64 v1, .int .i64 v2, .int .i64 v3, .slice a0 n c0, .slice a1 m c1, .slice a2 k c2]] w fun e w' => e = .returned (.bool (tf (BunNums dc af la (vecF v0 v1 v2 v3)))) ∧ Frm NoS w w' := by
  obtain ⟨α, hne, K, hK1, hK0, hK2⟩ := worlds (w.alloc (.cells #[.int .i64 dc, .int .i64 af, .int .i64 la, .int .i64 v0, .int .i64 v1, .int .i64 v2, .int .i64 v3, .slice a0 n c0, .slice a1 m c1, .slice a2 k c2] 51))
  have kb := fun s => box10 w _ _ _ _ _ _ _ _ _ _ _ (K s) (hK1 s)
  have k0 := fun s => (kb s).1
  have k1 := fun s => (kb s).2.1
  have k2 := fun s => (kb s).2.2.1
  have k3 := fun s => (kb s).2.2.2.1
  have k4 := fun s => (kb s).2.2.2.2.1
  have k5 := fun s => (kb s).2.2.2.2.2.1
  have k6 := fun s => (kb s).2.2.2.2.2.2.1
  have k7 := fun s => (kb s).2.2.2.2.2.2.2.1
  have k8 := fun s => (kb s).2.2.2.2.2.2.2.2.1
  have k9 := fun s => (kb s).2.2.2.2.2.2.2.2.2
  clear kb
  cases h0 : decide (0 ≤ dc) with
  | false =>
    rw [tf_false (fun h => by obtain ⟨g0, g1, g2, g3, g4, g5, g6⟩ := h; simp at h0; omega)]
    go_enter Tryz.func91, Tryz.ntmps91
    go_wp2_with fail
    refine wp_region_new K (by kernel_rfl) (by kernel_rfl) hK0 ?_
    repeat (go_big_quiet_step (fail))
    refine wpQuiet_nil ?_
    intro w' hw'
    obtain ⟨s, rfl⟩ := hw'
    have hfs := (Frm.alloc NoS w _).then1 (hK1 s)
    go_wp2
    go_ret
    exact ⟨rfl, hfs⟩
  | true =>
    cases h1 : decide (dc < 4) with
    | false =>
      rw [tf_false (fun h => by obtain ⟨g0, g1, g2, g3, g4, g5, g6⟩ := h; simp at h1; omega)]
      go_enter Tryz.func91, Tryz.ntmps91
      go_wp2_with fail
      refine wp_region_new K (by kernel_rfl) (by kernel_rfl) hK0 ?_
      repeat (go_big_quiet_step (fail))
      refine wpQuiet_nil ?_
      intro w' hw'
      obtain ⟨s, rfl⟩ := hw'
      have hfs := (Frm.alloc NoS w _).then1 (hK1 s)
      go_wp2
      go_ret
      exact ⟨rfl, hfs⟩
    | true =>
      cases h2 : decide (0 ≤ af) with
      | false =>
        rw [tf_false (fun h => by obtain ⟨g0, g1, g2, g3, g4, g5, g6⟩ := h; simp at h2; omega)]
        go_enter Tryz.func91, Tryz.ntmps91
        go_wp2_with fail
        refine wp_region_new K (by kernel_rfl) (by kernel_rfl) hK0 ?_
        repeat (go_big_quiet_step (fail))
        refine wpQuiet_nil ?_
        intro w' hw'
        obtain ⟨s, rfl⟩ := hw'
        have hfs := (Frm.alloc NoS w _).then1 (hK1 s)
        go_wp2
        go_ret
        exact ⟨rfl, hfs⟩
      | true =>
        cases h3 : decide (af < la) with
        | false =>
          rw [tf_false (fun h => by obtain ⟨g0, g1, g2, g3, g4, g5, g6⟩ := h; simp at h3; omega)]
          go_enter Tryz.func91, Tryz.ntmps91
          go_wp2_with fail
          refine wp_region_new K (by kernel_rfl) (by kernel_rfl) hK0 ?_
          repeat (go_big_quiet_step (fail))
          refine wpQuiet_nil ?_
          intro w' hw'
          obtain ⟨s, rfl⟩ := hw'
          have hfs := (Frm.alloc NoS w _).then1 (hK1 s)
          go_wp2
          go_ret
          exact ⟨rfl, hfs⟩
        | true =>
          cases h4 : decide (la ≤ 1099511627776) with
          | false =>
            rw [tf_false (fun h => by obtain ⟨g0, g1, g2, g3, g4, g5, g6⟩ := h; simp at h4; omega)]
            go_enter Tryz.func91, Tryz.ntmps91
            go_wp2_with fail
            refine wp_region_new K (by kernel_rfl) (by kernel_rfl) hK0 ?_
            repeat (go_big_quiet_step (fail))
            refine wpQuiet_nil ?_
            intro w' hw'
            obtain ⟨s, rfl⟩ := hw'
            have hfs := (Frm.alloc NoS w _).then1 (hK1 s)
            go_wp2
            go_ret
            exact ⟨rfl, hfs⟩
          | true =>
            obtain ⟨dn, hdn⟩ : ∃ dn : Nat, dc = dn := ⟨dc.toNat, by simp at h0; omega⟩
            subst hdn
            have hd4 : dn < 4 := by simp at h1; omega
            have kd : ∀ s, (K s).cell? ⟨w.heap.size, 3 + dn, none⟩ = some (.int .i64 (vecF v0 v1 v2 v3 dn)) := fun s => by
              rcases (by omega : dn = 0 ∨ dn = 1 ∨ dn = 2 ∨ dn = 3) with rfl | rfl | rfl | rfl
              · exact k3 s
              · exact k4 s
              · exact k5 s
              · exact k6 s
            have hd4i : (dn : Int) < 4 := by omega
            have hd0b : decide ((0 : Int) ≤ (dn : Int)) = true := by simp
            have HMY := Lib.hid (fun W => r7May_any W v0 v1 v2 v3)
            by_cases hm : MayV (vecF v0 v1 v2 v3)
            · rw [tf_true hm] at HMY
              obtain ⟨fd, hfd⟩ : ∃ fd, fd = vecF v0 v1 v2 v3 dn := ⟨_, rfl⟩
              have hy : tf (BunNums dn af la (vecF v0 v1 v2 v3)) = decide (fd ≤ af) := by
                simp at h0 h1 h2 h3 h4
                refine (tf_bool ?_).symm
                rw [decide_eq_true_iff, hfd]
                exact ⟨fun h => ⟨by omega, h1, h2, h3, h4, h, hm⟩, fun h => h.2.2.2.2.2.1⟩
              rw [hy]
              rw [← hfd] at kd
              clear hy hfd hm
              go_enter Tryz.func91, Tryz.ntmps91
              go_wp2_with fail
              refine wp_region_new K (by kernel_rfl) (by kernel_rfl) hK0 ?_
              repeat (go_big_quiet_step ((go_at_call 34; exact Calls.in_class hK2 (HMY.out _))))
              refine wpQuiet_nil ?_
              intro w' hw'
              obtain ⟨s, rfl⟩ := hw'
              have hfs := (Frm.alloc NoS w _).then1 (hK1 s)
              go_wp2
              go_ret
              exact ⟨rfl, hfs⟩
            · rw [tf_false hm] at HMY
              rw [tf_false (fun h => hm h.2.2.2.2.2.2)]
              clear hm
              go_enter Tryz.func91, Tryz.ntmps91
              go_wp2_with fail
              refine wp_region_new K (by kernel_rfl) (by kernel_rfl) hK0 ?_
              repeat (go_big_quiet_step ((go_at_call 34; exact Calls.in_class hK2 (HMY.out _))))
              refine wpQuiet_nil ?_
              intro w' hw'
              obtain ⟨s, rfl⟩ := hw'
              have hfs := (Frm.alloc NoS w _).then1 (hK1 s)
              go_wp2
              go_ret
              exact ⟨rfl, hfs⟩
set_option maxRecDepth 1000000 in
theorem r22own_ok (w : World) (dc af la v0 v1 v2 v3 : Int) (a0 a1 a2 : Option Addr) (n m k c0 c1 c2 : Nat) (hn : BunNums dc af la (vecF v0 v1 v2 v3)) :
    Calls Tryz.prog 93 #[.agg #[.int .i64 dc, .int .i64 af, .int .i64 la, .int .i64 v0, .int .i64 v1, .int .i64 v2, .int .i64 v3, .slice a0 n c0, .slice a1 m c1, .slice a2 k c2]] w fun e w' => ∃ v', e = .returned v' ∧ CtxAt w' v' [(dc, af + 1, la)] ∧ Frm NoS w w' := by
  have hb : 0 ≤ af ∧ af < la ∧ la ≤ 1099511627776 := ⟨hn.2.2.1, hn.2.2.2.1, hn.2.2.2.2.1⟩
  have hwr : IntKind.i64.wrap (af + 1) = af + 1 := by simp [IntKind.wrap, IntKind.bits, IntKind.signed]; omega
  clear hn
  go_enter Tryz.func93, Tryz.ntmps93
  go_wp2
  go_ret
  have hc := heap_alloc_new (w.alloc (.cells #[.int .i64 dc, .int .i64 af, .int .i64 la, .int .i64 v0, .int .i64 v1, .int .i64 v2, .int .i64 v3, .slice a0 n c0, .slice a1 m c1, .slice a2 k c2] 51)) (.cells #[.int .i64 dc, .int .i64 (af + 1), .int .i64 la] 107)
  refine ⟨_, rfl, .inr ⟨_, 0, 1, rfl, Nat.le_refl _, by simp [maxLen], fun j u hu => ?_⟩, (Frm.alloc NoS _ _).alloc1⟩
  rw [Nat.zero_add]
  have hu2 : ([.int .i64 dc, .int .i64 (af + 1), .int .i64 la] : List Value)[j]? = some u := hu
  have := cell_at' hc j (by simpa using hu2)
  simpa using this
end Go.Proofs.YtafdclkpeomomaaGreat
