/- Words for the law PackLong: TEnt. -/
import Derived.Test.YtafdclkpeomomaaPackLongG8
set_option linter.unusedSimpArgs false
set_option linter.unusedVariables false
/- tree: entries: the walk (printed by wip/treegen2.py). -/
namespace Go.Proofs.Ytafdclkpeomomaa
open Go.RowKit

theorem dotC_ge (d n e m : Int) : (!decide (0 ≤ dotC d n e m)) = dotLt d n e m := by
  rw [← dotC_lt]
  by_cases h : 0 ≤ dotC d n e m
  · have : ¬ dotC d n e m < 0 := by omega
    simp [h, this]
  · have : dotC d n e m < 0 := by omega
    simp [h, this]
set_option maxHeartbeats 4000000 in
set_option maxRecDepth 1000000 in
theorem tentries_any (w : World) (v : Value) (es : List Ent) (hv : Rd w v es.length (entC es)) (hok : EsOk es) :
    Calls Try.prog 54 #[v] w fun e w' => e = .returned (.bool (rightEs none es)) ∧ Frm NoS w w' := by
  obtain ⟨aA, cA, rfl⟩ := hv.sl
  have HH := Lib.hid hv; clear hv
  have HOK := Lib.hid hok; clear hok
  generalize hn : es.length = n at *
  have HN := Lib.hid hn; clear hn
  go_enter Try.func54, Try.ntmps54
  go_wp2
  go_loopw [7] (fun i ww => ∃ k : Nat, k ≤ n ∧ i = .int .i64 k ∧ rightEs none (es.take k) = true ∧ Frm NoS w ww) (fun i _ => n - (intOf i).toNat)
  case atStart => exact ⟨0, Nat.zero_le _, rfl, rfl, Frm.refl _ _⟩
  case round =>
    obtain ⟨k, hk, rfl, hr, hw⟩ := hrel
    have HW := Lib.hid hw; clear hw
    have HR := Lib.hid hr; clear hr
    by_cases hlt : k < n
    · rcases Rd.shape (HH.out.keep0 HW.out) with ⟨ad, he, h0⟩ | ⟨b, off, cc, he, hmax⟩
      · exfalso; have := HN.out; omega
      · injection he with e1 e2 e3
        subst e1 e3
        clear e2
        have hlk : k < es.length := by rw [HN.out]; exact hlt
        have her := HH.out.keep0 HW.out
        obtain ⟨q0, q1, q2, q3⟩ := ent_at her k hlk
        have hsz := (HOK.out.at hlk).2.2.2
        have hfk := (HOK.out.at hlk).2.2.1
        have hbl : b < wr.heap.size := World.block_lt_of_cell? _ _ q0
        rcases Nat.eq_zero_or_pos k with rfl | hk0
        · have hS := rightEs_step0 (l := es) hlk
          generalize es.getD 0 Ent.zero = e at *
          simp only [Nat.zero_mul, Nat.add_zero] at q0 q1 q2 q3
          clear her
          have hbf : Frm NoS wr (wr.alloc (.cells #[.int .i64 e.dc, .int .i64 e.n, .string e.s, .int .i64 e.k] 37)) := Frm.alloc _ _ _
          have HWK := Lib.hid (HW.out.then1 hbf)
          obtain ⟨α, hne, K, hK3, hK0, hK2⟩ := worlds (wr.alloc (.cells #[.int .i64 e.dc, .int .i64 e.n, .string e.s, .int .i64 e.k] 37))
          have hK1 := hK3
          have n0 := (fun s => (hK1 s).cell' (cell_at' (heap_alloc_new wr _) 0 rfl : (wr.alloc (.cells #[.int .i64 e.dc, .int .i64 e.n, .string e.s, .int .i64 e.k] 37)).cell? ⟨wr.heap.size, 0, none⟩ = some (.int .i64 e.dc)) id)
          have n1 := (fun s => (hK1 s).cell' (cell_at' (heap_alloc_new wr _) 1 rfl : (wr.alloc (.cells #[.int .i64 e.dc, .int .i64 e.n, .string e.s, .int .i64 e.k] 37)).cell? ⟨wr.heap.size, 1, none⟩ = some (.int .i64 e.n)) id)
          have n2 := (fun s => (hK1 s).cell' (cell_at' (heap_alloc_new wr _) 2 rfl : (wr.alloc (.cells #[.int .i64 e.dc, .int .i64 e.n, .string e.s, .int .i64 e.k] 37)).cell? ⟨wr.heap.size, 2, none⟩ = some (.string e.s)) id)
          have n3 := (fun s => (hK1 s).cell' (cell_at' (heap_alloc_new wr _) 3 rfl : (wr.alloc (.cells #[.int .i64 e.dc, .int .i64 e.n, .string e.s, .int .i64 e.k] 37)).cell? ⟨wr.heap.size, 3, none⟩ = some (.int .i64 e.k)) id)
          cases hd : dotB e.dc e.n with
          | false =>
            have he : entB e = false := by simp [entB, hd]
            rw [he] at hS
            (try simp only [Bool.false_and] at hS)
            have HS := Lib.hid hS; clear hS he
            have HDR := Lib.hid (fun W => dotRight_any e.dc e.n W)
            rw [hd] at HDR
            have HDC := Lib.hid (fun W => dotCmp_any 0 0 0 0 W)
            clear hd
            go_wp2_with fail
            refine wp_region_new K (by kernel_rfl) (by kernel_rfl) hK0 ?_
            repeat (go_big_quiet_step ((first | (go_at_call 42; exact Calls.in_class hK2 (HDR.out _)) | (go_at_call 65; exact Calls.in_class hK2 (HDC.out _)))))
            refine wpQuiet_nil ?_
            intro w' hw'
            obtain ⟨s, rfl⟩ := hw'
            have hfs := hK1 s
            go_wp2
            go_ret
            exact ⟨ret_bool (not_rightEs HS.out).symm, HWK.out.then1 hfs⟩
          | true =>
            have HDR := Lib.hid (fun W => dotRight_any e.dc e.n W)
            rw [hd] at HDR
            cases h1 : decide (30 < (e.s.size : Int)) with
            | true =>
              have HDC := Lib.hid (fun W => dotCmp_any 0 0 0 0 W)
              have he : entB e = false := by simp at h1; simp [entB]; intros; omega
              rw [he] at hS
              (try simp only [Bool.false_and] at hS)
              have HS := Lib.hid hS; clear hS he
              clear hd
              go_wp2_with fail
              refine wp_region_new K (by kernel_rfl) (by kernel_rfl) hK0 ?_
              repeat (go_big_quiet_step ((first | (go_at_call 42; exact Calls.in_class hK2 (HDR.out _)) | (go_at_call 65; exact Calls.in_class hK2 (HDC.out _)))))
              refine wpQuiet_nil ?_
              intro w' hw'
              obtain ⟨s, rfl⟩ := hw'
              have hfs := hK1 s
              go_wp2
              go_ret
              exact ⟨ret_bool (not_rightEs HS.out).symm, HWK.out.then1 hfs⟩
            | false =>
              cases h2 : decide (1099511627776 < e.k) with
              | true =>
                have HDC := Lib.hid (fun W => dotCmp_any 0 0 0 0 W)
                have he : entB e = false := by simp at h2; simp [entB]; intros; omega
                rw [he] at hS
                (try simp only [Bool.false_and] at hS)
                have HS := Lib.hid hS; clear hS he
                clear hd
                go_wp2_with fail
                refine wp_region_new K (by kernel_rfl) (by kernel_rfl) hK0 ?_
                repeat (go_big_quiet_step ((first | (go_at_call 42; exact Calls.in_class hK2 (HDR.out _)) | (go_at_call 65; exact Calls.in_class hK2 (HDC.out _)))))
                refine wpQuiet_nil ?_
                intro w' hw'
                obtain ⟨s, rfl⟩ := hw'
                have hfs := hK1 s
                go_wp2
                go_ret
                exact ⟨ret_bool (not_rightEs HS.out).symm, HWK.out.then1 hfs⟩
              | false =>
                cases h3 : decide (e.k < -1099511627776) with
                | true =>
                  have HDC := Lib.hid (fun W => dotCmp_any 0 0 0 0 W)
                  have he : entB e = false := by simp at h3; simp [entB]; intros; omega
                  rw [he] at hS
                  (try simp only [Bool.false_and] at hS)
                  have HS := Lib.hid hS; clear hS he
                  clear hd
                  go_wp2_with fail
                  refine wp_region_new K (by kernel_rfl) (by kernel_rfl) hK0 ?_
                  repeat (go_big_quiet_step ((first | (go_at_call 42; exact Calls.in_class hK2 (HDR.out _)) | (go_at_call 65; exact Calls.in_class hK2 (HDC.out _)))))
                  refine wpQuiet_nil ?_
                  intro w' hw'
                  obtain ⟨s, rfl⟩ := hw'
                  have hfs := hK1 s
                  go_wp2
                  go_ret
                  exact ⟨ret_bool (not_rightEs HS.out).symm, HWK.out.then1 hfs⟩
                | false =>
                  have he : entB e = true := by simp at h1 h2 h3; simp [entB, hd]; omega
                  rw [he] at hS
                  clear he hd
                  have HDC := Lib.hid (fun W => dotCmp_any 0 0 0 0 W)
                  have HS := Lib.hid hS; clear hS
                  go_wp2_with fail
                  refine wp_region_new K (by kernel_rfl) (by kernel_rfl) hK0 ?_
                  repeat (go_big_quiet_step ((first | (go_at_call 42; exact Calls.in_class hK2 (HDR.out _)) | (go_at_call 65; exact Calls.in_class hK2 (HDC.out _)))))
                  refine wpQuiet_nil ?_
                  intro w' hw'
                  obtain ⟨s, rfl⟩ := hw'
                  have hfs := hK1 s
                  go_wp2
                  go_roundw
                  case rel => exact ⟨0 + 1, by omega, by go_num, HS.out, HWK.out.then1 hfs⟩
                  case measure => simp [intOf]; omega
        · obtain ⟨j, rfl⟩ : ∃ j, k = j + 1 := ⟨k - 1, by omega⟩
          obtain ⟨p0, p1, -, -⟩ := ent_at her j (by omega)
          clear her
          have hS := rightEs_step (l := es) (j := j) hlk HR.out
          generalize es.getD (j + 1) Ent.zero = e at *
          generalize es.getD j Ent.zero = pe at *
          have hbf : Frm NoS wr (wr.alloc (.cells #[.int .i64 e.dc, .int .i64 e.n, .string e.s, .int .i64 e.k] 37)) := Frm.alloc _ _ _
          have HWK := Lib.hid (HW.out.then1 hbf)
          obtain ⟨α, hne, K, hK3, hK0, hK2⟩ := worlds (wr.alloc (.cells #[.int .i64 e.dc, .int .i64 e.n, .string e.s, .int .i64 e.k] 37))
          have hK1 := hK3
          have n0 := (fun s => (hK1 s).cell' (cell_at' (heap_alloc_new wr _) 0 rfl : (wr.alloc (.cells #[.int .i64 e.dc, .int .i64 e.n, .string e.s, .int .i64 e.k] 37)).cell? ⟨wr.heap.size, 0, none⟩ = some (.int .i64 e.dc)) id)
          have n1 := (fun s => (hK1 s).cell' (cell_at' (heap_alloc_new wr _) 1 rfl : (wr.alloc (.cells #[.int .i64 e.dc, .int .i64 e.n, .string e.s, .int .i64 e.k] 37)).cell? ⟨wr.heap.size, 1, none⟩ = some (.int .i64 e.n)) id)
          have n2 := (fun s => (hK1 s).cell' (cell_at' (heap_alloc_new wr _) 2 rfl : (wr.alloc (.cells #[.int .i64 e.dc, .int .i64 e.n, .string e.s, .int .i64 e.k] 37)).cell? ⟨wr.heap.size, 2, none⟩ = some (.string e.s)) id)
          have n3 := (fun s => (hK1 s).cell' (cell_at' (heap_alloc_new wr _) 3 rfl : (wr.alloc (.cells #[.int .i64 e.dc, .int .i64 e.n, .string e.s, .int .i64 e.k] 37)).cell? ⟨wr.heap.size, 3, none⟩ = some (.int .i64 e.k)) id)
          have m0 := (fun s => (hK1 s).cell' (hbf.cell' p0 id) id)
          have m1 := (fun s => (hK1 s).cell' (hbf.cell' p1 id) id)
          clear p0 p1
          cases hd : dotB e.dc e.n with
          | false =>
            have he : entB e = false := by simp [entB, hd]
            rw [he] at hS
            (try simp only [Bool.false_and] at hS)
            have HS := Lib.hid hS; clear hS he
            have HDR := Lib.hid (fun W => dotRight_any e.dc e.n W)
            rw [hd] at HDR
            have HDC := Lib.hid (fun W => dotCmp_any 0 0 0 0 W)
            clear hd
            go_wp2_with fail
            refine wp_region_new K (by kernel_rfl) (by kernel_rfl) hK0 ?_
            repeat (go_big_quiet_step ((first | (go_at_call 42; exact Calls.in_class hK2 (HDR.out _)) | (go_at_call 65; exact Calls.in_class hK2 (HDC.out _)))))
            refine wpQuiet_nil ?_
            intro w' hw'
            obtain ⟨s, rfl⟩ := hw'
            have hfs := hK1 s
            go_wp2
            go_ret
            exact ⟨ret_bool (not_rightEs HS.out).symm, HWK.out.then1 hfs⟩
          | true =>
            have HDR := Lib.hid (fun W => dotRight_any e.dc e.n W)
            rw [hd] at HDR
            cases h1 : decide (30 < (e.s.size : Int)) with
            | true =>
              have HDC := Lib.hid (fun W => dotCmp_any 0 0 0 0 W)
              have he : entB e = false := by simp at h1; simp [entB]; intros; omega
              rw [he] at hS
              (try simp only [Bool.false_and] at hS)
              have HS := Lib.hid hS; clear hS he
              clear hd
              go_wp2_with fail
              refine wp_region_new K (by kernel_rfl) (by kernel_rfl) hK0 ?_
              repeat (go_big_quiet_step ((first | (go_at_call 42; exact Calls.in_class hK2 (HDR.out _)) | (go_at_call 65; exact Calls.in_class hK2 (HDC.out _)))))
              refine wpQuiet_nil ?_
              intro w' hw'
              obtain ⟨s, rfl⟩ := hw'
              have hfs := hK1 s
              go_wp2
              go_ret
              exact ⟨ret_bool (not_rightEs HS.out).symm, HWK.out.then1 hfs⟩
            | false =>
              cases h2 : decide (1099511627776 < e.k) with
              | true =>
                have HDC := Lib.hid (fun W => dotCmp_any 0 0 0 0 W)
                have he : entB e = false := by simp at h2; simp [entB]; intros; omega
                rw [he] at hS
                (try simp only [Bool.false_and] at hS)
                have HS := Lib.hid hS; clear hS he
                clear hd
                go_wp2_with fail
                refine wp_region_new K (by kernel_rfl) (by kernel_rfl) hK0 ?_
                repeat (go_big_quiet_step ((first | (go_at_call 42; exact Calls.in_class hK2 (HDR.out _)) | (go_at_call 65; exact Calls.in_class hK2 (HDC.out _)))))
                refine wpQuiet_nil ?_
                intro w' hw'
                obtain ⟨s, rfl⟩ := hw'
                have hfs := hK1 s
                go_wp2
                go_ret
                exact ⟨ret_bool (not_rightEs HS.out).symm, HWK.out.then1 hfs⟩
              | false =>
                cases h3 : decide (e.k < -1099511627776) with
                | true =>
                  have HDC := Lib.hid (fun W => dotCmp_any 0 0 0 0 W)
                  have he : entB e = false := by simp at h3; simp [entB]; intros; omega
                  rw [he] at hS
                  (try simp only [Bool.false_and] at hS)
                  have HS := Lib.hid hS; clear hS he
                  clear hd
                  go_wp2_with fail
                  refine wp_region_new K (by kernel_rfl) (by kernel_rfl) hK0 ?_
                  repeat (go_big_quiet_step ((first | (go_at_call 42; exact Calls.in_class hK2 (HDR.out _)) | (go_at_call 65; exact Calls.in_class hK2 (HDC.out _)))))
                  refine wpQuiet_nil ?_
                  intro w' hw'
                  obtain ⟨s, rfl⟩ := hw'
                  have hfs := hK1 s
                  go_wp2
                  go_ret
                  exact ⟨ret_bool (not_rightEs HS.out).symm, HWK.out.then1 hfs⟩
                | false =>
                  have he : entB e = true := by simp at h1 h2 h3; simp [entB, hd]; omega
                  rw [he] at hS
                  clear he hd
                  rw [Bool.true_and] at hS
                  have HDC := Lib.hid (fun W => dotCmp_any pe.dc pe.n e.dc e.n W)
                  have hge := dotC_ge pe.dc pe.n e.dc e.n
                  rw [← hge] at hS
                  generalize dotC pe.dc pe.n e.dc e.n = cc at *
                  cases hl : decide (0 ≤ cc) with
                  | true =>
                    rw [hl] at hS
                    have hS := hS
                    have HS := Lib.hid hS; clear hS hge
                    go_wp2_with fail
                    refine wp_region_new K (by kernel_rfl) (by kernel_rfl) hK0 ?_
                    repeat (go_big_quiet_step ((first | (go_at_call 42; exact Calls.in_class hK2 (HDR.out _)) | (go_at_call 65; exact Calls.in_class hK2 (HDC.out _)))))
                    refine wpQuiet_nil ?_
                    intro w' hw'
                    obtain ⟨s, rfl⟩ := hw'
                    have hfs := hK1 s
                    go_wp2
                    go_ret
                    exact ⟨ret_bool (not_rightEs HS.out).symm, HWK.out.then1 hfs⟩
                  | false =>
                    rw [hl] at hS
                    have HS := Lib.hid hS; clear hS hge
                    go_wp2_with fail
                    refine wp_region_new K (by kernel_rfl) (by kernel_rfl) hK0 ?_
                    repeat (go_big_quiet_step ((first | (go_at_call 42; exact Calls.in_class hK2 (HDR.out _)) | (go_at_call 65; exact Calls.in_class hK2 (HDC.out _)))))
                    refine wpQuiet_nil ?_
                    intro w' hw'
                    obtain ⟨s, rfl⟩ := hw'
                    have hfs := hK1 s
                    go_wp2
                    go_roundw
                    case rel => exact ⟨j + 1 + 1, by omega, by go_num, HS.out, HWK.out.then1 hfs⟩
                    case measure => simp [intOf]; omega
    · obtain rfl : n = k := by omega
      rw [List.take_of_length_le (by rw [HN.out]; exact Nat.le_refl _)] at HR
      go_wp2
      go_ret
      exact ⟨ret_bool HR.out.symm, HW.out⟩
end Go.Proofs.Ytafdclkpeomomaa
