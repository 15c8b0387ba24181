/- net: clone; and a call met by its contract within a walk on the machine. -/
import Derived.Test.YtclihppeaikhiaaNetFirst
import Derived.Test.YtclihppeaikhiaaPuts
import Derived.Deep.RegionWith
import Derived.Deep.RegionHeld
namespace Go.Proofs.Ytclihppeaikhiaa
open Go.Conc Go.RowKit

theorem LoneTo.called {P : Program} {Q : Goroutine → World → Prop} {f : FuncId} {args : Array Value} {w : World} {R : Ending → World → Prop} {c : Frame} {cs : List Frame} (h : Calls P f args w R)
    (hR : ∀ e w', R e w' → ∃ v, e = .returned v ∧ LoneTo P Q (G (c.finish v) cs) w') : LoneTo P Q (G (Frame.enter P f args .normal) (c :: cs)) w := by
  obtain ⟨e, w', fr, hr, hc, hf, hl⟩ := h (c :: cs)
  obtain ⟨v, rfl, g', w'', hs, hq⟩ := hR _ _ hr
  exact ⟨g', w'', Steps.trans hc (Steps.head (step_leave_returned hl) hs), hq⟩

set_option maxHeartbeats 400000 in
set_option maxRecDepth 1000000 in
theorem clone_par (w : World) (t : Int) (v : Value) (bs : List UInt8) (hv : Rd w v bs.length (bV bs)) (hl : bs.length ≤ 140737488355328) :
    Calls Try.prog 47 #[.agg #[.int .i64 t, v]] w fun e w' => ∃ v', e = .returned (.agg #[.int .i64 t, v']) ∧ Copy w v' bs w' := by
  obtain ⟨a, c, rfl⟩ : ∃ a c, v = .slice a bs.length c := by
    rcases hv with ⟨ad, h1, h2, h3⟩ | ⟨b, off, c, h1, h2⟩
    · exact ⟨ad, 0, by rw [h1, h2]⟩
    · exact ⟨_, c, h1⟩
  have b0 : ∀ o : Obj, (((w.alloc (.cells #[.int .i64 t, .slice a bs.length c] 43)).alloc o).drew).heap[w.heap.size]? = some (.cells #[.int .i64 t, .slice a bs.length c] 43) := fun o => by
    show ((w.alloc (.cells #[.int .i64 t, .slice a bs.length c] 43)).alloc o).heap[w.heap.size]? = _
    rw [Below.heap_alloc _ _ _ (by simp)]; exact heap_alloc_new w _
  have b1 : (((w.alloc (.cells #[.int .i64 t, .slice a bs.length c] 43)).alloc (.cells #[.int .i64 0, .slice none 0 0] 43)).drew).heap[w.heap.size + 1]? = some (.cells #[.int .i64 0, .slice none 0 0] 43) := by
    have := heap_alloc_new (w.alloc (.cells #[.int .i64 t, .slice a bs.length c] 43)) (.cells #[.int .i64 0, .slice none 0 0] 43)
    show ((w.alloc (.cells #[.int .i64 t, .slice a bs.length c] 43)).alloc (.cells #[.int .i64 0, .slice none 0 0] 43)).heap[w.heap.size + 1]? = _
    simpa only [World.size_alloc] using this
  have hf : Frm (fun _ => False) w (((w.alloc (.cells #[.int .i64 t, .slice a bs.length c] 43)).alloc (.cells #[.int .i64 0, .slice none 0 0] 43)).drew) := ((Frm.alloc _ w _).trans (Frm.alloc _ _ _) fun _ _ h => h).trans (Frm.drew _ _) fun _ _ h => h
  have hcall := clone_any _ _ bs (hv.keep hf fun _ _ h => h) hl
  have B0 := Lib.hid (b0 (.cells #[.int .i64 0, .slice none 0 0] 43)); clear b0
  have B1 := Lib.hid b1; clear b1
  have HF := Lib.hid hf; clear hf
  have HCALL := Lib.hid hcall; clear hcall
  clear hv
  go_enter Try.func47, Try.ntmps47
  go_wp2_with fail
  go_region_with (go_at_call 46; refine HCALL.out.mono ?_; rintro e wx ⟨v', rfl, hc⟩; obtain ⟨a', c', rfl⟩ := hc.shape; have r0 := hc.frm.blk B0.out id; have r1 := hc.frm.blk B1.out id; have k0 := cell_at r0 0 rfl; have k1 := cell_at r0 1 rfl; have k2 := cell_at r1 0 rfl; have k3 := cell_at r1 1 rfl; have k4 := free_at r1 0; have k5 := free_at r1 1)
  all_goals
    have r2 := set_at r1 0 (.int .i64 t)
    have r3 := set_at r2 1 (.slice a' bs.length c')
    have d0 := cell_at r3 0 rfl
    have d1 := cell_at r3 1 rfl
    simp at d0 d1
    have fr1 : Frm (fun i => i = w.heap.size + 1) wx ((wx.setCell ⟨w.heap.size + 1, 0, none⟩ (.int .i64 t)).setCell ⟨w.heap.size + 1, 1, none⟩ (.slice a' bs.length c')) :=
      (Frm.setCell (S := fun i => i = w.heap.size + 1) wx (p := ⟨w.heap.size + 1, 0, none⟩) (.inl rfl) _).trans (Frm.setCell (S := fun i => i = w.heap.size + 1) _ (p := ⟨w.heap.size + 1, 1, none⟩) (.inl rfl) _) fun _ _ h => h
    have hck : Copy w (.slice a' bs.length c') bs ((wx.setCell ⟨w.heap.size + 1, 0, none⟩ (.int .i64 t)).setCell ⟨w.heap.size + 1, 1, none⟩ (.slice a' bs.length c')) := (hc.weaken HF.out).keep fr1 (fun i hi hs => by have h1 : i = w.heap.size + 1 := hs; omega) (fun k hk hs => by
      have h1 : k = w.heap.size + 1 := hs
      have h2 := hc.new k hk
      have h3 : (((w.alloc (.cells #[.int .i64 t, .slice a bs.length c] 43)).alloc (.cells #[.int .i64 0, .slice none 0 0] 43)).drew).heap.size = w.heap.size + 2 := by
        show ((w.alloc (.cells #[.int .i64 t, .slice a bs.length c] 43)).alloc (.cells #[.int .i64 0, .slice none 0 0] 43)).heap.size = _
        simp
      omega)
    have HCK := Lib.hid hck; clear hck
    clear fr1 hc r0 r1 r2 r3
    go_wp2
    exact bodyPost_ret (v := .agg #[.int .i64 t, .slice a' bs.length c']) (by simp [results, Try.results47, go_sem, d0, d1]) rfl ⟨_, rfl, HCK.out⟩

end Go.Proofs.Ytclihppeaikhiaa
