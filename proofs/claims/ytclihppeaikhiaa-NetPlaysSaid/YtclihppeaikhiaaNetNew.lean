/- net: New, Len: the walks. -/
import Derived.Test.YtclihppeaikhiaaNetSend
namespace Go.Proofs.Ytclihppeaikhiaa
open Go.Conc Go.RowKit

theorem par_bytes : ∃ i, Try.prog.info? 43 = some i ∧ i.bytes = 32 := by
  have h : (Try.prog.info? 43).map (·.bytes) = some 32 := by kernel_rfl
  obtain ⟨i, hi, hb⟩ := Option.map_eq_some_iff.1 h
  exact ⟨i, hi, hb⟩
theorem mkc (w : World) (n : Nat) (hn : n ≤ 64) : (Instr.makeChan 93 (.int .i64 n)).run Try.prog w = .ok (.chan (some w.heap.size)) (w.alloc (.chan n #[] false 0 0 false)) := by
  obtain ⟨i, hi, hb⟩ := par_bytes
  simpa using run_makeChan (P := Try.prog) (w := w) Try.underlying93 hi .i64 n (by omega) (by rw [hb]; omega)

set_option maxRecDepth 1000000 in
theorem new_ok (n : Nat) (h1 : 1 ≤ n) (h2 : n ≤ 64) (w : World) :
    Calls Try.prog 21 #[.int .i64 n] w fun e w' => e = .returned (.tuple #[.pointer (some ⟨w.heap.size + 1, 0, none⟩), .int .i64 0]) ∧ w'.cell? ⟨w.heap.size + 1, 0, none⟩ = some (.chan (some w.heap.size)) ∧ w'.heap[w.heap.size]? = some (.chan n #[] false 0 0 false) ∧ Frm (fun _ => False) w w' := by
  have hmk := mkc w n h2
  go_enter Try.func21, Try.ntmps21
  go_wp2
  have hc := heap_alloc_new (w.alloc (.chan n #[] false 0 0 false)) (.cells #[.chan (some w.heap.size)] 95)
  simp only [World.size_alloc] at hc
  refine bodyPost_ret (v := .tuple #[.pointer (some ⟨w.heap.size + 1, 0, none⟩), .int .i64 0]) (by simp [results, Try.results21, go_sem]) rfl ?_
  refine ⟨rfl, cell_at hc 0 rfl, ?_, (Frm.alloc _ w _).trans (Frm.alloc _ _ _) fun _ _ h => h⟩
  rw [Below.heap_alloc _ _ _ (by simp)]
  exact heap_alloc_new w _

set_option maxRecDepth 1000000 in
theorem new_no (x : Int) (h1 : x < 1 ∨ 64 < x) (w : World) :
    Calls Try.prog 21 #[.int .i64 x] w fun e w' => e = .returned (.tuple #[.pointer none, .int .i64 1]) ∧ w = w' := by
  go_enter Try.func21, Try.ntmps21
  rcases h1 with h1 | h1
  · go_wp2
    exact bodyPost_ret (v := .tuple #[.pointer none, .int .i64 1]) (by simp [results, Try.results21, go_sem]) rfl ⟨rfl, rfl⟩
  · go_wp2
    exact bodyPost_ret (v := .tuple #[.pointer none, .int .i64 1]) (by simp [results, Try.results21, go_sem]) rfl ⟨rfl, rfl⟩

set_option maxRecDepth 1000000 in
theorem netlen (nb ch cap s r : Nat) (buf : List Value) (w : World) (h : w.cell? ⟨nb, 0, none⟩ = some (.chan (some ch))) (hc : w.heap[ch]? = some (.chan cap buf.toArray false s r false)) :
    Calls Try.prog 24 #[.pointer (some ⟨nb, 0, none⟩)] w fun e w' => e = .returned (.int .i64 buf.length) ∧ w = w' := by
  have hl := run_len_chan (P := Try.prog) 93 3 Try.underlying93 hc
  go_enter Try.func24, Try.ntmps24
  go_wp2
  go_ret
  exact ⟨rfl, rfl⟩

end Go.Proofs.Ytclihppeaikhiaa
