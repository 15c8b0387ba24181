/- codec.In: how one lies in memory; Fail, Left, Bad, Done, NewIn, raw. -/
import Derived.Test.YtclihppeaikhiaaRefNum
import Derived.Test.YtclihppeaikhiaaDec
import Derived.WalkArith
namespace Go.Proofs.Ytclihppeaikhiaa
open Go.RowKit

theorem cell_at {w : World} {b : Nat} {cs : Array Value} {t : TypeId} {f : Nat × Nat} (h : w.heap[b]? = some (.cells cs t f)) (j : Nat) {u : Value} (hu : cs[j]? = some u) : w.cell? ⟨b, j, none⟩ = some u :=
  (cell_of_row w b j cs t f h).trans hu
theorem free_at {w : World} {b : Nat} {cs : Array Value} {t : TypeId} (h : w.heap[b]? = some (.cells cs t (0, 0))) (j : Nat) : w.frozen? ⟨b, j, none⟩ = false := by simp [World.frozen?, h]
theorem set_at {w : World} {b : Nat} {cs : Array Value} {t : TypeId} {f : Nat × Nat} (h : w.heap[b]? = some (.cells cs t f)) (j : Nat) (u : Value) : (w.setCell ⟨b, j, none⟩ u).heap[b]? = some (.cells (cs.setIfInBounds j u) t f) := by
  simp only [World.setCell, Array.getElem?_modify, if_true, h, Option.map_some]
  rfl
def Only (b k : Nat) : Prop := k = b
def Nowhere (_ : Nat) : Prop := False
theorem only_set (w : World) (b j : Nat) (u : Value) : Frm (Only b) w (w.setCell ⟨b, j, none⟩ u) := Frm.setCell (S := Only b) w (p := ⟨b, j, none⟩) (.inl (show Only b b from rfl)) u

structure InOk (w : World) (ib : Nat) (v : Value) (bs : List UInt8) : Prop where
  cells : w.heap[ib]? = some (.cells #[v, .bool false] 100 (0, 0))
  rd : Rd w v bs.length (bV bs)
  apart : v.ownBlock ≠ some ib
def InBad (w : World) (ib : Nat) : Prop := w.heap[ib]? = some (.cells #[.slice none 0 0, .bool true] 100 (0, 0))
/-- The state: none: it is bad; else what is left. -/
def InSt (w : World) (ib : Nat) : Option (List UInt8) → Prop
  | none => InBad w ib
  | some bs => ∃ v, InOk w ib v bs ∧ ∀ k, v.ownBlock = some k → k < ib
def leftOf : Option (List UInt8) → List UInt8
  | none => []
  | some bs => bs
theorem InOk.keep {w w' : World} {ib : Nat} {v : Value} {bs : List UInt8} (h : InOk w ib v bs) {S : Nat → Prop} (f : Frm S w w') (h1 : ¬ S ib) (h2 : ∀ k, v.ownBlock = some k → ¬ S k) : InOk w' ib v bs :=
  ⟨f.blk h.cells h1, h.rd.keep f h2, h.apart⟩

set_option maxHeartbeats 400000 in
set_option maxRecDepth 1000000 in
theorem fail_nil (w : World) : Calls Try.prog 28 #[.pointer none] w fun e w' => e = .returned (.tuple #[]) ∧ w = w' := by
  go_enter Try.func28, Try.ntmps28
  go_wp2
  go_end0
  exact ⟨rfl, rfl⟩

set_option maxHeartbeats 400000 in
set_option maxRecDepth 1000000 in
theorem fail_go (ib : Nat) (v : Value) (b : Bool) (w : World) (h : w.heap[ib]? = some (.cells #[v, .bool b] 100 (0, 0))) :
    Calls Try.prog 28 #[.pointer (some ⟨ib, 0, none⟩)] w fun e w' => e = .returned (.tuple #[]) ∧ InBad w' ib ∧ Frm (Only ib) w w' := by
  have c0 := cell_at h 0 rfl
  have c1 := cell_at h 1 rfl
  have f0 := free_at h 0
  have f1 := free_at h 1
  have HH := Lib.hid h; clear h
  go_enter Try.func28, Try.ntmps28
  go_wp2
  go_end0
  refine ⟨rfl, ?_, ?_⟩
  · have := set_at (set_at HH.out 0 (.slice none 0 0)) 1 (.bool true)
    unfold InBad
    simpa using this
  · exact (only_set w ib 0 _).trans (only_set _ ib 1 _) fun _ _ h => h

set_option maxHeartbeats 400000 in
set_option maxRecDepth 1000000 in
theorem left_nil (w : World) : Calls Try.prog 31 #[.pointer none] w fun e w' => e = .returned (.int .i64 0) ∧ w = w' := by
  go_enter Try.func31, Try.ntmps31
  go_wp2
  go_ret
  exact ⟨rfl, rfl⟩
theorem rd_shape {w : World} {v : Value} {n : Nat} {xs : List Value} (h : Rd w v n xs) : ∃ a c, v = .slice a n c := by
  rcases h with ⟨ad, rfl, rfl, _⟩ | ⟨b, off, c, rfl, _⟩
  · exact ⟨ad, 0, rfl⟩
  · exact ⟨_, c, rfl⟩
theorem InSt.heap {w : World} {ib : Nat} {st : Option (List UInt8)} (h : InSt w ib st) : ∃ a c, w.heap[ib]? = some (.cells #[.slice a (leftOf st).length c, .bool st.isNone] 100 (0, 0)) := by
  cases st with
  | none => exact ⟨none, 0, h⟩
  | some bs =>
    obtain ⟨v, hv, _⟩ := h
    obtain ⟨a, c, rfl⟩ := rd_shape hv.rd
    exact ⟨a, c, hv.cells⟩
set_option maxHeartbeats 400000 in
set_option maxRecDepth 1000000 in
theorem left_go (ib : Nat) (st : Option (List UInt8)) (w : World) (h : InSt w ib st) :
    Calls Try.prog 31 #[.pointer (some ⟨ib, 0, none⟩)] w fun e w' => e = .returned (.int .i64 (leftOf st).length) ∧ w = w' := by
  obtain ⟨a, c, hh⟩ := h.heap
  have c0 := cell_at hh 0 rfl
  clear h hh
  go_enter Try.func31, Try.ntmps31
  go_wp2
  go_ret
  exact ⟨rfl, rfl⟩
set_option maxHeartbeats 400000 in
set_option maxRecDepth 1000000 in
theorem bad_nil (w : World) : Calls Try.prog 32 #[.pointer none] w fun e w' => e = .returned (.bool false) ∧ w = w' := by
  go_enter Try.func32, Try.ntmps32
  go_wp2
  go_ret
  exact ⟨rfl, rfl⟩
set_option maxHeartbeats 400000 in
set_option maxRecDepth 1000000 in
theorem bad_go (ib : Nat) (st : Option (List UInt8)) (w : World) (h : InSt w ib st) :
    Calls Try.prog 32 #[.pointer (some ⟨ib, 0, none⟩)] w fun e w' => e = .returned (.bool st.isNone) ∧ w = w' := by
  obtain ⟨a, c, hh⟩ := h.heap
  generalize st.isNone = bd at *
  have c1 := cell_at hh 1 rfl
  clear h hh
  go_enter Try.func32, Try.ntmps32
  go_wp2
  go_ret
  exact ⟨rfl, rfl⟩
set_option maxHeartbeats 400000 in
set_option maxRecDepth 1000000 in
theorem done_nil (w : World) : Calls Try.prog 33 #[.pointer none] w fun e w' => e = .returned (.bool false) ∧ w = w' := by
  go_enter Try.func33, Try.ntmps33
  go_wp2
  go_ret
  exact ⟨rfl, rfl⟩
def doneOf : Option (List UInt8) → Bool
  | none => false
  | some bs => bs.length == 0
set_option maxHeartbeats 400000 in
set_option maxRecDepth 1000000 in
theorem done_go (ib : Nat) (st : Option (List UInt8)) (w : World) (h : InSt w ib st) :
    Calls Try.prog 33 #[.pointer (some ⟨ib, 0, none⟩)] w fun e w' => e = .returned (.bool (doneOf st)) ∧ w = w' := by
  cases st with
  | none =>
    have c0 := cell_at (show w.heap[ib]? = _ from h) 0 rfl
    have c1 := cell_at (show w.heap[ib]? = _ from h) 1 rfl
    clear h
    go_enter Try.func33, Try.ntmps33
    go_wp2
    go_ret
    exact ⟨rfl, rfl⟩
  | some bs =>
    obtain ⟨v, hv, _⟩ := h
    obtain ⟨a, c, rfl⟩ := rd_shape hv.rd
    have c0 := cell_at hv.cells 0 rfl
    have c1 := cell_at hv.cells 1 rfl
    clear hv
    by_cases h0 : bs.length = 0
    · have hd : ((bs.length : Int) == 0) = true := by simp [h0]
      have he : doneOf (some bs) = true := by simp [doneOf, h0]
      rw [he]
      clear he h0
      go_enter Try.func33, Try.ntmps33
      go_wp2
      go_ret
      exact ⟨rfl, rfl⟩
    · have hd : ((bs.length : Int) == 0) = false := beq_false_of_ne (by omega)
      have he : doneOf (some bs) = false := by simp [doneOf]; simpa using h0
      rw [he]
      clear he h0
      go_enter Try.func33, Try.ntmps33
      go_wp2
      go_ret
      exact ⟨rfl, rfl⟩

set_option maxHeartbeats 400000 in
set_option maxRecDepth 1000000 in
theorem newin (v : Value) (bs : List UInt8) (w : World) (h : Rd w v bs.length (bV bs)) (hl : bs.length ≤ 140737488355328) :
    Calls Try.prog 34 #[v] w fun e w' => ∃ ib, e = .returned (.pointer (some ⟨ib, 0, none⟩)) ∧ InSt w' ib (some bs) ∧ w.heap.size ≤ ib ∧ Frm Nowhere w w' := by
  have hc := clone_any w v bs h hl
  have HC := Lib.hid hc; clear hc
  clear h
  go_enter Try.func34, Try.ntmps34
  go_wp2_with (go_at_call 46; refine HC.out.mono ?_)
  rintro e w1 ⟨v1, rfl, hcp⟩
  obtain ⟨a, c, rfl⟩ := hcp.shape
  have HP := Lib.hid hcp; clear hcp
  go_wp2
  go_ret
  refine ⟨_, rfl, ⟨_, ⟨heap_alloc_new w1 _, ?_, ?_⟩, ?_⟩, HP.out.frm.size, HP.out.frm.trans (Frm.alloc Nowhere w1 _) fun _ _ h => h⟩
  · exact HP.out.rd.keep (Frm.alloc Nowhere w1 _) fun _ _ h => h
  · intro e
    have := HP.out.own.lt _ e
    omega
  · intro k e
    exact (HP.out.own.lt _ e).2

end Go.Proofs.Ytclihppeaikhiaa
