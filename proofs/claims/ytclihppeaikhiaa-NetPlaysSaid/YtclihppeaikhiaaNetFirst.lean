/- net: first: the walk (a select of one receive and a default, in one goroutine). -/
import Derived.Test.YtclihppeaikhiaaMem
import Derived.Conc.LoneCalls
import Derived.Conc.LoneSelectN
import Derived.Test.YtclihppeaikhiaaIn
import Derived.KernelRfl
namespace Go.Proofs.Ytclihppeaikhiaa
open Go.Conc Go.RowKit

theorem setChan_far (w : World) (c c' cap : Nat) (buf : Array Value) (closed : Bool) (s r : Nat) (tm : Bool) (h : c ≠ c') : (w.setChan c cap buf closed s r tm).heap[c']? = w.heap[c']? := by
  simp [World.setChan, Array.getElem?_setIfInBounds_ne h]
theorem Frm.setChan (w : World) (c cap : Nat) (buf : Array Value) (closed : Bool) (s r : Nat) (tm : Bool) : Frm (fun i => i = c) w (w.setChan c cap buf closed s r tm) :=
  ⟨rfl, rfl, rfl, by simp [World.setChan], fun k _ hn => setChan_far _ _ _ _ _ _ _ _ _ fun e => hn e.symm⟩
theorem res_r_default (a : Nat) (z : Value) : commResult #[rcase a z] .select (-1) undef false = .tuple #[goInt (-1), .bool false, z] := by
  simp [commResult, rcase, List.zipIdx_cons]

set_option maxRecDepth 100000 in
theorem first_none (nb ch cap s r : Nat) (w : World) (h : w.cell? ⟨nb, 0, none⟩ = some (.chan (some ch))) (hc : w.heap[ch]? = some (.chan cap #[] false s r false)) :
    Calls Try.prog 59 #[.pointer (some ⟨nb, 0, none⟩)] w fun e w' => e = .returned (.tuple #[.agg #[.int .i64 0, .slice none 0 0], .bool false]) ∧ Frm (fun _ => False) w w' := by
  refine calls_of_loneTo fun cs => ?_
  have e : Frame.enter Try.prog 59 #[.pointer (some ⟨nb, 0, none⟩)] .normal = (base 59).at ⟨#[.pointer (some ⟨nb, 0, none⟩), undef, undef, undef, undef, undef, undef, undef, undef, undef, undef, undef, undef, undef, undef], []⟩ [.code (Try.f59.body.getD .skip)] := by
    simp [Frame.enter, Frame.at, Try.func59, base, Try.f59]
  rw [e]
  have hlt := World.block_lt_of_cell? w _ h
  have hcl : ch < w.heap.size := lt_of_block hc
  have hc1 : ∀ o, (w.alloc o).heap[ch]? = some (.chan cap #[] false s r false) := fun o => by rw [Below.heap_alloc _ _ _ hcl]; exact hc
  refine LoneTo.goes (n := 60) ?_
  simp only [Try.f59, Option.getD_some]
  s_c stepG_seq
  s_reg
  s_op
  s_op
  s_c stepG_region_end
  s_c stepG_seq
  s_reg
  s_op
  s_op
  s_op
  s_op
  s_c stepG_region_end
  s_c stepG_seq
  s_reg
  s_stop
  refine LoneTo.step (step_lone_sel_default
    (stepG_comm (cases := #[rcase ch (.agg #[.int .i64 0, .slice none 0 0])]) (blocking := false) (shape := .select) (w' := w.alloc (.cells #[.int .i64 0, .slice none 0 0] 43)) rfl rfl (by decide) (by simp [go_sem, execOp, rcase, Act.eval]))
    (fun cc hcc => ?_)) ?_
  · simp only [List.mem_toArray, List.mem_cons, List.not_mem_nil, or_false] at hcc
    subst hcc
    exact noWay_recv (hc1 _)
  rw [Frame.finish_at, res_r_default]
  walk_nrm
  refine LoneTo.goes (n := 60) ?_
  s_op
  s_op
  s_c stepG_region_end
  s_c stepG_block
  s_cond false
  s_c stepG_seq
  s_reg
  s_op
  s_op
  s_op
  s_c stepG_region_end
  s_c stepG_ret'
  s_stop
  refine LoneTo.done ⟨.returned (.tuple #[.agg #[.int .i64 0, .slice none 0 0], .bool false]), _, rfl, ⟨rfl, ?_⟩, rfl, rfl, rfl, rfl, _, Try.func59, ?_⟩
  · exact Frm.alloc _ w _
  · simp [results, Try.f59, Frame.at, go_sem]

theorem res_r_some (a : Nat) (z v : Value) : commResult #[rcase a z] .select ((0 : Nat) : Int) v true = .tuple #[goInt 0, .bool true, v] := by
  simp [commResult, rcase, List.zipIdx_cons]

set_option maxRecDepth 100000 in
theorem first_some (nb ch cap s r : Nat) (t : Int) (a : Option Addr) (n c : Nat) (rest : List Value) (w : World) (h : w.cell? ⟨nb, 0, none⟩ = some (.chan (some ch))) (hc : w.heap[ch]? = some (.chan cap (.agg #[.int .i64 t, .slice a n c] :: rest).toArray false s r false)) :
    Calls Try.prog 59 #[.pointer (some ⟨nb, 0, none⟩)] w fun e w' => e = .returned (.tuple #[.agg #[.int .i64 t, .slice a n c], .bool true]) ∧ w'.heap[ch]? = some (.chan cap rest.toArray false s (r + 1) false) ∧ Frm (fun i => i = ch) w w' := by
  refine calls_of_loneTo fun cs => ?_
  have e : Frame.enter Try.prog 59 #[.pointer (some ⟨nb, 0, none⟩)] .normal = (base 59).at ⟨#[.pointer (some ⟨nb, 0, none⟩), undef, undef, undef, undef, undef, undef, undef, undef, undef, undef, undef, undef, undef, undef], []⟩ [.code (Try.f59.body.getD .skip)] := by
    simp [Frame.enter, Frame.at, Try.func59, base, Try.f59]
  rw [e]
  have hlt := World.block_lt_of_cell? w _ h
  have hcl : ch < w.heap.size := lt_of_block hc
  have hc1 : ∀ o, (w.alloc o).heap[ch]? = some (.chan cap (.agg #[.int .i64 t, .slice a n c] :: rest).toArray false s r false) := fun o => by rw [Below.heap_alloc _ _ _ hcl]; exact hc
  refine LoneTo.goes (n := 60) ?_
  simp only [Try.f59, Option.getD_some]
  s_c stepG_seq
  s_reg
  s_op
  s_op
  s_c stepG_region_end
  s_c stepG_seq
  s_reg
  s_op
  s_op
  s_op
  s_op
  s_c stepG_region_end
  s_c stepG_seq
  s_reg
  s_stop
  refine LoneTo.step (step_lone_sel_recv_buf (k := 0) (c := ch) (z := .agg #[.int .i64 0, .slice none 0 0]) (cap := cap) (buf := (.agg #[.int .i64 t, .slice a n c] :: rest).toArray) (closed := false) (s := s) (r := r) (tm := false)
    (stepG_comm (cases := #[rcase ch (.agg #[.int .i64 0, .slice none 0 0])]) (blocking := false) (shape := .select) (w' := w.alloc (.cells #[.int .i64 0, .slice none 0 0] 43)) rfl rfl (by decide) (by simp [go_sem, execOp, rcase, Act.eval]))
    rfl (fun m c' hm hc' => ?_) (hc1 _) (by simp)) ?_
  · rcases m with _ | m
    · exact absurd rfl hm
    · simp at hc'
  have hx : ((Value.agg #[.int .i64 t, .slice a n c] :: rest).toArray).extract 1 ((Value.agg #[.int .i64 t, .slice a n c] :: rest).toArray).size = rest.toArray := by simp
  have hg : ((Value.agg #[.int .i64 t, .slice a n c] :: rest).toArray).getD 0 undef = .agg #[.int .i64 t, .slice a n c] := by simp
  rw [Frame.finish_at, hx, hg, res_r_some]
  have q0 : ((w.alloc (.cells #[.int .i64 0, .slice none 0 0] 43)).setChan ch cap rest.toArray false s (r + 1) false).heap[w.heap.size]? = some (.cells #[.int .i64 0, .slice none 0 0] 43) := by
    rw [setChan_far _ _ _ _ _ _ _ _ _ (by omega)]; exact heap_alloc_new w _
  have q1 : ((w.alloc (.cells #[.int .i64 0, .slice none 0 0] 43)).setChan ch cap rest.toArray false s (r + 1) false).heap[ch]? = some (.chan cap rest.toArray false s (r + 1) false) := heap_setChan _ _ _ _ _ _ _ _ (by simp; omega)
  have q2 : Frm (fun i => i = ch) w ((w.alloc (.cells #[.int .i64 0, .slice none 0 0] 43)).setChan ch cap rest.toArray false s (r + 1) false) := (Frm.alloc _ w _).trans (Frm.setChan _ _ _ _ _ _ _ _) fun _ _ h => h
  have q3 : ((w.alloc (.cells #[.int .i64 0, .slice none 0 0] 43)).setChan ch cap rest.toArray false s (r + 1) false).heap.size = w.heap.size + 1 := by rw [size_setChan]; simp
  generalize (w.alloc (.cells #[.int .i64 0, .slice none 0 0] 43)).setChan ch cap rest.toArray false s (r + 1) false = w3 at *
  have c0 : w3.cell? ⟨w.heap.size, 0, none⟩ = some (.int .i64 0) := cell_of_row w3 _ 0 _ _ _ q0
  have c1 : w3.cell? ⟨w.heap.size, 1, none⟩ = some (.slice none 0 0) := cell_of_row w3 _ 1 _ _ _ q0
  have f0 : w3.frozen? ⟨w.heap.size, 0, none⟩ = false := by simp [World.frozen?, q0]
  have f1 : w3.frozen? ⟨w.heap.size, 1, none⟩ = false := by simp [World.frozen?, q0]
  walk_nrm
  refine LoneTo.goes (n := 60) ?_
  s_op
  s_op
  s_c stepG_region_end
  s_c stepG_block
  s_cond true
  s_c stepG_seq
  s_reg
  s_op
  s_op
  s_op
  s_c stepG_region_end
  s_c stepG_seq
  s_reg
  s_op
  s_op
  s_op
  s_c stepG_region_end
  s_c stepG_ret'
  s_stop
  have r1 := set_at q0 0 (.int .i64 t)
  have r2 := set_at r1 1 (.slice a n c)
  have fr1 : Frm (fun i => i = w.heap.size) w3 ((w3.setCell ⟨w.heap.size, 0, none⟩ (.int .i64 t)).setCell ⟨w.heap.size, 1, none⟩ (.slice a n c)) :=
    (Frm.setCell (S := fun i => i = w.heap.size) w3 (p := ⟨w.heap.size, 0, none⟩) (.inl rfl) _).trans (Frm.setCell (S := fun i => i = w.heap.size) _ (p := ⟨w.heap.size, 1, none⟩) (.inl rfl) _) fun _ _ h => h
  have fr2 := fr1.trans (Frm.alloc (fun _ => False) _ (.cells #[.int .i64 t, .slice a n c] 43)) fun _ _ h => h.elim
  have r3 := (Below.heap_alloc _ (Obj.cells #[Value.int .i64 t, .slice a n c] 43) _ (lt_of_block r2)).trans r2
  have d0 := cell_of_row _ _ 0 _ _ _ r3
  have d1 := cell_of_row _ _ 1 _ _ _ r3
  have d2 := fr2.blk q1 (fun h : ch = w.heap.size => by omega)
  simp at d0 d1
  refine LoneTo.done ⟨.returned (.tuple #[.agg #[.int .i64 t, .slice a n c], .bool true]), _, rfl, ⟨rfl, d2, q2.trans fr2 fun i hi hs => by have h1 : i = w.heap.size := hs; omega⟩, rfl, rfl, rfl, rfl, _, Try.func59, ?_⟩
  simp [results, Try.f59, Frame.at, go_sem, d0, d1]

end Go.Proofs.Ytclihppeaikhiaa
