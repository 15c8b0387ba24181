/- net: Send: the walk (a call, then a select of one send and a default, in one goroutine). -/
import Derived.Test.YtclihppeaikhiaaNetCall
namespace Go.Proofs.Ytclihppeaikhiaa
open Go.Conc Go.RowKit

theorem LoneTo.call {P : Program} {Q : Goroutine → World → Prop} {ops : Array Oper} {i : Nat} {rest : List Nat} {o : Oper} {f : FuncId} {fn : Func} {c : Code} {args : Array Operand} {ats : Array TypeId} {b : Frame} {a : Act} {k : List Go.Item} {cs : List Frame} {w : World} {R : Ending → World → Prop}
    (ho : ops[i]? = some o) (hw : Region.wanted o (yielded ops a.tmps) = true) (hk : b.kind ≠ .early) (hop : o.op = .call { callee := .value (.func f), args, argTypes := ats })
    (hf : P.funcs[f]? = some fn) (hname : (fn.name == "runtime.NumGoroutine") = false) (hb : fn.body = some c)
    {vs : Array Value} (hv : args.map a.eval = vs) (h : Calls P f vs w R) (hR : ∀ e w', R e w' → ∃ v, e = .returned v ∧ LoneTo P Q (G ((b.at a (.inRegion ops (i :: rest) :: k)).finish v) cs) w') :
    LoneTo P Q (G (b.at a (.inRegion ops (i :: rest) :: k)) cs) w := by
  refine LoneTo.goes (n := 1) ?_
  refine Goes.step rfl (fun w1 h1 => ?_)
  subst h1
  refine goes_call ho hw hk hop hf hname hb ⟨trivial, ?_⟩
  refine Goes.stop (fun w2 h2 => ?_)
  subst h2
  have e : Frame.enter P f (args.map a.eval) .normal = (base f).at { tmps := args.map a.eval ++ Array.replicate (fn.ntmps - (args.map a.eval).size) undef, defers := [] } [.code c] := by
    simp [Frame.enter, Frame.at, hf, hb, base]
  rw [← e, hv]
  exact LoneTo.called h hR

theorem res_s_some (a : Nat) (z v : Value) : commResult #[scase a v z] .select ((0 : Nat) : Int) undef false = .tuple #[goInt 0, .bool false] := by
  simp [commResult, scase, List.zipIdx_cons]
theorem res_s_default (a : Nat) (z v : Value) : commResult #[scase a v z] .select (-1) undef false = .tuple #[goInt (-1), .bool false] := by
  simp [commResult, scase, List.zipIdx_cons]

set_option maxRecDepth 100000 in
theorem send_room (nb ch cap s r : Nat) (t : Int) (v : Value) (bs : List UInt8) (buf : List Value) (w : World) (h : w.cell? ⟨nb, 0, none⟩ = some (.chan (some ch))) (hc : w.heap[ch]? = some (.chan cap buf.toArray false s r false)) (hroom : buf.length < cap)
    (hv : Rd w v bs.length (bV bs)) (hl : bs.length ≤ 140737488355328) :
    Calls Try.prog 22 #[.pointer (some ⟨nb, 0, none⟩), .agg #[.int .i64 t, v]] w fun e w' => e = .returned (.int .i64 0) ∧ ∃ v' w1, Copy w v' bs w1 ∧ Frm (fun i => i = ch) w1 w' ∧ w'.heap[ch]? = some (.chan cap (buf ++ [Value.agg #[.int .i64 t, v']]).toArray false (s + 1) r false) := by
  refine calls_of_loneTo fun cs => ?_
  have e : Frame.enter Try.prog 22 #[.pointer (some ⟨nb, 0, none⟩), .agg #[.int .i64 t, v]] .normal = (base 22).at ⟨#[.pointer (some ⟨nb, 0, none⟩), .agg #[.int .i64 t, v], undef, undef, undef, undef, undef, undef, undef, undef, undef, undef, undef, undef, undef, undef], []⟩ [.code (Try.f22.body.getD .skip)] := by
    simp [Frame.enter, Frame.at, Try.func22, base, Try.f22]
  rw [e]
  have hlt := World.block_lt_of_cell? w _ h
  obtain ⟨a, c, rfl⟩ : ∃ a c, v = .slice a bs.length c := by
    rcases hv with ⟨ad, h1, h2, h3⟩ | ⟨b, off, c, h1, h2⟩
    · exact ⟨ad, 0, by rw [h1, h2]⟩
    · exact ⟨_, c, h1⟩
  refine LoneTo.goes (n := 60) ?_
  simp only [Try.f22, Option.getD_some]
  s_c stepG_seq
  s_reg
  s_op
  s_op
  s_c stepG_region_end
  s_c stepG_seq
  s_c stepG_seq
  s_reg
  s_op
  s_op
  s_c stepG_region_end
  s_cond false
  s_c stepG_skip
  s_c stepG_seq
  s_c stepG_seq
  s_reg
  s_op
  s_op
  s_op
  s_op
  s_c stepG_region_end
  s_reg
  s_op
  s_stop
  have hf : Frm (fun _ => False) w (w.alloc (.cells #[.int .i64 t, .slice a bs.length c] 43)) := Frm.alloc _ w _
  refine LoneTo.call rfl rfl (by decide) rfl Try.func47 (by kernel_rfl) rfl (by simp [Act.eval]) (clone_par _ t _ bs (hv.keep hf fun _ _ h => h) hl) ?_
  rintro e w1 ⟨v', rfl, hcp⟩
  refine ⟨_, rfl, ?_⟩
  rw [Frame.finish_at]
  walk_nrm
  have hcw := hcp.frm.blk (hf.blk hc id) id
  have hcp' := hcp.weaken hf
  refine LoneTo.goes (n := 60) ?_
  s_c stepG_region_end
  s_c stepG_seq
  s_reg
  s_stop
  refine LoneTo.step (step_lone_sel_send_room (k := 0) (c := ch) (v := .agg #[.int .i64 t, v']) (z := .agg #[.int .i64 0, .slice none 0 0]) (cap := cap) (buf := buf.toArray) (s := s) (r := r) (tm := false)
    (stepG_comm (cases := #[scase ch (.agg #[.int .i64 t, v']) (.agg #[.int .i64 0, .slice none 0 0])]) (blocking := false) (shape := .select) (w' := w1) rfl rfl (by decide) (by simp [go_sem, execOp, scase, Act.eval]))
    rfl (fun m c' hm hc' => ?_) hcw (by simpa using hroom)) ?_
  · rcases m with _ | m
    · exact absurd rfl hm
    · simp at hc'
  rw [Frame.finish_at, res_s_some]
  walk_nrm
  refine LoneTo.goes (n := 60) ?_
  s_op
  s_op
  s_c stepG_region_end
  s_c stepG_block
  s_cond true
  s_c stepG_seq
  s_reg
  s_op
  s_c stepG_region_end
  s_c stepG_ret'
  s_stop
  refine LoneTo.done ⟨.returned (.int .i64 0), _, rfl, ⟨rfl, v', w1, hcp', Frm.setChan _ _ _ _ _ _ _ _, ?_⟩, rfl, rfl, rfl, rfl, _, Try.func22, by simp [results, Try.f22, Frame.at]⟩
  rw [heap_setChan _ _ _ _ _ _ _ _ (lt_of_block hcw)]

set_option maxRecDepth 100000 in
theorem send_full (nb ch cap s r : Nat) (t : Int) (v : Value) (bs : List UInt8) (buf : List Value) (w : World) (h : w.cell? ⟨nb, 0, none⟩ = some (.chan (some ch))) (hc : w.heap[ch]? = some (.chan cap buf.toArray false s r false)) (hroom : cap ≤ buf.length)
    (hv : Rd w v bs.length (bV bs)) (hl : bs.length ≤ 140737488355328) :
    Calls Try.prog 22 #[.pointer (some ⟨nb, 0, none⟩), .agg #[.int .i64 t, v]] w fun e w' => e = .returned (.int .i64 4) ∧ Frm (fun _ => False) w w' := by
  refine calls_of_loneTo fun cs => ?_
  have e : Frame.enter Try.prog 22 #[.pointer (some ⟨nb, 0, none⟩), .agg #[.int .i64 t, v]] .normal = (base 22).at ⟨#[.pointer (some ⟨nb, 0, none⟩), .agg #[.int .i64 t, v], undef, undef, undef, undef, undef, undef, undef, undef, undef, undef, undef, undef, undef, undef], []⟩ [.code (Try.f22.body.getD .skip)] := by
    simp [Frame.enter, Frame.at, Try.func22, base, Try.f22]
  rw [e]
  have hlt := World.block_lt_of_cell? w _ h
  obtain ⟨a, c, rfl⟩ : ∃ a c, v = .slice a bs.length c := by
    rcases hv with ⟨ad, h1, h2, h3⟩ | ⟨b, off, c, h1, h2⟩
    · exact ⟨ad, 0, by rw [h1, h2]⟩
    · exact ⟨_, c, h1⟩
  refine LoneTo.goes (n := 60) ?_
  simp only [Try.f22, Option.getD_some]
  s_c stepG_seq
  s_reg
  s_op
  s_op
  s_c stepG_region_end
  s_c stepG_seq
  s_c stepG_seq
  s_reg
  s_op
  s_op
  s_c stepG_region_end
  s_cond false
  s_c stepG_skip
  s_c stepG_seq
  s_c stepG_seq
  s_reg
  s_op
  s_op
  s_op
  s_op
  s_c stepG_region_end
  s_reg
  s_op
  s_stop
  have hf : Frm (fun _ => False) w (w.alloc (.cells #[.int .i64 t, .slice a bs.length c] 43)) := Frm.alloc _ w _
  refine LoneTo.call rfl rfl (by decide) rfl Try.func47 (by kernel_rfl) rfl (by simp [Act.eval]) (clone_par _ t _ bs (hv.keep hf fun _ _ h => h) hl) ?_
  rintro e w1 ⟨v', rfl, hcp⟩
  refine ⟨_, rfl, ?_⟩
  rw [Frame.finish_at]
  walk_nrm
  have hcw := hcp.frm.blk (hf.blk hc id) id
  have hcp' := hcp.weaken hf
  refine LoneTo.goes (n := 60) ?_
  s_c stepG_region_end
  s_c stepG_seq
  s_reg
  s_stop
  refine LoneTo.step (step_lone_sel_default
    (stepG_comm (cases := #[scase ch (.agg #[.int .i64 t, v']) (.agg #[.int .i64 0, .slice none 0 0])]) (blocking := false) (shape := .select) (w' := w1) rfl rfl (by decide) (by simp [go_sem, execOp, scase, Act.eval]))
    (fun cc hcc => ?_)) ?_
  · simp only [List.mem_toArray, List.mem_cons, List.not_mem_nil, or_false] at hcc
    subst hcc
    exact noWay_send hcw (by simpa using hroom)
  rw [Frame.finish_at, res_s_default]
  walk_nrm
  refine LoneTo.goes (n := 60) ?_
  s_op
  s_op
  s_c stepG_region_end
  s_c stepG_block
  s_cond false
  s_c stepG_seq
  s_reg
  s_op
  s_c stepG_region_end
  s_c stepG_ret'
  s_stop
  exact LoneTo.done ⟨.returned (.int .i64 4), _, rfl, ⟨rfl, hcp'.frm⟩, rfl, rfl, rfl, rfl, _, Try.func22, by simp [results, Try.f22, Frame.at]⟩

end Go.Proofs.Ytclihppeaikhiaa
