/- net: turn: the walk (a loop of a call, a call of a closure, and a send that draws its order, in one goroutine). -/
import Derived.Test.YtclihppeaikhiaaNetNew
import Derived.Conc.CompanyDraw
namespace Go.Proofs.Ytclihppeaikhiaa
open Go.Conc Go.RowKit

/-- Every order in which a region's operations may come up. -/
def allOrders (md : Region.Mode) (ops : Array Oper) : Nat → Array Bool → List (List Nat)
  | 0, _ => [[]]
  | f + 1, l => match Region.ready md ops l with
    | [] => [[]]
    | rs => rs.flatMap fun i => (allOrders md ops f (l.setIfInBounds i true)).map (i :: ·)
theorem mem_allOrders (md : Region.Mode) (ops : Array Oper) : ∀ (fuel t : Nat) (listed : Array Bool), Region.linearise.go md ops fuel t listed [] ∈ allOrders md ops fuel listed := by
  intro fuel
  induction fuel with
  | zero => intro t listed; simp [Region.linearise.go, allOrders]
  | succ fuel ih =>
    intro t listed
    simp only [Region.linearise.go]
    change (match (Region.ready md ops listed)[t % (Region.ready md ops listed).length]? with
      | some i => Region.linearise.go md ops fuel (t / (Region.ready md ops listed).length) (listed.setIfInBounds i true) [i]
      | none => [].reverse) ∈ _
    unfold allOrders
    cases hr : Region.ready md ops listed with
    | nil => simp
    | cons x xs =>
      have hlt : t % (x :: xs).length < (x :: xs).length := Nat.mod_lt _ (by simp)
      rw [List.getElem?_eq_getElem hlt]
      simp only []
      rw [linearise_go_acc, List.reverse_singleton, List.singleton_append]
      exact List.mem_flatMap.2 ⟨_, List.getElem_mem hlt, List.mem_map.2 ⟨_, ih _ _, rfl⟩⟩
theorem mem_schedule (mixed : Bool) (ops : Array Oper) (t : Nat) (hd : Region.departs ops = false) : Region.schedule mixed ops t ∈ allOrders .any ops ops.size (Array.replicate ops.size false) := by
  simp only [Region.schedule, hd, Bool.not_false, Bool.or_true, if_true]
  exact mem_allOrders .any ops ops.size t _

theorem LoneTo.draw {P : Program} {Q : Goroutine → World → Prop} {ops : Array Oper} {id : Nat} {b : Frame} {a : Act} {k : List Go.Item} {cs : List Frame} {w : World} (hd : Region.departs ops = false) {os : List (List Nat)} (ho : allOrders .any ops ops.size (Array.replicate ops.size false) = os)
    (h : ∀ l ∈ os, LoneTo P Q (G (b.at a (.inRegion ops l :: k)) cs) w.drew) : LoneTo P Q (G (b.at a (.code (.region id ops true) :: k)) cs) w := by
  refine LoneTo.step (step_solo_go rfl stepG_region_draw) (h _ ?_)
  rw [← ho]
  exact mem_schedule _ _ _ hd

theorem LoneTo.callv {P : Program} {Q : Goroutine → World → Prop} {ops : Array Oper} {i : Nat} {rest : List Nat} {o : Oper} {x : Operand} {f : FuncId} {cap : Array Value} {fn : Func} {args : Array Operand} {ats : Array TypeId} {b : Frame} {a : Act} {k : List Go.Item} {cs : List Frame} {w : World} {R : Ending → World → Prop}
    (ho : ops[i]? = some o) (hw : Region.wanted o (yielded ops a.tmps) = true) (hk : b.kind ≠ .early) (hop : o.op = .call { callee := .value x, args, argTypes := ats }) (hx : a.eval x = .func (.func f) #[] cap)
    (hf : P.funcs[f]? = some fn) (hname : (fn.name == "runtime.NumGoroutine") = false) (hb : fn.body.isNone = false)
    {vs : Array Value} (hv : args.map a.eval ++ cap = vs) (h : Calls P f vs w R) (hR : ∀ e w', R e w' → ∃ v, e = .returned v ∧ LoneTo P Q (G ((b.at a (.inRegion ops (i :: rest) :: k)).finish v) cs) w') :
    LoneTo P Q (G (b.at a (.inRegion ops (i :: rest) :: k)) cs) w := by
  have h1 : ¬ fn.name = "runtime.NumGoroutine" := by simpa using hname
  have h2 : ¬ fn.body = none := by cases hx : fn.body <;> simp_all
  have hr : (execOp a.eval o).run P w = .ok (.enter f (args.map a.eval ++ cap)) w := by
    unfold execOp
    simp [hop, resolve, Deferred.ofValue, invoke, callFunc, hf, h1, h2, hx]
  refine LoneTo.step (step_solo_go rfl (stepG_enter ho hw hk hr)) ?_
  rw [hv]
  exact LoneTo.called h hR

def sndSeq : Code → Code | .seq _ b => b | c => c
def unBlock : Code → Code | .block _ c => c | c => c
def unLoop : Code → Code | .loop c => c | c => c
noncomputable def tLoop : Code := unLoop (unBlock (sndSeq (Try.f49.body.getD .skip)))

/-- What the call comes to. -/
def TEnds (cs : List Frame) (R : World → Prop) (g' : Goroutine) (w' : World) : Prop := ∃ e fr, g' = G fr cs ∧ (e = .returned (.tuple #[]) ∧ R w') ∧ fr.fn = 49 ∧ fr.leaving Try.prog w' e

/-- What a turn's closure is told of: what is done, what is left, and the world; and what it does. -/
structure TurnJ (fv : FuncId) (fcap : Array Value) (nb ch : Nat) (J : Nat → List Value → List Value → World → Prop) : Prop where
  stable : ∀ k d r w w', J k d r w → Frm (fun i => i = ch) w w' → J k d r w'
  shape : ∀ k d p r w, J k d (p :: r) w → ∃ t a n c, p = .agg #[.int .i64 t, .slice a n c]
  step : ∀ (k : Nat) d p r w, J k d (p :: r) w → Calls Try.prog fv (#[.int .i64 k, p] ++ fcap) w fun e w' => ∃ t a n c b, e = .returned (.tuple #[.agg #[.int .i64 t, .slice a n c], .bool b]) ∧
    w'.heap[ch]? = w.heap[ch]? ∧ w'.heap[nb]? = w.heap[nb]? ∧ w.heap.size ≤ w'.heap.size ∧ J (k + 1) (if b = true then d ++ [.agg #[.int .i64 t, .slice a n c]] else d) r w'

set_option maxRecDepth 100000 in
theorem turn_exit (cs : List Frame) (R : World → Prop) (w : World) (hR : R w) (n : Int) (nb : Nat) (fv : FuncId) (fcap : Array Value) (j2 j3 j4 j5 j6 j7 j8 j9 j10 j11 j12 j15 j16 j17 j18 j19 j20 j21 j22 j23 j24 j25 j26 j27 j28 j29 j30 j31 j32 j33 j34 j35 : Value) :
    LoneTo Try.prog (TEnds cs R) (G ((base 49).at ⟨#[.pointer (some ⟨nb, 0, none⟩), .func (.func fv) #[] fcap, j2, j3, j4, j5, j6, j7, j8, j9, j10, j11, j12, .int .i64 n, .int .i64 n, j15, j16, j17, j18, j19, j20, j21, j22, j23, j24, j25, j26, j27, j28, j29, j30, j31, j32, j33, j34, j35], []⟩ [.code tLoop, .inLoop tLoop, .inBlock 0]) cs) w := by
  have hn : ¬ n < n := by omega
  refine LoneTo.goes (n := 60) ?_
  simp only [tLoop, Try.f49, Option.getD_some, sndSeq, unBlock, unLoop]
  s_c stepG_seq
  s_reg
  s_op
  s_c stepG_region_end
  s_c stepG_seq
  s_cond false
  s_exit
  s_c stepG_end
  s_stop
  exact LoneTo.done ⟨.returned (.tuple #[]), _, rfl, ⟨rfl, hR⟩, rfl, rfl, rfl, rfl, _, Try.func49, by simp [results, Try.f49, Frame.at]⟩

set_option maxHeartbeats 400000 in
set_option maxRecDepth 100000 in
theorem turn_loop (cs : List Frame) (R : World → Prop) (nb ch cap n : Nat) (hn : n < 9223372036854775807) (fv : FuncId) (fcap : Array Value) (fn : Func) (hfn : Try.prog.funcs[fv]? = some fn) (hname : (fn.name == "runtime.NumGoroutine") = false) (hbody : fn.body.isNone = false) (J : Nat → List Value → List Value → World → Prop) (hJ : TurnJ fv fcap nb ch J)
    (hR : ∀ d s r w, d.length ≤ n → w.heap[ch]? = some (.chan cap d.toArray false s r false) → J n d [] w → R w) (hcap : n ≤ cap) :
    ∀ (left : List Value) (k : Nat) (d : List Value) (s r : Nat) (w : World) (j2 j3 j4 j5 j6 j7 j8 j9 j10 j11 j12 j15 j16 j17 j18 j19 j20 j21 j22 j23 j24 j25 j26 j27 j28 j29 j30 j31 j32 j33 j34 j35 : Value), k + left.length = n → d.length ≤ k → w.cell? ⟨nb, 0, none⟩ = some (.chan (some ch)) → w.heap[ch]? = some (.chan cap (left ++ d).toArray false s r false) → J k d left w →
    LoneTo Try.prog (TEnds cs R) (G ((base 49).at ⟨#[.pointer (some ⟨nb, 0, none⟩), .func (.func fv) #[] fcap, j2, j3, j4, j5, j6, j7, j8, j9, j10, j11, j12, .int .i64 n, .int .i64 k, j15, j16, j17, j18, j19, j20, j21, j22, j23, j24, j25, j26, j27, j28, j29, j30, j31, j32, j33, j34, j35], []⟩ [.code tLoop, .inLoop tLoop, .inBlock 0]) cs) w := by
  intro left
  induction left with
  | nil =>
    intro k d s r w j2 j3 j4 j5 j6 j7 j8 j9 j10 j11 j12 j15 j16 j17 j18 j19 j20 j21 j22 j23 j24 j25 j26 j27 j28 j29 j30 j31 j32 j33 j34 j35 hk hd hcell hch hj
    simp only [List.length_nil, Nat.add_zero] at hk
    subst hk
    exact turn_exit cs R w (hR d s r w hd (by simpa using hch) hj) _ nb fv fcap _ _ _ _ _ _ _ _ _ _ _ _ _ _ _ _ _ _ _ _ _ _ _ _ _ _ _ _ _ _ _ _
  | cons p left ih =>
    intro k d s r w j2 j3 j4 j5 j6 j7 j8 j9 j10 j11 j12 j15 j16 j17 j18 j19 j20 j21 j22 j23 j24 j25 j26 j27 j28 j29 j30 j31 j32 j33 j34 j35 hk hd hcell hch hj
    simp only [List.length_cons] at hk
    obtain ⟨t, a, m, c, rfl⟩ := hJ.shape _ _ _ _ _ hj
    have hkn : (k : Int) < n := by omega
    have hlt := World.block_lt_of_cell? w _ hcell
    have hcl : ch < w.heap.size := lt_of_block hch
    have hw1 : IntKind.i64.wrap ((k : Int) + 1) = ((k + 1 : Nat) : Int) := by rw [wrap_small ((k : Int) + 1) (by omega) (by omega)]; rfl
    refine LoneTo.goes (n := 60) ?_
    simp only [tLoop, Try.f49, Option.getD_some, sndSeq, unBlock, unLoop]
    s_c stepG_seq
    s_reg
    s_op
    s_c stepG_region_end
    s_c stepG_seq
    s_cond true
    s_c stepG_skip
    s_c stepG_seq
    s_c stepG_block
    s_c stepG_seq
    s_reg
    s_op
    s_op
    s_c stepG_region_end
    s_c stepG_seq
    s_reg
    s_op
    s_stop
    refine LoneTo.call rfl rfl (by decide) rfl Try.func59 (by kernel_rfl) rfl (by simp [Act.eval]) (first_some nb ch cap s r t a m c (left ++ d) w hcell (by simpa using hch)) ?_
    rintro e w1 ⟨rfl, hq, hf⟩
    refine ⟨_, rfl, ?_⟩
    rw [Frame.finish_at]
    walk_nrm
    refine LoneTo.goes (n := 60) ?_
    s_op
    s_op
    s_op
    s_op
    s_op
    s_op
    s_c stepG_region_end
    s_c stepG_seq
    s_reg
    have q2 := heap_alloc_new w1 (.cells #[.int .i64 t, .slice a m c] 43)
    have f1 : Frm (fun i => i = ch) w1 (w1.alloc (.cells #[.int .i64 t, .slice a m c] 43)) := Frm.alloc _ w1 _
    have q3 : (w1.alloc (.cells #[.int .i64 t, .slice a m c] 43)).heap[ch]? = some (.chan cap (left ++ d).toArray false s (r + 1) false) := (Below.heap_alloc _ _ _ (lt_of_block hq)).trans hq
    generalize w1.alloc (.cells #[.int .i64 t, .slice a m c] 43) = w3 at *
    have c0 := cell_at q2 0 rfl
    have c1 := cell_at q2 1 rfl
    have g1 := hf.trans f1 fun _ _ h => h
    have j3' := hJ.stable _ _ _ _ _ hj g1
    s_op
    s_op
    s_op
    s_stop
    refine LoneTo.callv rfl rfl (by decide) rfl rfl hfn hname hbody (by simp [Act.eval]) (hJ.step _ _ _ _ _ j3') ?_
    rintro e w4 ⟨t', a', m', c', b, rfl, k1, k2, k3, k4⟩
    refine ⟨_, rfl, ?_⟩
    rw [Frame.finish_at]
    walk_nrm
    refine LoneTo.goes (n := 60) ?_
    s_op
    s_op
    s_op
    s_op
    s_op
    s_op
    have q4 := heap_alloc_new w4 (.cells #[.int .i64 t', .slice a' m' c'] 43)
    have f4 : Frm (fun i => i = ch) w4 (w4.alloc (.cells #[.int .i64 t', .slice a' m' c'] 43)) := Frm.alloc _ w4 _
    have hne : nb ≠ ch := fun h => by subst h; simp [World.cell?, hch] at hcell
    have hc4 : w4.cell? ⟨nb, 0, none⟩ = some (.chan (some ch)) := by
      have h3 := g1.cell' hcell (fun h => hne h)
      simp only [World.cell?, k2] at h3 ⊢
      exact h3
    have hc5 := f4.cell' hc4 (fun h => hne h)
    have q5 := (Below.heap_alloc w4 (.cells #[.int .i64 t', .slice a' m' c'] 43) _ (lt_of_block (k1.trans q3))).trans (k1.trans q3)
    have j5' := hJ.stable _ _ _ _ _ k4 f4
    generalize w4.alloc (.cells #[.int .i64 t', .slice a' m' c'] 43) = w5 at *
    have e0 : w5.cell? ⟨w4.heap.size, 0, none⟩ = some (.int .i64 t') := cell_at q4 0 rfl
    have e1 : w5.cell? ⟨w4.heap.size, 1, none⟩ = some (.slice a' m' c') := cell_at q4 1 rfl
    s_c stepG_region_end
    s_c stepG_seq
    s_reg
    s_op
    s_c stepG_region_end
    cases b with
    | false =>
      s_cond false
      s_c stepG_skip
      s_c stepG_inBlock
      s_reg
      s_op
      s_op
      s_c stepG_region_end
      s_c stepG_inLoop
      s_stop
      exact ih (k + 1) d s (r + 1) w5 _ _ _ _ _ _ _ _ _ _ _ _ _ _ _ _ _ _ _ _ _ _ _ _ _ _ _ _ _ _ _ _ (by omega) (by omega) hc5 q5 j5'
    | true =>
      s_cond true
      s_stop
      refine LoneTo.draw (by kernel_rfl) (os := [[0, 1, 2, 3, 4, 5], [0, 1, 2, 4, 3, 5], [0, 1, 4, 2, 3, 5], [0, 4, 1, 2, 3, 5], [4, 0, 1, 2, 3, 5]]) (by kernel_rfl) ?_
      have f5 : Frm (fun i => i = ch) w5 w5.drew := Frm.drew _ _
      have hc6 := f5.cell' hc5 (fun h => hne h)
      have q6 : w5.drew.heap[ch]? = some (.chan cap (left ++ d).toArray false s (r + 1) false) := q5
      have j6' := hJ.stable _ _ _ _ _ j5' f5
      have e0' : w5.drew.cell? ⟨w4.heap.size, 0, none⟩ = some (.int .i64 t') := e0
      have e1' : w5.drew.cell? ⟨w4.heap.size, 1, none⟩ = some (.slice a' m' c') := e1
      generalize w5.drew = w6 at *
      have f7 := Frm.setChan w6 ch cap (left ++ (d ++ [Value.agg #[.int .i64 t', .slice a' m' c']])).toArray false (s + 1) (r + 1) false
      have hc7 := f7.cell' hc6 (fun h => hne h)
      have q7 := heap_setChan w6 ch cap (left ++ (d ++ [Value.agg #[.int .i64 t', .slice a' m' c']])).toArray false (s + 1) (r + 1) false (lt_of_block q6)
      have j7' := hJ.stable _ _ _ _ _ j6' f7
      intro l hl
      simp only [List.mem_cons, List.not_mem_nil, or_false] at hl
      rcases hl with rfl | rfl | rfl | rfl | rfl
      all_goals
        refine LoneTo.goes (n := 60) ?_
        s_op
        s_op
        s_op
        s_op
        s_op
        s_stop
        refine LoneTo.step (step_lone_send_room (c := ch) (cap := cap) (buf := (left ++ d).toArray) (s := s) (r := r + 1) (tm := false) (stepG_comm (cases := #[scase ch (.agg #[.int .i64 t', .slice a' m' c']) (.tuple #[])]) (blocking := true) (shape := .send) (w' := w6) rfl rfl (by decide) (by simp [execOp, scase, Act.eval])) q6 (by simp; omega)) ?_
        rw [Frame.finish_at]
        walk_nrm
        refine LoneTo.goes (n := 60) ?_
        s_c stepG_region_end
        s_c stepG_inBlock
        s_reg
        s_op
        s_op
        s_c stepG_region_end
        s_c stepG_inLoop
        s_stop
        exact ih (k + 1) (d ++ [.agg #[.int .i64 t', .slice a' m' c']]) (s + 1) (r + 1) _ _ _ _ _ _ _ _ _ _ _ _ _ _ _ _ _ _ _ _ _ _ _ _ _ _ _ _ _ _ _ _ _ (by omega) (by simp; omega) hc7 q7 j7'

set_option maxRecDepth 100000 in
theorem turn_any (nb ch cap s r : Nat) (buf : List Value) (w : World) (h : w.cell? ⟨nb, 0, none⟩ = some (.chan (some ch))) (hc : w.heap[ch]? = some (.chan cap buf.toArray false s r false)) (hcap : buf.length ≤ cap) (hn : cap < 9223372036854775807)
    (fv : FuncId) (fcap : Array Value) (fn : Func) (hfn : Try.prog.funcs[fv]? = some fn) (hname : (fn.name == "runtime.NumGoroutine") = false) (hbody : fn.body.isNone = false) (J : Nat → List Value → List Value → World → Prop) (hJ : TurnJ fv fcap nb ch J) (h0 : J 0 [] buf w) :
    Calls Try.prog 49 #[.pointer (some ⟨nb, 0, none⟩), .func (.func fv) #[] fcap] w fun e w' => e = .returned (.tuple #[]) ∧ ∃ d s' r', d.length ≤ buf.length ∧ w'.heap[ch]? = some (.chan cap d.toArray false s' r' false) ∧ J buf.length d [] w' := by
  refine calls_of_loneTo fun cs => ?_
  have e : Frame.enter Try.prog 49 #[.pointer (some ⟨nb, 0, none⟩), .func (.func fv) #[] fcap] .normal = (base 49).at ⟨#[.pointer (some ⟨nb, 0, none⟩), .func (.func fv) #[] fcap, undef, undef, undef, undef, undef, undef, undef, undef, undef, undef, undef, undef, undef, undef, undef, undef, undef, undef, undef, undef, undef, undef, undef, undef, undef, undef, undef, undef, undef, undef, undef, undef, undef, undef], []⟩ [.code (Try.f49.body.getD .skip)] := by
    simp [Frame.enter, Frame.at, Try.func49, base, Try.f49]
  rw [e]
  have hlt := World.block_lt_of_cell? w _ h
  have hl := run_len_chan (P := Try.prog) 93 3 Try.underlying93 hc
  have hloop := turn_loop cs (fun w' => ∃ d s' r', d.length ≤ buf.length ∧ w'.heap[ch]? = some (.chan cap d.toArray false s' r' false) ∧ J buf.length d [] w') nb ch cap buf.length (by omega) fv fcap fn hfn hname hbody J hJ (fun d s r w h1 h2 h3 => ⟨d, s, r, h1, h2, h3⟩) hcap buf 0 [] s r w
  refine LoneTo.goes (n := 60) ?_
  simp only [Try.f49, Option.getD_some]
  s_c stepG_seq
  s_reg
  s_op
  s_op
  s_op
  s_op
  s_op
  s_op
  s_c stepG_region_end
  s_c stepG_block
  s_c stepG_loop
  s_stop
  exact hloop _ _ _ _ _ _ _ _ _ _ _ _ _ _ _ _ _ _ _ _ _ _ _ _ _ _ _ _ _ _ _ _ (by omega) (by simp) h (by simpa using hc) h0

end Go.Proofs.Ytclihppeaikhiaa
