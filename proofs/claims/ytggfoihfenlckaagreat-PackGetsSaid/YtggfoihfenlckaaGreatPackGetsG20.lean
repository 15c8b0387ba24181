/- Words for the law PackGets: Op3, OpEnc, VecEnc, CFull. -/
import Derived.Test.YtggfoihfenlckaaGreatPackGetsG4
import Derived.Test.YtggfoihfenlckaaGreatPackGetsG12
import Derived.Test.YtggfoihfenlckaaGreatPackGetsG19
set_option linter.unusedSimpArgs false
set_option linter.unusedVariables false
/- op: check, Right: the walks. Printed by wip/opgen3.py. -/
namespace Go.Proofs.YtggfoihfenlckaaGreat
open Go.RowKit
def txtB (a : Int) (s : ByteArray) : Bool := if a = 3 ∨ a = 4 then decide (1 ≤ s.size ∧ s.size ≤ 30) else if a = 6 then decide (s.size ≤ 30) else decide (s.size = 0)
def cntB (a n : Int) : Bool := if a = 5 then decide (-1099511627776 ≤ n ∧ n ≤ 1099511627776) else n == 0
def lastS (ss : List ByteArray) : ByteArray := ss.getD (ss.length - 1) ByteArray.empty
/-- May a change be? -/
def opB (ss : List ByteArray) (a : Int) (s : ByteArray) (n : Int) : Bool := (pathE ss == 0) && (actB a (kindOf (lastS ss)) && (txtB a s && cntB a n))
def OpPost (b : Bool) (w : World) (e : Ending) (w' : World) : Prop := ∃ x : Int, e = .returned (.int .i64 x) ∧ (x = 0 ↔ b = true) ∧ Frm NoS w w'
theorem pathE_zero {ss : List ByteArray} (h : pathE ss = 0) : 1 ≤ ss.length ∧ ss.length ≤ 3 := by
  by_cases h1 : ss.length < 1 ∨ 3 < ss.length
  · rw [pathE_len h1] at h; cases h
  · omega
theorem box4 (w : World) (v0 v1 v2 v3 : Value) (T : TypeId) (W : World) (f : Frm NoS (w.alloc (.cells #[v0, v1, v2, v3] T)) W) : W.cell? ⟨w.heap.size, 0, none⟩ = some v0 ∧ W.cell? ⟨w.heap.size, 1, none⟩ = some v1 ∧ W.cell? ⟨w.heap.size, 2, none⟩ = some v2 ∧ W.cell? ⟨w.heap.size, 3, none⟩ = some v3 :=
  ⟨f.cell' (cell_at' (heap_alloc_new w _) 0 rfl) id, f.cell' (cell_at' (heap_alloc_new w _) 1 rfl) id, f.cell' (cell_at' (heap_alloc_new w _) 2 rfl) id, f.cell' (cell_at' (heap_alloc_new w _) 3 rfl) id⟩
set_option maxHeartbeats 8000000 in
set_option maxRecDepth 1000000 in
theorem opCheck_any (ss : List ByteArray) (a n : Int) (s : ByteArray) (w : World) (v : Value) (h : StrsAt w v ss) (hl : ss.length ≤ 100000) :
    Calls Tryz.prog 131 #[.agg #[v, .int .i64 a, .string s, .int .i64 n]] w (OpPost (opB ss a s n) w) := by
  have HP := Lib.hid (fun W (f : Frm NoS w W) => opPath_any ss W v (h.keep0 f) hl)
  by_cases hp : pathE ss = 0
  rotate_left 1
  · have hb : opB ss a s n = false := by unfold opB; rw [show (pathE ss == 0) = false from beq_false_of_ne hp]; rfl
    rw [hb]
    clear hb
    obtain ⟨a0, c0, rfl⟩ := h.sl
    clear h
    generalize pathE ss = x at *
    generalize ss.length = l at *
    have HX := Lib.hid hp
    go_enter Tryz.func131, Tryz.ntmps131
    go_wp2_with (go_at_call 170; go_loud (refine (HP.out _ (Frm.alloc _ _ _)).mono ?_); rintro e w1 ⟨rfl, hw1⟩; have HW1 := Lib.hid ((Frm.alloc NoS _ _).then1 hw1); clear hw1)
    go_ret
    exact ⟨x, rfl, ⟨fun h => absurd h HX.out, fun h => by cases h⟩, HW1.out⟩
  obtain ⟨hl1, hl3⟩ := pathE_zero hp
  rw [hp] at HP
  rcases Rd.shape h with ⟨ad, rfl, h0⟩ | ⟨b, off, c, rfl, hmax⟩
  · omega
  have HQ := Lib.hid (fun W (f : Frm NoS w W) => (show W.cell? ⟨b, off + (ss.length - 1), none⟩ = some (.string (lastS ss)) from str_at (Rd.keep0 h f) (ss.length - 1) (by omega)))
  have HK := Lib.hid (fun W => opKind_any (lastS ss) W)
  have HO := Lib.hid (fun W => opOf_any a W)
  have HB := Lib.hid (show opB ss a s n = (actB a (kindOf (lastS ss)) && (txtB a s && cntB a n)) by unfold opB; rw [hp]; rfl)
  generalize opB ss a s n = bb at *
  generalize kindOf (lastS ss) = K at *
  generalize lastS ss = ls at *
  have hwr : IntKind.i64.wrap ((ss.length : Int) - 1) = ((ss.length - 1 : Nat) : Int) := by rw [IntKind.wrap_i64]; omega
  have hsb : ((ss.length : Int) - 1) = ((ss.length - 1 : Nat) : Int) := by omega
  have hml : ss.length - 1 < ss.length := by omega
  have hbw : b < w.heap.size := World.block_lt_of_cell? _ _ (HQ.out w (Frm.refl _ _))
  clear h hp
  have HBX := Lib.hid (fun W f => box4 w (.slice (some ⟨b, off, none⟩) ss.length c) (.int .i64 a) (.string s) (.int .i64 n) 40 W f)
  generalize ss.length - 1 = m at *
  generalize ss.length = l at *
  have hs : (s = ByteArray.empty) ∨ (0 < s.size ∧ s.toList.isEmpty = false ∧ ¬ s = ByteArray.empty) := by
    by_cases h : 0 < s.size
    · exact .inr ⟨h, str_full h, fun e => by rw [e] at h; exact absurd h (by decide)⟩
    · exact .inl (str_nil h)
  by_cases ha : a = 1 ∨ a = 2 ∨ a = 3 ∨ a = 4 ∨ a = 5 ∨ a = 6 ∨ a = 7
  · rcases hs with rfl | ⟨hs, hem, hne⟩
    · rcases ha with rfl | rfl | rfl | rfl | rfl | rfl | rfl
      · rw [show ofA 1 = 1 from rfl] at HO
        go_enter Tryz.func131, Tryz.ntmps131
        go_wp2_with (first
          | (go_at_call 170; go_loud (refine (HP.out _ (Frm.alloc _ _ _)).mono ?_); rintro e w1 ⟨rfl, hw1⟩; obtain ⟨y0, y1, y2, y3⟩ := HBX.out w1 (hw1); have q0 := HQ.out w1 ((Frm.alloc NoS _ _).then1 hw1); have hbl := World.block_lt_of_cell? _ _ y0; have HW1 := Lib.hid hw1; clear hw1)
          | (go_at_call 171; go_loud (refine (HO.out _).mono ?_); rintro e w2 ⟨rfl, hw2⟩; clear y0 y1 y2 y3 q0 hbl; obtain ⟨y0, y1, y2, y3⟩ := HBX.out w2 (HW1.out.then1 hw2); have q0 := HQ.out w2 ((Frm.alloc NoS _ _).then1 (HW1.out.then1 hw2)); have hbl := World.block_lt_of_cell? _ _ y0; have HW2 := Lib.hid (HW1.out.then1 hw2); clear hw2)
          | (go_at_call 172; go_loud (refine (HK.out _).mono ?_); rintro e w3 ⟨rfl, hw3⟩; clear y0 y1 y2 y3 q0 hbl; obtain ⟨y0, y1, y2, y3⟩ := HBX.out w3 (HW2.out.then1 hw3); have q0 := HQ.out w3 ((Frm.alloc NoS _ _).then1 (HW2.out.then1 hw3)); have hbl := World.block_lt_of_cell? _ _ y0; have HW3 := Lib.hid (HW2.out.then1 hw3); clear hw3))
        all_goals
          go_ret
          refine ⟨_, rfl, ?_, (Frm.alloc NoS w _).then1 (by first | exact HW3.out | exact HW2.out)⟩
          rw [HB.out]
          simp [actB, txtB, cntB]; try simp_all; try omega
      · rw [show ofA 2 = 1 from rfl] at HO
        go_enter Tryz.func131, Tryz.ntmps131
        go_wp2_with (first
          | (go_at_call 170; go_loud (refine (HP.out _ (Frm.alloc _ _ _)).mono ?_); rintro e w1 ⟨rfl, hw1⟩; obtain ⟨y0, y1, y2, y3⟩ := HBX.out w1 (hw1); have q0 := HQ.out w1 ((Frm.alloc NoS _ _).then1 hw1); have hbl := World.block_lt_of_cell? _ _ y0; have HW1 := Lib.hid hw1; clear hw1)
          | (go_at_call 171; go_loud (refine (HO.out _).mono ?_); rintro e w2 ⟨rfl, hw2⟩; clear y0 y1 y2 y3 q0 hbl; obtain ⟨y0, y1, y2, y3⟩ := HBX.out w2 (HW1.out.then1 hw2); have q0 := HQ.out w2 ((Frm.alloc NoS _ _).then1 (HW1.out.then1 hw2)); have hbl := World.block_lt_of_cell? _ _ y0; have HW2 := Lib.hid (HW1.out.then1 hw2); clear hw2)
          | (go_at_call 172; go_loud (refine (HK.out _).mono ?_); rintro e w3 ⟨rfl, hw3⟩; clear y0 y1 y2 y3 q0 hbl; obtain ⟨y0, y1, y2, y3⟩ := HBX.out w3 (HW2.out.then1 hw3); have q0 := HQ.out w3 ((Frm.alloc NoS _ _).then1 (HW2.out.then1 hw3)); have hbl := World.block_lt_of_cell? _ _ y0; have HW3 := Lib.hid (HW2.out.then1 hw3); clear hw3))
        all_goals
          go_ret
          refine ⟨_, rfl, ?_, (Frm.alloc NoS w _).then1 (by first | exact HW3.out | exact HW2.out)⟩
          rw [HB.out]
          simp [actB, txtB, cntB]; try simp_all; try omega
      · rw [show ofA 3 = 2 from rfl] at HO
        go_enter Tryz.func131, Tryz.ntmps131
        go_wp2_with (first
          | (go_at_call 170; go_loud (refine (HP.out _ (Frm.alloc _ _ _)).mono ?_); rintro e w1 ⟨rfl, hw1⟩; obtain ⟨y0, y1, y2, y3⟩ := HBX.out w1 (hw1); have q0 := HQ.out w1 ((Frm.alloc NoS _ _).then1 hw1); have hbl := World.block_lt_of_cell? _ _ y0; have HW1 := Lib.hid hw1; clear hw1)
          | (go_at_call 171; go_loud (refine (HO.out _).mono ?_); rintro e w2 ⟨rfl, hw2⟩; clear y0 y1 y2 y3 q0 hbl; obtain ⟨y0, y1, y2, y3⟩ := HBX.out w2 (HW1.out.then1 hw2); have q0 := HQ.out w2 ((Frm.alloc NoS _ _).then1 (HW1.out.then1 hw2)); have hbl := World.block_lt_of_cell? _ _ y0; have HW2 := Lib.hid (HW1.out.then1 hw2); clear hw2)
          | (go_at_call 172; go_loud (refine (HK.out _).mono ?_); rintro e w3 ⟨rfl, hw3⟩; clear y0 y1 y2 y3 q0 hbl; obtain ⟨y0, y1, y2, y3⟩ := HBX.out w3 (HW2.out.then1 hw3); have q0 := HQ.out w3 ((Frm.alloc NoS _ _).then1 (HW2.out.then1 hw3)); have hbl := World.block_lt_of_cell? _ _ y0; have HW3 := Lib.hid (HW2.out.then1 hw3); clear hw3))
        all_goals
          go_ret
          refine ⟨_, rfl, ?_, (Frm.alloc NoS w _).then1 (by first | exact HW3.out | exact HW2.out)⟩
          rw [HB.out]
          simp [actB, txtB, cntB]; try simp_all; try omega
      · rw [show ofA 4 = 2 from rfl] at HO
        go_enter Tryz.func131, Tryz.ntmps131
        go_wp2_with (first
          | (go_at_call 170; go_loud (refine (HP.out _ (Frm.alloc _ _ _)).mono ?_); rintro e w1 ⟨rfl, hw1⟩; obtain ⟨y0, y1, y2, y3⟩ := HBX.out w1 (hw1); have q0 := HQ.out w1 ((Frm.alloc NoS _ _).then1 hw1); have hbl := World.block_lt_of_cell? _ _ y0; have HW1 := Lib.hid hw1; clear hw1)
          | (go_at_call 171; go_loud (refine (HO.out _).mono ?_); rintro e w2 ⟨rfl, hw2⟩; clear y0 y1 y2 y3 q0 hbl; obtain ⟨y0, y1, y2, y3⟩ := HBX.out w2 (HW1.out.then1 hw2); have q0 := HQ.out w2 ((Frm.alloc NoS _ _).then1 (HW1.out.then1 hw2)); have hbl := World.block_lt_of_cell? _ _ y0; have HW2 := Lib.hid (HW1.out.then1 hw2); clear hw2)
          | (go_at_call 172; go_loud (refine (HK.out _).mono ?_); rintro e w3 ⟨rfl, hw3⟩; clear y0 y1 y2 y3 q0 hbl; obtain ⟨y0, y1, y2, y3⟩ := HBX.out w3 (HW2.out.then1 hw3); have q0 := HQ.out w3 ((Frm.alloc NoS _ _).then1 (HW2.out.then1 hw3)); have hbl := World.block_lt_of_cell? _ _ y0; have HW3 := Lib.hid (HW2.out.then1 hw3); clear hw3))
        all_goals
          go_ret
          refine ⟨_, rfl, ?_, (Frm.alloc NoS w _).then1 (by first | exact HW3.out | exact HW2.out)⟩
          rw [HB.out]
          simp [actB, txtB, cntB]; try simp_all; try omega
      · rw [show ofA 5 = 3 from rfl] at HO
        go_enter Tryz.func131, Tryz.ntmps131
        go_wp2_with (first
          | (go_at_call 170; go_loud (refine (HP.out _ (Frm.alloc _ _ _)).mono ?_); rintro e w1 ⟨rfl, hw1⟩; obtain ⟨y0, y1, y2, y3⟩ := HBX.out w1 (hw1); have q0 := HQ.out w1 ((Frm.alloc NoS _ _).then1 hw1); have hbl := World.block_lt_of_cell? _ _ y0; have HW1 := Lib.hid hw1; clear hw1)
          | (go_at_call 171; go_loud (refine (HO.out _).mono ?_); rintro e w2 ⟨rfl, hw2⟩; clear y0 y1 y2 y3 q0 hbl; obtain ⟨y0, y1, y2, y3⟩ := HBX.out w2 (HW1.out.then1 hw2); have q0 := HQ.out w2 ((Frm.alloc NoS _ _).then1 (HW1.out.then1 hw2)); have hbl := World.block_lt_of_cell? _ _ y0; have HW2 := Lib.hid (HW1.out.then1 hw2); clear hw2)
          | (go_at_call 172; go_loud (refine (HK.out _).mono ?_); rintro e w3 ⟨rfl, hw3⟩; clear y0 y1 y2 y3 q0 hbl; obtain ⟨y0, y1, y2, y3⟩ := HBX.out w3 (HW2.out.then1 hw3); have q0 := HQ.out w3 ((Frm.alloc NoS _ _).then1 (HW2.out.then1 hw3)); have hbl := World.block_lt_of_cell? _ _ y0; have HW3 := Lib.hid (HW2.out.then1 hw3); clear hw3))
        all_goals
          go_ret
          refine ⟨_, rfl, ?_, (Frm.alloc NoS w _).then1 (by first | exact HW3.out | exact HW2.out)⟩
          rw [HB.out]
          simp [actB, txtB, cntB]; try simp_all; try omega
      · rw [show ofA 6 = 4 from rfl] at HO
        go_enter Tryz.func131, Tryz.ntmps131
        go_wp2_with (first
          | (go_at_call 170; go_loud (refine (HP.out _ (Frm.alloc _ _ _)).mono ?_); rintro e w1 ⟨rfl, hw1⟩; obtain ⟨y0, y1, y2, y3⟩ := HBX.out w1 (hw1); have q0 := HQ.out w1 ((Frm.alloc NoS _ _).then1 hw1); have hbl := World.block_lt_of_cell? _ _ y0; have HW1 := Lib.hid hw1; clear hw1)
          | (go_at_call 171; go_loud (refine (HO.out _).mono ?_); rintro e w2 ⟨rfl, hw2⟩; clear y0 y1 y2 y3 q0 hbl; obtain ⟨y0, y1, y2, y3⟩ := HBX.out w2 (HW1.out.then1 hw2); have q0 := HQ.out w2 ((Frm.alloc NoS _ _).then1 (HW1.out.then1 hw2)); have hbl := World.block_lt_of_cell? _ _ y0; have HW2 := Lib.hid (HW1.out.then1 hw2); clear hw2)
          | (go_at_call 172; go_loud (refine (HK.out _).mono ?_); rintro e w3 ⟨rfl, hw3⟩; clear y0 y1 y2 y3 q0 hbl; obtain ⟨y0, y1, y2, y3⟩ := HBX.out w3 (HW2.out.then1 hw3); have q0 := HQ.out w3 ((Frm.alloc NoS _ _).then1 (HW2.out.then1 hw3)); have hbl := World.block_lt_of_cell? _ _ y0; have HW3 := Lib.hid (HW2.out.then1 hw3); clear hw3))
        all_goals
          go_ret
          refine ⟨_, rfl, ?_, (Frm.alloc NoS w _).then1 (by first | exact HW3.out | exact HW2.out)⟩
          rw [HB.out]
          simp [actB, txtB, cntB]; try simp_all; try omega
      · rw [show ofA 7 = 0 from rfl] at HO
        go_enter Tryz.func131, Tryz.ntmps131
        go_wp2_with (first
          | (go_at_call 170; go_loud (refine (HP.out _ (Frm.alloc _ _ _)).mono ?_); rintro e w1 ⟨rfl, hw1⟩; obtain ⟨y0, y1, y2, y3⟩ := HBX.out w1 (hw1); have q0 := HQ.out w1 ((Frm.alloc NoS _ _).then1 hw1); have hbl := World.block_lt_of_cell? _ _ y0; have HW1 := Lib.hid hw1; clear hw1)
          | (go_at_call 171; go_loud (refine (HO.out _).mono ?_); rintro e w2 ⟨rfl, hw2⟩; clear y0 y1 y2 y3 q0 hbl; obtain ⟨y0, y1, y2, y3⟩ := HBX.out w2 (HW1.out.then1 hw2); have q0 := HQ.out w2 ((Frm.alloc NoS _ _).then1 (HW1.out.then1 hw2)); have hbl := World.block_lt_of_cell? _ _ y0; have HW2 := Lib.hid (HW1.out.then1 hw2); clear hw2)
          | (go_at_call 172; go_loud (refine (HK.out _).mono ?_); rintro e w3 ⟨rfl, hw3⟩; clear y0 y1 y2 y3 q0 hbl; obtain ⟨y0, y1, y2, y3⟩ := HBX.out w3 (HW2.out.then1 hw3); have q0 := HQ.out w3 ((Frm.alloc NoS _ _).then1 (HW2.out.then1 hw3)); have hbl := World.block_lt_of_cell? _ _ y0; have HW3 := Lib.hid (HW2.out.then1 hw3); clear hw3))
        all_goals
          go_ret
          refine ⟨_, rfl, ?_, (Frm.alloc NoS w _).then1 (by first | exact HW3.out | exact HW2.out)⟩
          rw [HB.out]
          simp [actB, txtB, cntB]; try simp_all; try omega
    · rcases ha with rfl | rfl | rfl | rfl | rfl | rfl | rfl
      · rw [show ofA 1 = 1 from rfl] at HO
        go_enter Tryz.func131, Tryz.ntmps131
        go_wp2_with (first
          | (go_at_call 170; go_loud (refine (HP.out _ (Frm.alloc _ _ _)).mono ?_); rintro e w1 ⟨rfl, hw1⟩; obtain ⟨y0, y1, y2, y3⟩ := HBX.out w1 (hw1); have q0 := HQ.out w1 ((Frm.alloc NoS _ _).then1 hw1); have hbl := World.block_lt_of_cell? _ _ y0; have HW1 := Lib.hid hw1; clear hw1)
          | (go_at_call 171; go_loud (refine (HO.out _).mono ?_); rintro e w2 ⟨rfl, hw2⟩; clear y0 y1 y2 y3 q0 hbl; obtain ⟨y0, y1, y2, y3⟩ := HBX.out w2 (HW1.out.then1 hw2); have q0 := HQ.out w2 ((Frm.alloc NoS _ _).then1 (HW1.out.then1 hw2)); have hbl := World.block_lt_of_cell? _ _ y0; have HW2 := Lib.hid (HW1.out.then1 hw2); clear hw2)
          | (go_at_call 172; go_loud (refine (HK.out _).mono ?_); rintro e w3 ⟨rfl, hw3⟩; clear y0 y1 y2 y3 q0 hbl; obtain ⟨y0, y1, y2, y3⟩ := HBX.out w3 (HW2.out.then1 hw3); have q0 := HQ.out w3 ((Frm.alloc NoS _ _).then1 (HW2.out.then1 hw3)); have hbl := World.block_lt_of_cell? _ _ y0; have HW3 := Lib.hid (HW2.out.then1 hw3); clear hw3))
        all_goals
          go_ret
          refine ⟨_, rfl, ?_, (Frm.alloc NoS w _).then1 (by first | exact HW3.out | exact HW2.out)⟩
          rw [HB.out]
          simp [actB, txtB, cntB]; try simp_all; try omega
      · rw [show ofA 2 = 1 from rfl] at HO
        go_enter Tryz.func131, Tryz.ntmps131
        go_wp2_with (first
          | (go_at_call 170; go_loud (refine (HP.out _ (Frm.alloc _ _ _)).mono ?_); rintro e w1 ⟨rfl, hw1⟩; obtain ⟨y0, y1, y2, y3⟩ := HBX.out w1 (hw1); have q0 := HQ.out w1 ((Frm.alloc NoS _ _).then1 hw1); have hbl := World.block_lt_of_cell? _ _ y0; have HW1 := Lib.hid hw1; clear hw1)
          | (go_at_call 171; go_loud (refine (HO.out _).mono ?_); rintro e w2 ⟨rfl, hw2⟩; clear y0 y1 y2 y3 q0 hbl; obtain ⟨y0, y1, y2, y3⟩ := HBX.out w2 (HW1.out.then1 hw2); have q0 := HQ.out w2 ((Frm.alloc NoS _ _).then1 (HW1.out.then1 hw2)); have hbl := World.block_lt_of_cell? _ _ y0; have HW2 := Lib.hid (HW1.out.then1 hw2); clear hw2)
          | (go_at_call 172; go_loud (refine (HK.out _).mono ?_); rintro e w3 ⟨rfl, hw3⟩; clear y0 y1 y2 y3 q0 hbl; obtain ⟨y0, y1, y2, y3⟩ := HBX.out w3 (HW2.out.then1 hw3); have q0 := HQ.out w3 ((Frm.alloc NoS _ _).then1 (HW2.out.then1 hw3)); have hbl := World.block_lt_of_cell? _ _ y0; have HW3 := Lib.hid (HW2.out.then1 hw3); clear hw3))
        all_goals
          go_ret
          refine ⟨_, rfl, ?_, (Frm.alloc NoS w _).then1 (by first | exact HW3.out | exact HW2.out)⟩
          rw [HB.out]
          simp [actB, txtB, cntB]; try simp_all; try omega
      · rw [show ofA 3 = 2 from rfl] at HO
        go_enter Tryz.func131, Tryz.ntmps131
        go_wp2_with (first
          | (go_at_call 170; go_loud (refine (HP.out _ (Frm.alloc _ _ _)).mono ?_); rintro e w1 ⟨rfl, hw1⟩; obtain ⟨y0, y1, y2, y3⟩ := HBX.out w1 (hw1); have q0 := HQ.out w1 ((Frm.alloc NoS _ _).then1 hw1); have hbl := World.block_lt_of_cell? _ _ y0; have HW1 := Lib.hid hw1; clear hw1)
          | (go_at_call 171; go_loud (refine (HO.out _).mono ?_); rintro e w2 ⟨rfl, hw2⟩; clear y0 y1 y2 y3 q0 hbl; obtain ⟨y0, y1, y2, y3⟩ := HBX.out w2 (HW1.out.then1 hw2); have q0 := HQ.out w2 ((Frm.alloc NoS _ _).then1 (HW1.out.then1 hw2)); have hbl := World.block_lt_of_cell? _ _ y0; have HW2 := Lib.hid (HW1.out.then1 hw2); clear hw2)
          | (go_at_call 172; go_loud (refine (HK.out _).mono ?_); rintro e w3 ⟨rfl, hw3⟩; clear y0 y1 y2 y3 q0 hbl; obtain ⟨y0, y1, y2, y3⟩ := HBX.out w3 (HW2.out.then1 hw3); have q0 := HQ.out w3 ((Frm.alloc NoS _ _).then1 (HW2.out.then1 hw3)); have hbl := World.block_lt_of_cell? _ _ y0; have HW3 := Lib.hid (HW2.out.then1 hw3); clear hw3))
        all_goals
          go_ret
          refine ⟨_, rfl, ?_, (Frm.alloc NoS w _).then1 (by first | exact HW3.out | exact HW2.out)⟩
          rw [HB.out]
          simp [actB, txtB, cntB]; try simp_all; try omega
      · rw [show ofA 4 = 2 from rfl] at HO
        go_enter Tryz.func131, Tryz.ntmps131
        go_wp2_with (first
          | (go_at_call 170; go_loud (refine (HP.out _ (Frm.alloc _ _ _)).mono ?_); rintro e w1 ⟨rfl, hw1⟩; obtain ⟨y0, y1, y2, y3⟩ := HBX.out w1 (hw1); have q0 := HQ.out w1 ((Frm.alloc NoS _ _).then1 hw1); have hbl := World.block_lt_of_cell? _ _ y0; have HW1 := Lib.hid hw1; clear hw1)
          | (go_at_call 171; go_loud (refine (HO.out _).mono ?_); rintro e w2 ⟨rfl, hw2⟩; clear y0 y1 y2 y3 q0 hbl; obtain ⟨y0, y1, y2, y3⟩ := HBX.out w2 (HW1.out.then1 hw2); have q0 := HQ.out w2 ((Frm.alloc NoS _ _).then1 (HW1.out.then1 hw2)); have hbl := World.block_lt_of_cell? _ _ y0; have HW2 := Lib.hid (HW1.out.then1 hw2); clear hw2)
          | (go_at_call 172; go_loud (refine (HK.out _).mono ?_); rintro e w3 ⟨rfl, hw3⟩; clear y0 y1 y2 y3 q0 hbl; obtain ⟨y0, y1, y2, y3⟩ := HBX.out w3 (HW2.out.then1 hw3); have q0 := HQ.out w3 ((Frm.alloc NoS _ _).then1 (HW2.out.then1 hw3)); have hbl := World.block_lt_of_cell? _ _ y0; have HW3 := Lib.hid (HW2.out.then1 hw3); clear hw3))
        all_goals
          go_ret
          refine ⟨_, rfl, ?_, (Frm.alloc NoS w _).then1 (by first | exact HW3.out | exact HW2.out)⟩
          rw [HB.out]
          simp [actB, txtB, cntB]; try simp_all; try omega
      · rw [show ofA 5 = 3 from rfl] at HO
        go_enter Tryz.func131, Tryz.ntmps131
        go_wp2_with (first
          | (go_at_call 170; go_loud (refine (HP.out _ (Frm.alloc _ _ _)).mono ?_); rintro e w1 ⟨rfl, hw1⟩; obtain ⟨y0, y1, y2, y3⟩ := HBX.out w1 (hw1); have q0 := HQ.out w1 ((Frm.alloc NoS _ _).then1 hw1); have hbl := World.block_lt_of_cell? _ _ y0; have HW1 := Lib.hid hw1; clear hw1)
          | (go_at_call 171; go_loud (refine (HO.out _).mono ?_); rintro e w2 ⟨rfl, hw2⟩; clear y0 y1 y2 y3 q0 hbl; obtain ⟨y0, y1, y2, y3⟩ := HBX.out w2 (HW1.out.then1 hw2); have q0 := HQ.out w2 ((Frm.alloc NoS _ _).then1 (HW1.out.then1 hw2)); have hbl := World.block_lt_of_cell? _ _ y0; have HW2 := Lib.hid (HW1.out.then1 hw2); clear hw2)
          | (go_at_call 172; go_loud (refine (HK.out _).mono ?_); rintro e w3 ⟨rfl, hw3⟩; clear y0 y1 y2 y3 q0 hbl; obtain ⟨y0, y1, y2, y3⟩ := HBX.out w3 (HW2.out.then1 hw3); have q0 := HQ.out w3 ((Frm.alloc NoS _ _).then1 (HW2.out.then1 hw3)); have hbl := World.block_lt_of_cell? _ _ y0; have HW3 := Lib.hid (HW2.out.then1 hw3); clear hw3))
        all_goals
          go_ret
          refine ⟨_, rfl, ?_, (Frm.alloc NoS w _).then1 (by first | exact HW3.out | exact HW2.out)⟩
          rw [HB.out]
          simp [actB, txtB, cntB]; try simp_all; try omega
      · rw [show ofA 6 = 4 from rfl] at HO
        go_enter Tryz.func131, Tryz.ntmps131
        go_wp2_with (first
          | (go_at_call 170; go_loud (refine (HP.out _ (Frm.alloc _ _ _)).mono ?_); rintro e w1 ⟨rfl, hw1⟩; obtain ⟨y0, y1, y2, y3⟩ := HBX.out w1 (hw1); have q0 := HQ.out w1 ((Frm.alloc NoS _ _).then1 hw1); have hbl := World.block_lt_of_cell? _ _ y0; have HW1 := Lib.hid hw1; clear hw1)
          | (go_at_call 171; go_loud (refine (HO.out _).mono ?_); rintro e w2 ⟨rfl, hw2⟩; clear y0 y1 y2 y3 q0 hbl; obtain ⟨y0, y1, y2, y3⟩ := HBX.out w2 (HW1.out.then1 hw2); have q0 := HQ.out w2 ((Frm.alloc NoS _ _).then1 (HW1.out.then1 hw2)); have hbl := World.block_lt_of_cell? _ _ y0; have HW2 := Lib.hid (HW1.out.then1 hw2); clear hw2)
          | (go_at_call 172; go_loud (refine (HK.out _).mono ?_); rintro e w3 ⟨rfl, hw3⟩; clear y0 y1 y2 y3 q0 hbl; obtain ⟨y0, y1, y2, y3⟩ := HBX.out w3 (HW2.out.then1 hw3); have q0 := HQ.out w3 ((Frm.alloc NoS _ _).then1 (HW2.out.then1 hw3)); have hbl := World.block_lt_of_cell? _ _ y0; have HW3 := Lib.hid (HW2.out.then1 hw3); clear hw3))
        all_goals
          go_ret
          refine ⟨_, rfl, ?_, (Frm.alloc NoS w _).then1 (by first | exact HW3.out | exact HW2.out)⟩
          rw [HB.out]
          simp [actB, txtB, cntB]; try simp_all; try omega
      · rw [show ofA 7 = 0 from rfl] at HO
        go_enter Tryz.func131, Tryz.ntmps131
        go_wp2_with (first
          | (go_at_call 170; go_loud (refine (HP.out _ (Frm.alloc _ _ _)).mono ?_); rintro e w1 ⟨rfl, hw1⟩; obtain ⟨y0, y1, y2, y3⟩ := HBX.out w1 (hw1); have q0 := HQ.out w1 ((Frm.alloc NoS _ _).then1 hw1); have hbl := World.block_lt_of_cell? _ _ y0; have HW1 := Lib.hid hw1; clear hw1)
          | (go_at_call 171; go_loud (refine (HO.out _).mono ?_); rintro e w2 ⟨rfl, hw2⟩; clear y0 y1 y2 y3 q0 hbl; obtain ⟨y0, y1, y2, y3⟩ := HBX.out w2 (HW1.out.then1 hw2); have q0 := HQ.out w2 ((Frm.alloc NoS _ _).then1 (HW1.out.then1 hw2)); have hbl := World.block_lt_of_cell? _ _ y0; have HW2 := Lib.hid (HW1.out.then1 hw2); clear hw2)
          | (go_at_call 172; go_loud (refine (HK.out _).mono ?_); rintro e w3 ⟨rfl, hw3⟩; clear y0 y1 y2 y3 q0 hbl; obtain ⟨y0, y1, y2, y3⟩ := HBX.out w3 (HW2.out.then1 hw3); have q0 := HQ.out w3 ((Frm.alloc NoS _ _).then1 (HW2.out.then1 hw3)); have hbl := World.block_lt_of_cell? _ _ y0; have HW3 := Lib.hid (HW2.out.then1 hw3); clear hw3))
        all_goals
          go_ret
          refine ⟨_, rfl, ?_, (Frm.alloc NoS w _).then1 (by first | exact HW3.out | exact HW2.out)⟩
          rw [HB.out]
          simp [actB, txtB, cntB]; try simp_all; try omega
  · have hk : ofA a = -1 := by unfold ofA; rw [if_neg (by omega), if_neg (by omega), if_neg (by omega), if_neg (by omega), if_neg (by omega)]
    rw [hk] at HO
    have hact : actB a K = false := by unfold actB; rw [if_neg (by omega), if_neg (by omega), if_neg (by omega), if_neg (by omega)]; exact beq_false_of_ne (by omega)
    have HACT := Lib.hid hact; clear hact hs hk
    go_enter Tryz.func131, Tryz.ntmps131
    go_wp2_with (first
      | (go_at_call 170; go_loud (refine (HP.out _ (Frm.alloc _ _ _)).mono ?_); rintro e w1 ⟨rfl, hw1⟩; obtain ⟨y0, y1, y2, y3⟩ := HBX.out w1 (hw1); have q0 := HQ.out w1 ((Frm.alloc NoS _ _).then1 hw1); have hbl := World.block_lt_of_cell? _ _ y0; have HW1 := Lib.hid hw1; clear hw1)
      | (go_at_call 171; go_loud (refine (HO.out _).mono ?_); rintro e w2 ⟨rfl, hw2⟩; clear y0 y1 y2 y3 q0 hbl; obtain ⟨y0, y1, y2, y3⟩ := HBX.out w2 (HW1.out.then1 hw2); have q0 := HQ.out w2 ((Frm.alloc NoS _ _).then1 (HW1.out.then1 hw2)); have hbl := World.block_lt_of_cell? _ _ y0; have HW2 := Lib.hid (HW1.out.then1 hw2); clear hw2)
      | (go_at_call 172; go_loud (refine (HK.out _).mono ?_); rintro e w3 ⟨rfl, hw3⟩; clear y0 y1 y2 y3 q0 hbl; obtain ⟨y0, y1, y2, y3⟩ := HBX.out w3 (HW2.out.then1 hw3); have q0 := HQ.out w3 ((Frm.alloc NoS _ _).then1 (HW2.out.then1 hw3)); have hbl := World.block_lt_of_cell? _ _ y0; have HW3 := Lib.hid (HW2.out.then1 hw3); clear hw3))
    all_goals
      go_ret
      refine ⟨_, rfl, ?_, (Frm.alloc NoS w _).then1 (by first | exact HW3.out | exact HW2.out)⟩
      rw [HB.out]
      rw [HACT.out]; simp
set_option maxRecDepth 1000000 in
theorem opRight_any (ss : List ByteArray) (a n : Int) (s : ByteArray) (w : World) (v : Value) (h : StrsAt w v ss) (hl : ss.length ≤ 100000) :
    Calls Tryz.prog 84 #[.agg #[v, .int .i64 a, .string s, .int .i64 n]] w fun e w' => e = .returned (.bool (opB ss a s n)) ∧ Frm NoS w w' := by
  have HC := Lib.hid (fun W (f : Frm NoS w W) => opCheck_any ss a n s W v (h.keep0 f) hl)
  unfold OpPost at HC
  obtain ⟨a0, c0, rfl⟩ := h.sl
  clear h
  generalize opB ss a s n = b at *
  generalize ss.length = l at *
  go_enter Tryz.func84, Tryz.ntmps84
  go_wp2_with (go_at_call 131; go_loud (refine (HC.out _ (Frm.alloc _ _ _)).mono ?_); rintro e w1 ⟨x, rfl, hx, hw1⟩; have HX := Lib.hid hx; have HW1 := Lib.hid ((Frm.alloc NoS _ _).then1 hw1); clear hw1 hx)
  go_ret
  refine ⟨?_, HW1.out⟩
  have hx := HX.out
  cases b with
  | true => rw [hx.2 rfl]; rfl
  | false =>
    have hx0 : ¬ x = 0 := fun e => by have := hx.1 e; cases this
    simp [hx0]
end Go.Proofs.YtggfoihfenlckaaGreat
/- Bytes of changes: the plain law. -/
namespace Go.Proofs.YtggfoihfenlckaaGreat
open Go.RowKit
def encP (ss : List ByteArray) : List UInt8 := ss.flatMap textB
def encO (ss : List ByteArray) (a : Int) (s : ByteArray) (n : Int) : List UInt8 := numB ss.length ++ (encP ss ++ (numB a ++ (textB s ++ numB n)))
theorem encO_pfx {ss ss' : List ByteArray} {a a' n n' : Int} {s s' : ByteArray} {x y : List UInt8} (h : encO ss a s n ++ x = encO ss' a' s' n' ++ y) : (ss = ss' ∧ a = a' ∧ s = s' ∧ n = n') ∧ x = y := by
  unfold encO at h
  simp only [List.append_assoc] at h
  replace h := numB_prefix h
  obtain ⟨h1, h⟩ := h
  replace h := flat_pfx (f := textB) textB_prefix (by omega) h
  obtain ⟨h2, h⟩ := h
  replace h := numB_prefix h
  obtain ⟨h3, h⟩ := h
  replace h := textB_prefix h
  obtain ⟨h4, h⟩ := h
  replace h := numB_prefix h
  obtain ⟨h5, h⟩ := h
  exact ⟨⟨h2, h3, h4, h5⟩, h⟩
theorem opB_bd {ss : List ByteArray} {a n : Int} {s : ByteArray} (h : opB ss a s n = true) : (1 ≤ ss.length ∧ ss.length ≤ 3) ∧ (∀ x ∈ ss, x.size ≤ 30) ∧ (1 ≤ a ∧ a ≤ 7) ∧ s.size ≤ 30 ∧ -1099511627776 ≤ n ∧ n ≤ 1099511627776 := by
  unfold opB at h
  simp only [Bool.and_eq_true] at h
  obtain ⟨h1, h2, h3, h4⟩ := h
  have h1 : pathE ss = 0 := eq_of_beq h1
  have ha : 1 ≤ a ∧ a ≤ 7 := by
    unfold actB at h2
    by_cases e1 : a = 1 ∨ a = 2
    · omega
    rw [if_neg e1] at h2
    by_cases e2 : a = 3 ∨ a = 4
    · omega
    rw [if_neg e2] at h2
    by_cases e3 : a = 5
    · omega
    rw [if_neg e3] at h2
    by_cases e4 : a = 6
    · omega
    rw [if_neg e4] at h2
    have := eq_of_beq h2
    omega
  refine ⟨pathE_zero h1, fun x hx => ?_, ha, ?_, ?_⟩
  · by_cases h9 : x.size ≤ 30
    · exact h9
    · have : pathE ss = 1 := pathE_any (List.any_eq_true.2 ⟨x, hx, by unfold p1; rw [decide_eq_true (by omega : 30 < x.size)]; rfl⟩)
      rw [this] at h1; cases h1
  · unfold txtB at h3
    by_cases e1 : a = 3 ∨ a = 4
    · rw [if_pos e1] at h3; have := of_decide_eq_true h3; omega
    rw [if_neg e1] at h3
    by_cases e2 : a = 6
    · rw [if_pos e2] at h3; have := of_decide_eq_true h3; omega
    rw [if_neg e2] at h3; have := of_decide_eq_true h3; omega
  · unfold cntB at h4
    by_cases e1 : a = 5
    · rw [if_pos e1] at h4; simp at h4; omega
    · rw [if_neg e1] at h4; have := eq_of_beq h4; omega
abbrev TxtRun (m : Int) := Run (fun s0 (x : ByteArray) t => TextStep s0 m x t)
theorem TxtRun.good {m : Int} {st : Option (List UInt8)} {k : Nat} {ss : List ByteArray} {r : List UInt8} (h : TxtRun m st k ss (some r)) : st = some (encP ss ++ r) ∧ ∀ x ∈ ss, (x.size : Int) ≤ m := Run.good (f := textB) (P := fun x => (x.size : Int) ≤ m) (fun h => text_good h) h rfl
theorem TxtRun.make {m : Int} (hm : m ≤ 9223372036854775807) {ss : List ByteArray} (r : List UInt8) (h : ∀ x ∈ ss, (x.size : Int) ≤ m) : TxtRun m (some (encP ss ++ r)) ss.length ss (some r) := Run.make (R := fun s0 (x : ByteArray) t => TextStep s0 m x t) (P := fun x => (x.size : Int) ≤ m) (fun r h => text_make r h hm) r h
def OpRes (st : Option (List UInt8)) (ss : List ByteArray) (a : Int) (s : ByteArray) (n : Int) (t : Option (List UInt8)) : Prop :=
  (∃ rest, st = some (encO ss a s n ++ rest) ∧ opB ss a s n = true ∧ t = some rest) ∨ (t = none ∧ ss = [] ∧ a = 0 ∧ s = ByteArray.empty ∧ n = 0 ∧ ∀ ss a s n rest, st = some (encO ss a s n ++ rest) → opB ss a s n = false)
theorem OpRes.det {st t t' : Option (List UInt8)} {ss ss' : List ByteArray} {a a' n n' : Int} {s s' : ByteArray} (h : OpRes st ss a s n t) (k : OpRes st ss' a' s' n' t') : (ss = ss' ∧ a = a' ∧ s = s' ∧ n = n') ∧ t = t' := by
  rcases h with ⟨r, h1, h2, h3⟩ | ⟨h1, h2, h3, h4, h5, h6⟩ <;> rcases k with ⟨r', k1, k2, k3⟩ | ⟨k1, k2, k3, k4, k5, k6⟩
  · rw [h1] at k1
    injection k1 with k1
    obtain ⟨e, rfl⟩ := encO_pfx k1
    exact ⟨e, by rw [h3, k3]⟩
  · rw [k6 _ _ _ _ _ h1] at h2; cases h2
  · rw [h6 _ _ _ _ _ k1] at k2; cases k2
  · exact ⟨⟨by rw [h2, k2], by rw [h3, k3], by rw [h4, k4], by rw [h5, k5]⟩, by rw [h1, k1]⟩
theorem OpRes.total (st : Option (List UInt8)) : ∃ ss a s n t, OpRes st ss a s n t := by
  by_cases h : ∃ ss a s n rest, st = some (encO ss a s n ++ rest) ∧ opB ss a s n = true
  · obtain ⟨ss, a, s, n, rest, h1, h2⟩ := h
    exact ⟨ss, a, s, n, some rest, .inl ⟨rest, h1, h2, rfl⟩⟩
  · exact ⟨[], 0, ByteArray.empty, 0, none, .inr ⟨rfl, rfl, rfl, rfl, rfl, fun ss a s n rest h1 => by
      cases h2 : opB ss a s n with
      | false => rfl
      | true => exact absurd ⟨ss, a, s, n, rest, h1, h2⟩ h⟩⟩
theorem OpRes.left {st t : Option (List UInt8)} {ss : List ByteArray} {a n : Int} {s : ByteArray} (h : OpRes st ss a s n t) : (leftOf t).length ≤ (leftOf st).length := by
  rcases h with ⟨r, rfl, _, rfl⟩ | ⟨rfl, _⟩
  · show r.length ≤ (encO ss a s n ++ r).length
    rw [List.length_append]; omega
  · exact Nat.zero_le _
theorem OpRes.len {st t : Option (List UInt8)} {ss : List ByteArray} {a n : Int} {s : ByteArray} (h : OpRes st ss a s n t) : ss.length ≤ 3 ∧ s.size ≤ 30 ∧ ∀ x ∈ ss, x.size ≤ 30 := by
  rcases h with ⟨r, rfl, h, rfl⟩ | ⟨rfl, rfl, rfl, rfl, rfl, _⟩
  · obtain ⟨g1, g2, _, g4, _⟩ := opB_bd h
    exact ⟨g1.2, g4, g2⟩
  · exact ⟨by simp, by decide, fun x hx => by cases hx⟩
/-- What is read of a change. -/
structure OpSt (M m ma mn : Int) (st : Option (List UInt8)) (k : Nat) (ss : List ByteArray) (a : Int) (s : ByteArray) (n : Int) (s1 s2 s3 s4 s5 : Option (List UInt8)) : Prop where
  cnt : CntStep st M k s1
  run : TxtRun m s1 k ss s2
  act : NumStep s2 ma a s3
  txt : TextStep s3 m s s4
  num : NumStep s4 mn n s5
theorem op_good {M m ma mn : Int} {st s1 s2 s3 s4 : Option (List UInt8)} {k : Nat} {ss : List ByteArray} {a n : Int} {s : ByteArray} {r : List UInt8} (h : OpSt M m ma mn st k ss a s n s1 s2 s3 s4 (some r)) (hb : opB ss a s n = true) : OpRes st ss a s n (some r) := by
  obtain ⟨h1, h2, h3, h4, h5⟩ := h
  obtain ⟨rfl, _⟩ := num_good h5
  obtain ⟨rfl, _⟩ := text_good h4
  obtain ⟨rfl, _⟩ := num_good h3
  obtain ⟨rfl, _⟩ := h2.good
  obtain ⟨rfl, _⟩ := h1.good
  exact .inl ⟨r, by unfold encO; rw [Run.len h2]; simp only [List.append_assoc], hb, rfl⟩
theorem op_bad {M m ma mn : Int} (hm : 30 ≤ m) (hm' : m ≤ 9223372036854775807) (ha : 7 ≤ ma) (ha' : ma ≤ 9223372036854775807) (hn : 1099511627776 ≤ mn) (hn' : mn ≤ 9223372036854775807) (hM : 3 ≤ M) (hM' : M ≤ 9223372036854775807)
    {st s1 s2 s3 s4 s5 : Option (List UInt8)} {k : Nat} {ss : List ByteArray} {a n : Int} {s : ByteArray} (h : OpSt M m ma mn st k ss a s n s1 s2 s3 s4 s5) (hb : s5 = none ∨ opB ss a s n = false) : OpRes st [] 0 ByteArray.empty 0 none := by
  refine .inr ⟨rfl, rfl, rfl, rfl, rfl, fun ss' a' s' n' rest hs => ?_⟩
  cases hq : opB ss' a' s' n' with
  | false => rfl
  | true =>
    exfalso
    subst hs
    obtain ⟨h1, h2, h3, h4, h5⟩ := h
    obtain ⟨g1, g2, g3, g4, g5⟩ := opB_bd hq
    have hge : ss'.length ≤ (encP ss').length := flat_pos textB_pos ss'
    unfold encO at h1
    simp only [List.append_assoc] at h1
    obtain ⟨rfl, rfl⟩ := h1.det (CntStep.make (by simp only [List.length_append]; omega) (by omega) hM')
    obtain ⟨rfl, rfl⟩ := Run.det (R := fun s0 (x : ByteArray) t => TextStep s0 m x t) (fun h k => h.det k) h2 (TxtRun.make hm' _ fun x hx => by have := g2 x hx; omega)
    obtain ⟨rfl, rfl⟩ := h3.det (num_make _ ⟨by omega, by omega⟩ ha')
    obtain ⟨rfl, rfl⟩ := h4.det (text_make _ (by omega) hm')
    obtain ⟨rfl, rfl⟩ := h5.det (num_make _ ⟨by omega, by omega⟩ hn')
    rcases hb with hb | hb
    · cases hb
    · rw [hq] at hb; cases hb
end Go.Proofs.YtggfoihfenlckaaGreat
/- Bytes of vectors, of bundles; how they are read: the plain law. -/
namespace Go.Proofs.YtggfoihfenlckaaGreat
open Go.RowKit
def encV (v0 v1 v2 v3 : Int) : List UInt8 := numB v0 ++ (numB v1 ++ (numB v2 ++ numB v3))
theorem encV_pfx {a b c d a' b' c' d' : Int} {x y : List UInt8} (h : encV a b c d ++ x = encV a' b' c' d' ++ y) : (a = a' ∧ b = b' ∧ c = c' ∧ d = d') ∧ x = y := by
  unfold encV at h
  simp only [List.append_assoc] at h
  replace h := numB_prefix h
  obtain ⟨h1, h⟩ := h
  replace h := numB_prefix h
  obtain ⟨h2, h⟩ := h
  replace h := numB_prefix h
  obtain ⟨h3, h⟩ := h
  replace h := numB_prefix h
  obtain ⟨h4, h⟩ := h
  exact ⟨⟨h1, h2, h3, h4⟩, h⟩
def VecRes (st : Option (List UInt8)) (v0 v1 v2 v3 : Int) (s : Option (List UInt8)) : Prop :=
  (∃ rest, st = some (encV v0 v1 v2 v3 ++ rest) ∧ MayV (vecF v0 v1 v2 v3) ∧ s = some rest) ∨ (s = none ∧ v0 = 0 ∧ v1 = 0 ∧ v2 = 0 ∧ v3 = 0 ∧ ∀ u0 u1 u2 u3 rest, st = some (encV u0 u1 u2 u3 ++ rest) → ¬ MayV (vecF u0 u1 u2 u3))
theorem mayV4 {v0 v1 v2 v3 : Int} (h : MayV (vecF v0 v1 v2 v3)) : (0 ≤ v0 ∧ v0 ≤ 1099511627776) ∧ (0 ≤ v1 ∧ v1 ≤ 1099511627776) ∧ (0 ≤ v2 ∧ v2 ≤ 1099511627776) ∧ 0 ≤ v3 ∧ v3 ≤ 1099511627776 :=
  ⟨h 0 (by decide) (by decide), h 1 (by decide) (by decide), h 2 (by decide) (by decide), h 3 (by decide) (by decide)⟩
theorem VecRes.det {st s s' : Option (List UInt8)} {a b c d a' b' c' d' : Int} (h : VecRes st a b c d s) (k : VecRes st a' b' c' d' s') : (a = a' ∧ b = b' ∧ c = c' ∧ d = d') ∧ s = s' := by
  rcases h with ⟨r, h1, h2, h3⟩ | ⟨h1, h2, h3, h4, h5, h6⟩ <;> rcases k with ⟨r', k1, k2, k3⟩ | ⟨k1, k2, k3, k4, k5, k6⟩
  · rw [h1] at k1
    injection k1 with k1
    obtain ⟨e, rfl⟩ := encV_pfx k1
    exact ⟨e, by rw [h3, k3]⟩
  · exact absurd h2 (k6 _ _ _ _ _ h1)
  · exact absurd k2 (h6 _ _ _ _ _ k1)
  · subst h2 h3 h4 h5 k2 k3 k4 k5
    exact ⟨⟨rfl, rfl, rfl, rfl⟩, by rw [h1, k1]⟩
theorem VecRes.total (st : Option (List UInt8)) : ∃ v0 v1 v2 v3 s, VecRes st v0 v1 v2 v3 s := by
  by_cases h : ∃ v0 v1 v2 v3 rest, st = some (encV v0 v1 v2 v3 ++ rest) ∧ MayV (vecF v0 v1 v2 v3)
  · obtain ⟨v0, v1, v2, v3, rest, h1, h2⟩ := h
    exact ⟨v0, v1, v2, v3, some rest, .inl ⟨rest, h1, h2, rfl⟩⟩
  · exact ⟨0, 0, 0, 0, none, .inr ⟨rfl, rfl, rfl, rfl, rfl, fun u0 u1 u2 u3 rest h1 h2 => h ⟨u0, u1, u2, u3, rest, h1, h2⟩⟩⟩
theorem VecRes.left {st s : Option (List UInt8)} {v0 v1 v2 v3 : Int} (h : VecRes st v0 v1 v2 v3 s) : (leftOf s).length ≤ (leftOf st).length := by
  rcases h with ⟨r, rfl, _, rfl⟩ | ⟨rfl, _⟩
  · show r.length ≤ (encV v0 v1 v2 v3 ++ r).length
    rw [List.length_append]; omega
  · exact Nat.zero_le _
/-- Four numbers taken one behind the other. -/
def V4 (m : Int) (st : Option (List UInt8)) (v0 v1 v2 v3 : Int) (s4 : Option (List UInt8)) : Prop :=
  ∃ s1 s2 s3, NumStep st m v0 s1 ∧ NumStep s1 m v1 s2 ∧ NumStep s2 m v2 s3 ∧ NumStep s3 m v3 s4
theorem vec_good {m : Int} {st : Option (List UInt8)} {v0 v1 v2 v3 : Int} {r : List UInt8} (h : V4 m st v0 v1 v2 v3 (some r)) (hm : MayV (vecF v0 v1 v2 v3)) : VecRes st v0 v1 v2 v3 (some r) := by
  obtain ⟨s1, s2, s3, h1, h2, h3, h4⟩ := h
  obtain ⟨rfl, _, _⟩ := num_good h4
  obtain ⟨rfl, _, _⟩ := num_good h3
  obtain ⟨rfl, _, _⟩ := num_good h2
  obtain ⟨rfl, _, _⟩ := num_good h1
  exact .inl ⟨r, by unfold encV; simp only [List.append_assoc], hm, rfl⟩
theorem vec_bad {m : Int} (hm1 : 1099511627776 ≤ m) (hm2 : m ≤ 9223372036854775807) {st s4 : Option (List UInt8)} {v0 v1 v2 v3 : Int} (h : V4 m st v0 v1 v2 v3 s4) (hb : s4 = none ∨ ¬ MayV (vecF v0 v1 v2 v3)) : VecRes st 0 0 0 0 none := by
  refine .inr ⟨rfl, rfl, rfl, rfl, rfl, fun u0 u1 u2 u3 rest hs hu => ?_⟩
  subst hs
  obtain ⟨s1, s2, s3, h1, h2, h3, h4⟩ := h
  obtain ⟨g0, g1, g2, g3⟩ := mayV4 hu
  unfold encV at h1
  simp only [List.append_assoc] at h1
  obtain ⟨rfl, rfl⟩ := h1.det (num_make _ ⟨by omega, by omega⟩ hm2)
  obtain ⟨rfl, rfl⟩ := h2.det (num_make _ ⟨by omega, by omega⟩ hm2)
  obtain ⟨rfl, rfl⟩ := h3.det (num_make _ ⟨by omega, by omega⟩ hm2)
  obtain ⟨rfl, rfl⟩ := h4.det (num_make _ ⟨by omega, by omega⟩ hm2)
  rcases hb with hb | hb
  · cases hb
  · exact hb hu
theorem V4.total (m : Int) (st : Option (List UInt8)) : ∃ v0 v1 v2 v3 s1 s2 s3 s4, NumStep st m v0 s1 ∧ NumStep s1 m v1 s2 ∧ NumStep s2 m v2 s3 ∧ NumStep s3 m v3 s4 := by
  obtain ⟨v0, s1, h1⟩ := NumStep.total st m
  obtain ⟨v1, s2, h2⟩ := NumStep.total s1 m
  obtain ⟨v2, s3, h3⟩ := NumStep.total s2 m
  obtain ⟨v3, s4, h4⟩ := NumStep.total s3 m
  exact ⟨v0, v1, v2, v3, s1, s2, s3, s4, h1, h2, h3, h4⟩
end Go.Proofs.YtggfoihfenlckaaGreat
/- context: Full, Range: the walks. -/
namespace Go.Proofs.YtggfoihfenlckaaGreat
open Go.RowKit
def FullPost (w : World) (f : Int → Int) (e : Ending) (w' : World) : Prop :=
  Frm NoS w w' ∧ (MayV f → ∃ v', e = .returned (.tuple #[v', .int .i64 0]) ∧ OwnAt w w' 122 3 v' (fullL f).length (spC (fullL f)) ∧ (fullL f).length ≤ 4) ∧ (¬ MayV f → e = .returned (.tuple #[.slice none 0 0, .int .i64 1]))
set_option maxHeartbeats 2000000 in
set_option maxRecDepth 1000000 in
theorem cFull_any (w : World) (v0 v1 v2 v3 : Int) : Calls Tryz.prog 85 #[vecV v0 v1 v2 v3] w (FullPost w (vecF v0 v1 v2 v3)) := by
  obtain ⟨i0, hi, hz0, hz1, hz2⟩ := info_parts info_span
  have hix : ∀ (k : Nat), k < 4 → ∀ W, (Instr.index 42 (.agg #[.int .i64 v0, .int .i64 v1, .int .i64 v2, .int .i64 v3]) (.int .i64 (k : Int))).run Tryz.prog W = .ok (.int .i64 (vecF v0 v1 v2 v3 k)) W := fun k hk => by
    rcases (by omega : k = 0 ∨ k = 1 ∨ k = 2 ∨ k = 3) with rfl | rfl | rfl | rfl <;> exact fun _ => by kernel_rfl
  have HIX := Lib.hid hix; clear hix
  unfold vecV
  generalize hf : vecF v0 v1 v2 v3 = f at *
  clear hf
  go_enter Tryz.func85, Tryz.ntmps85
  go_wp2
  go_loopw [4, 8] (fun v i ww => ∃ (k : Nat) (c : CtxL), k ≤ 4 ∧ i = .int .i64 k ∧ OwnAt w ww 122 3 v c.length (spC c) ∧ UpTo (FullR f) k c ∧ c.length ≤ k ∧ ∀ d : Int, 0 ≤ d → d < k → 0 ≤ f d ∧ f d ≤ 1099511627776) (fun _ i _ => 4 - (intOf i).toNat)
  case atStart => exact ⟨0, [], by omega, rfl, OwnAt.nil (Frm.alloc _ _ _) _ _, UpTo.zero _, Nat.zero_le _, fun d h0 h1 => by have : d < 0 := h1; omega⟩
  case round =>
    obtain ⟨k, c, hk, rfl, ho, hu, hlen, hr⟩ := hrel
    obtain ⟨av, cv, rfl⟩ := ho.shape
    have HO := Lib.hid ho; clear ho
    have HU := Lib.hid hu; clear hu
    have HLEN := Lib.hid hlen; clear hlen
    have HR := Lib.hid hr; clear hr
    by_cases hlt : k < 4
    · have hx := HIX.out k hlt
      have hst := HU.out.step (o := fullP (f k)) (by omega) (by omega) rfl
      have hL : c.length ≤ 4 := by have := HLEN.out; omega
      have hrr : 0 ≤ f k ∧ f k ≤ 1099511627776 → ∀ d : Int, 0 ≤ d → d < ((k + 1 : Nat) : Int) → 0 ≤ f d ∧ f d ≤ 1099511627776 := fun h d h0 h1 => by
        by_cases he : d = k
        · subst he; exact h
        · exact HR.out d h0 (by omega)
      have hno : ¬ (0 ≤ f k ∧ f k ≤ 1099511627776) → ¬ MayV f := fun h hm => h (hm k (by omega) (by omega))
      have HRR := Lib.hid hrr; clear hrr
      have HNO := Lib.hid hno; clear hno
      by_cases c1 : f k < 0
      · generalize f k = x at *
        clear hst hL
        go_wp2
        go_ret2
        exact ⟨HO.out.frm, fun h => absurd h (HNO.out (by omega)), fun _ => rfl⟩
      · by_cases c2 : 1099511627776 < f k
        · generalize f k = x at *
          clear hst hL
          go_wp2
          go_ret2
          exact ⟨HO.out.frm, fun h => absurd h (HNO.out (by omega)), fun _ => rfl⟩
        · by_cases h0 : 0 < f k
          · have he : spansL (k : Int) (fullP (f k)) = [((k : Int), 1, f k)] := by unfold fullP; rw [if_pos h0]; rfl
            rw [he] at hst
            clear he
            generalize f k = x at *
            have HST := Lib.hid hst; clear hst
            have HL := Lib.hid hL; clear hL
            go_wp2_with (at_builtin; go_loud (refine wpList_appO w _ [.int .i64 k, .int .i64 1, .int .i64 x] rfl (.tmp 20) (.tmp 24) 31 rfl 122 i0 _ 3 24 Tryz.underlying31 hi hz0 hz1 hz2 (by decide) (by decide) _ _ _ HO.out 1 1 rfl rfl rfl (by simp [Value.oneCell']) (by have := HL.out; simp only [maxLen]; omega) (by have := HL.out; omega) ?_); intro ad cc w2 own2; have OW := Lib.hid own2; clear own2)
            go_roundw
            case rel => exact ⟨k + 1, c ++ [((k : Int), 1, x)], by omega, by go_num, by rw [List.length_append, spC_append]; exact OW.out, HST.out, by rw [List.length_append]; have := HLEN.out; simp; omega, HRR.out ⟨by omega, by omega⟩⟩
            case measure => simp [intOf]; omega
          · have he : spansL (k : Int) (fullP (f k)) = [] := by unfold fullP; rw [if_neg h0]; rfl
            rw [he, List.append_nil] at hst
            clear he
            generalize f k = x at *
            have HST := Lib.hid hst; clear hst
            clear hL
            go_wp2
            go_roundw
            case rel => exact ⟨k + 1, c, by omega, by go_num, HO.out, HST.out, by have := HLEN.out; omega, HRR.out ⟨by omega, by omega⟩⟩
            case measure => simp [intOf]; omega
    · obtain rfl : k = 4 := by omega
      go_wp2
      go_ret2
      have := HU.out.full
      subst this
      exact ⟨HO.out.frm, fun _ => ⟨_, rfl, HO.out, HLEN.out⟩, fun h => absurd (fun d h0 h4 => HR.out d h0 h4) h⟩
end Go.Proofs.YtggfoihfenlckaaGreat