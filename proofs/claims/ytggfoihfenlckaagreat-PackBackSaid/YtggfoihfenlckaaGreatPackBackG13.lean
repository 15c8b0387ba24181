/- Words for the law PackBack: Op3, Op4, Op5, OpS. -/
import Derived.Test.YtggfoihfenlckaaGreatPackBackG1
import Derived.Test.YtggfoihfenlckaaGreatPackBackG2
import Derived.Test.YtggfoihfenlckaaGreatPackBackG8
import Derived.Test.YtggfoihfenlckaaGreatPackBackG11
import Derived.Test.YtggfoihfenlckaaGreatPackBackG12
set_option linter.unusedSimpArgs false
set_option linter.unusedVariables false
/- op: check, Right: the walks. Printed by wip/opgen3.py. -/
namespace Go.Proofs.YtggfoihfenlckaaGreat
open Go.RowKit
def txtB (a : Int) (s : ByteArray) : Bool := if a = 3 ∨ a = 4 then decide (1 ≤ s.size ∧ s.size ≤ 30) else if a = 6 then decide (s.size ≤ 30) else decide (s.size = 0)
def cntB (a n : Int) : Bool := if a = 5 then decide (-1099511627776 ≤ n ∧ n ≤ 1099511627776) else n == 0
def lastS (ss : List ByteArray) : ByteArray := ss.getD (ss.length - 1) ByteArray.empty
/-- May a change be? -/
def opB (ss : List ByteArray) (a : Int) (s : ByteArray) (n : Int) : Bool := (pathE ss == 0) && (actB a (kindOf (lastS ss)) && (txtB a s && cntB a n))
def OpPost (b : Bool) (w : World) (e : Ending) (w' : World) : Prop := ∃ x : Int, e = .returned (.int .i64 x) ∧ (x = 0 ↔ b = true) ∧ Frm NoS w w'
theorem pathE_zero {ss : List ByteArray} (h : pathE ss = 0) : 1 ≤ ss.length ∧ ss.length ≤ 3 := by
  by_cases h1 : ss.length < 1 ∨ 3 < ss.length
  · rw [pathE_len h1] at h; cases h
  · omega
theorem box4 (w : World) (v0 v1 v2 v3 : Value) (T : TypeId) (W : World) (f : Frm NoS (w.alloc (.cells #[v0, v1, v2, v3] T)) W) : W.cell? ⟨w.heap.size, 0, none⟩ = some v0 ∧ W.cell? ⟨w.heap.size, 1, none⟩ = some v1 ∧ W.cell? ⟨w.heap.size, 2, none⟩ = some v2 ∧ W.cell? ⟨w.heap.size, 3, none⟩ = some v3 :=
  ⟨f.cell' (cell_at' (heap_alloc_new w _) 0 rfl) id, f.cell' (cell_at' (heap_alloc_new w _) 1 rfl) id, f.cell' (cell_at' (heap_alloc_new w _) 2 rfl) id, f.cell' (cell_at' (heap_alloc_new w _) 3 rfl) id⟩
set_option maxHeartbeats 8000000 in
set_option maxRecDepth 1000000 in
theorem opCheck_any (ss : List ByteArray) (a n : Int) (s : ByteArray) (w : World) (v : Value) (h : StrsAt w v ss) (hl : ss.length ≤ 100000) :
    Calls Tryz.prog 131 #[.agg #[v, .int .i64 a, .string s, .int .i64 n]] w (OpPost (opB ss a s n) w) := by
  have HP := Lib.hid (fun W (f : Frm NoS w W) => opPath_any ss W v (h.keep0 f) hl)
  by_cases hp : pathE ss = 0
  rotate_left 1
  · have hb : opB ss a s n = false := by unfold opB; rw [show (pathE ss == 0) = false from beq_false_of_ne hp]; rfl
    rw [hb]
    clear hb
    obtain ⟨a0, c0, rfl⟩ := h.sl
    clear h
    generalize pathE ss = x at *
    generalize ss.length = l at *
    have HX := Lib.hid hp
    go_enter Tryz.func131, Tryz.ntmps131
    go_wp2_with (go_at_call 170; go_loud (refine (HP.out _ (Frm.alloc _ _ _)).mono ?_); rintro e w1 ⟨rfl, hw1⟩; have HW1 := Lib.hid ((Frm.alloc NoS _ _).then1 hw1); clear hw1)
    go_ret
    exact ⟨x, rfl, ⟨fun h => absurd h HX.out, fun h => by cases h⟩, HW1.out⟩
  obtain ⟨hl1, hl3⟩ := pathE_zero hp
  rw [hp] at HP
  rcases Rd.shape h with ⟨ad, rfl, h0⟩ | ⟨b, off, c, rfl, hmax⟩
  · omega
  have HQ := Lib.hid (fun W (f : Frm NoS w W) => (show W.cell? ⟨b, off + (ss.length - 1), none⟩ = some (.string (lastS ss)) from str_at (Rd.keep0 h f) (ss.length - 1) (by omega)))
  have HK := Lib.hid (fun W => opKind_any (lastS ss) W)
  have HO := Lib.hid (fun W => opOf_any a W)
  have HB := Lib.hid (show opB ss a s n = (actB a (kindOf (lastS ss)) && (txtB a s && cntB a n)) by unfold opB; rw [hp]; rfl)
  generalize opB ss a s n = bb at *
  generalize kindOf (lastS ss) = K at *
  generalize lastS ss = ls at *
  have hwr : IntKind.i64.wrap ((ss.length : Int) - 1) = ((ss.length - 1 : Nat) : Int) := by rw [IntKind.wrap_i64]; omega
  have hsb : ((ss.length : Int) - 1) = ((ss.length - 1 : Nat) : Int) := by omega
  have hml : ss.length - 1 < ss.length := by omega
  have hbw : b < w.heap.size := World.block_lt_of_cell? _ _ (HQ.out w (Frm.refl _ _))
  clear h hp
  have HBX := Lib.hid (fun W f => box4 w (.slice (some ⟨b, off, none⟩) ss.length c) (.int .i64 a) (.string s) (.int .i64 n) 40 W f)
  generalize ss.length - 1 = m at *
  generalize ss.length = l at *
  have hs : (s = ByteArray.empty) ∨ (0 < s.size ∧ s.toList.isEmpty = false ∧ ¬ s = ByteArray.empty) := by
    by_cases h : 0 < s.size
    · exact .inr ⟨h, str_full h, fun e => by rw [e] at h; exact absurd h (by decide)⟩
    · exact .inl (str_nil h)
  by_cases ha : a = 1 ∨ a = 2 ∨ a = 3 ∨ a = 4 ∨ a = 5 ∨ a = 6 ∨ a = 7
  · rcases hs with rfl | ⟨hs, hem, hne⟩
    · rcases ha with rfl | rfl | rfl | rfl | rfl | rfl | rfl
      · rw [show ofA 1 = 1 from rfl] at HO
        go_enter Tryz.func131, Tryz.ntmps131
        go_wp2_with (first
          | (go_at_call 170; go_loud (refine (HP.out _ (Frm.alloc _ _ _)).mono ?_); rintro e w1 ⟨rfl, hw1⟩; obtain ⟨y0, y1, y2, y3⟩ := HBX.out w1 (hw1); have q0 := HQ.out w1 ((Frm.alloc NoS _ _).then1 hw1); have hbl := World.block_lt_of_cell? _ _ y0; have HW1 := Lib.hid hw1; clear hw1)
          | (go_at_call 171; go_loud (refine (HO.out _).mono ?_); rintro e w2 ⟨rfl, hw2⟩; clear y0 y1 y2 y3 q0 hbl; obtain ⟨y0, y1, y2, y3⟩ := HBX.out w2 (HW1.out.then1 hw2); have q0 := HQ.out w2 ((Frm.alloc NoS _ _).then1 (HW1.out.then1 hw2)); have hbl := World.block_lt_of_cell? _ _ y0; have HW2 := Lib.hid (HW1.out.then1 hw2); clear hw2)
          | (go_at_call 172; go_loud (refine (HK.out _).mono ?_); rintro e w3 ⟨rfl, hw3⟩; clear y0 y1 y2 y3 q0 hbl; obtain ⟨y0, y1, y2, y3⟩ := HBX.out w3 (HW2.out.then1 hw3); have q0 := HQ.out w3 ((Frm.alloc NoS _ _).then1 (HW2.out.then1 hw3)); have hbl := World.block_lt_of_cell? _ _ y0; have HW3 := Lib.hid (HW2.out.then1 hw3); clear hw3))
        all_goals
          go_ret
          refine ⟨_, rfl, ?_, (Frm.alloc NoS w _).then1 (by first | exact HW3.out | exact HW2.out)⟩
          rw [HB.out]
          simp [actB, txtB, cntB]; try simp_all; try omega
      · rw [show ofA 2 = 1 from rfl] at HO
        go_enter Tryz.func131, Tryz.ntmps131
        go_wp2_with (first
          | (go_at_call 170; go_loud (refine (HP.out _ (Frm.alloc _ _ _)).mono ?_); rintro e w1 ⟨rfl, hw1⟩; obtain ⟨y0, y1, y2, y3⟩ := HBX.out w1 (hw1); have q0 := HQ.out w1 ((Frm.alloc NoS _ _).then1 hw1); have hbl := World.block_lt_of_cell? _ _ y0; have HW1 := Lib.hid hw1; clear hw1)
          | (go_at_call 171; go_loud (refine (HO.out _).mono ?_); rintro e w2 ⟨rfl, hw2⟩; clear y0 y1 y2 y3 q0 hbl; obtain ⟨y0, y1, y2, y3⟩ := HBX.out w2 (HW1.out.then1 hw2); have q0 := HQ.out w2 ((Frm.alloc NoS _ _).then1 (HW1.out.then1 hw2)); have hbl := World.block_lt_of_cell? _ _ y0; have HW2 := Lib.hid (HW1.out.then1 hw2); clear hw2)
          | (go_at_call 172; go_loud (refine (HK.out _).mono ?_); rintro e w3 ⟨rfl, hw3⟩; clear y0 y1 y2 y3 q0 hbl; obtain ⟨y0, y1, y2, y3⟩ := HBX.out w3 (HW2.out.then1 hw3); have q0 := HQ.out w3 ((Frm.alloc NoS _ _).then1 (HW2.out.then1 hw3)); have hbl := World.block_lt_of_cell? _ _ y0; have HW3 := Lib.hid (HW2.out.then1 hw3); clear hw3))
        all_goals
          go_ret
          refine ⟨_, rfl, ?_, (Frm.alloc NoS w _).then1 (by first | exact HW3.out | exact HW2.out)⟩
          rw [HB.out]
          simp [actB, txtB, cntB]; try simp_all; try omega
      · rw [show ofA 3 = 2 from rfl] at HO
        go_enter Tryz.func131, Tryz.ntmps131
        go_wp2_with (first
          | (go_at_call 170; go_loud (refine (HP.out _ (Frm.alloc _ _ _)).mono ?_); rintro e w1 ⟨rfl, hw1⟩; obtain ⟨y0, y1, y2, y3⟩ := HBX.out w1 (hw1); have q0 := HQ.out w1 ((Frm.alloc NoS _ _).then1 hw1); have hbl := World.block_lt_of_cell? _ _ y0; have HW1 := Lib.hid hw1; clear hw1)
          | (go_at_call 171; go_loud (refine (HO.out _).mono ?_); rintro e w2 ⟨rfl, hw2⟩; clear y0 y1 y2 y3 q0 hbl; obtain ⟨y0, y1, y2, y3⟩ := HBX.out w2 (HW1.out.then1 hw2); have q0 := HQ.out w2 ((Frm.alloc NoS _ _).then1 (HW1.out.then1 hw2)); have hbl := World.block_lt_of_cell? _ _ y0; have HW2 := Lib.hid (HW1.out.then1 hw2); clear hw2)
          | (go_at_call 172; go_loud (refine (HK.out _).mono ?_); rintro e w3 ⟨rfl, hw3⟩; clear y0 y1 y2 y3 q0 hbl; obtain ⟨y0, y1, y2, y3⟩ := HBX.out w3 (HW2.out.then1 hw3); have q0 := HQ.out w3 ((Frm.alloc NoS _ _).then1 (HW2.out.then1 hw3)); have hbl := World.block_lt_of_cell? _ _ y0; have HW3 := Lib.hid (HW2.out.then1 hw3); clear hw3))
        all_goals
          go_ret
          refine ⟨_, rfl, ?_, (Frm.alloc NoS w _).then1 (by first | exact HW3.out | exact HW2.out)⟩
          rw [HB.out]
          simp [actB, txtB, cntB]; try simp_all; try omega
      · rw [show ofA 4 = 2 from rfl] at HO
        go_enter Tryz.func131, Tryz.ntmps131
        go_wp2_with (first
          | (go_at_call 170; go_loud (refine (HP.out _ (Frm.alloc _ _ _)).mono ?_); rintro e w1 ⟨rfl, hw1⟩; obtain ⟨y0, y1, y2, y3⟩ := HBX.out w1 (hw1); have q0 := HQ.out w1 ((Frm.alloc NoS _ _).then1 hw1); have hbl := World.block_lt_of_cell? _ _ y0; have HW1 := Lib.hid hw1; clear hw1)
          | (go_at_call 171; go_loud (refine (HO.out _).mono ?_); rintro e w2 ⟨rfl, hw2⟩; clear y0 y1 y2 y3 q0 hbl; obtain ⟨y0, y1, y2, y3⟩ := HBX.out w2 (HW1.out.then1 hw2); have q0 := HQ.out w2 ((Frm.alloc NoS _ _).then1 (HW1.out.then1 hw2)); have hbl := World.block_lt_of_cell? _ _ y0; have HW2 := Lib.hid (HW1.out.then1 hw2); clear hw2)
          | (go_at_call 172; go_loud (refine (HK.out _).mono ?_); rintro e w3 ⟨rfl, hw3⟩; clear y0 y1 y2 y3 q0 hbl; obtain ⟨y0, y1, y2, y3⟩ := HBX.out w3 (HW2.out.then1 hw3); have q0 := HQ.out w3 ((Frm.alloc NoS _ _).then1 (HW2.out.then1 hw3)); have hbl := World.block_lt_of_cell? _ _ y0; have HW3 := Lib.hid (HW2.out.then1 hw3); clear hw3))
        all_goals
          go_ret
          refine ⟨_, rfl, ?_, (Frm.alloc NoS w _).then1 (by first | exact HW3.out | exact HW2.out)⟩
          rw [HB.out]
          simp [actB, txtB, cntB]; try simp_all; try omega
      · rw [show ofA 5 = 3 from rfl] at HO
        go_enter Tryz.func131, Tryz.ntmps131
        go_wp2_with (first
          | (go_at_call 170; go_loud (refine (HP.out _ (Frm.alloc _ _ _)).mono ?_); rintro e w1 ⟨rfl, hw1⟩; obtain ⟨y0, y1, y2, y3⟩ := HBX.out w1 (hw1); have q0 := HQ.out w1 ((Frm.alloc NoS _ _).then1 hw1); have hbl := World.block_lt_of_cell? _ _ y0; have HW1 := Lib.hid hw1; clear hw1)
          | (go_at_call 171; go_loud (refine (HO.out _).mono ?_); rintro e w2 ⟨rfl, hw2⟩; clear y0 y1 y2 y3 q0 hbl; obtain ⟨y0, y1, y2, y3⟩ := HBX.out w2 (HW1.out.then1 hw2); have q0 := HQ.out w2 ((Frm.alloc NoS _ _).then1 (HW1.out.then1 hw2)); have hbl := World.block_lt_of_cell? _ _ y0; have HW2 := Lib.hid (HW1.out.then1 hw2); clear hw2)
          | (go_at_call 172; go_loud (refine (HK.out _).mono ?_); rintro e w3 ⟨rfl, hw3⟩; clear y0 y1 y2 y3 q0 hbl; obtain ⟨y0, y1, y2, y3⟩ := HBX.out w3 (HW2.out.then1 hw3); have q0 := HQ.out w3 ((Frm.alloc NoS _ _).then1 (HW2.out.then1 hw3)); have hbl := World.block_lt_of_cell? _ _ y0; have HW3 := Lib.hid (HW2.out.then1 hw3); clear hw3))
        all_goals
          go_ret
          refine ⟨_, rfl, ?_, (Frm.alloc NoS w _).then1 (by first | exact HW3.out | exact HW2.out)⟩
          rw [HB.out]
          simp [actB, txtB, cntB]; try simp_all; try omega
      · rw [show ofA 6 = 4 from rfl] at HO
        go_enter Tryz.func131, Tryz.ntmps131
        go_wp2_with (first
          | (go_at_call 170; go_loud (refine (HP.out _ (Frm.alloc _ _ _)).mono ?_); rintro e w1 ⟨rfl, hw1⟩; obtain ⟨y0, y1, y2, y3⟩ := HBX.out w1 (hw1); have q0 := HQ.out w1 ((Frm.alloc NoS _ _).then1 hw1); have hbl := World.block_lt_of_cell? _ _ y0; have HW1 := Lib.hid hw1; clear hw1)
          | (go_at_call 171; go_loud (refine (HO.out _).mono ?_); rintro e w2 ⟨rfl, hw2⟩; clear y0 y1 y2 y3 q0 hbl; obtain ⟨y0, y1, y2, y3⟩ := HBX.out w2 (HW1.out.then1 hw2); have q0 := HQ.out w2 ((Frm.alloc NoS _ _).then1 (HW1.out.then1 hw2)); have hbl := World.block_lt_of_cell? _ _ y0; have HW2 := Lib.hid (HW1.out.then1 hw2); clear hw2)
          | (go_at_call 172; go_loud (refine (HK.out _).mono ?_); rintro e w3 ⟨rfl, hw3⟩; clear y0 y1 y2 y3 q0 hbl; obtain ⟨y0, y1, y2, y3⟩ := HBX.out w3 (HW2.out.then1 hw3); have q0 := HQ.out w3 ((Frm.alloc NoS _ _).then1 (HW2.out.then1 hw3)); have hbl := World.block_lt_of_cell? _ _ y0; have HW3 := Lib.hid (HW2.out.then1 hw3); clear hw3))
        all_goals
          go_ret
          refine ⟨_, rfl, ?_, (Frm.alloc NoS w _).then1 (by first | exact HW3.out | exact HW2.out)⟩
          rw [HB.out]
          simp [actB, txtB, cntB]; try simp_all; try omega
      · rw [show ofA 7 = 0 from rfl] at HO
        go_enter Tryz.func131, Tryz.ntmps131
        go_wp2_with (first
          | (go_at_call 170; go_loud (refine (HP.out _ (Frm.alloc _ _ _)).mono ?_); rintro e w1 ⟨rfl, hw1⟩; obtain ⟨y0, y1, y2, y3⟩ := HBX.out w1 (hw1); have q0 := HQ.out w1 ((Frm.alloc NoS _ _).then1 hw1); have hbl := World.block_lt_of_cell? _ _ y0; have HW1 := Lib.hid hw1; clear hw1)
          | (go_at_call 171; go_loud (refine (HO.out _).mono ?_); rintro e w2 ⟨rfl, hw2⟩; clear y0 y1 y2 y3 q0 hbl; obtain ⟨y0, y1, y2, y3⟩ := HBX.out w2 (HW1.out.then1 hw2); have q0 := HQ.out w2 ((Frm.alloc NoS _ _).then1 (HW1.out.then1 hw2)); have hbl := World.block_lt_of_cell? _ _ y0; have HW2 := Lib.hid (HW1.out.then1 hw2); clear hw2)
          | (go_at_call 172; go_loud (refine (HK.out _).mono ?_); rintro e w3 ⟨rfl, hw3⟩; clear y0 y1 y2 y3 q0 hbl; obtain ⟨y0, y1, y2, y3⟩ := HBX.out w3 (HW2.out.then1 hw3); have q0 := HQ.out w3 ((Frm.alloc NoS _ _).then1 (HW2.out.then1 hw3)); have hbl := World.block_lt_of_cell? _ _ y0; have HW3 := Lib.hid (HW2.out.then1 hw3); clear hw3))
        all_goals
          go_ret
          refine ⟨_, rfl, ?_, (Frm.alloc NoS w _).then1 (by first | exact HW3.out | exact HW2.out)⟩
          rw [HB.out]
          simp [actB, txtB, cntB]; try simp_all; try omega
    · rcases ha with rfl | rfl | rfl | rfl | rfl | rfl | rfl
      · rw [show ofA 1 = 1 from rfl] at HO
        go_enter Tryz.func131, Tryz.ntmps131
        go_wp2_with (first
          | (go_at_call 170; go_loud (refine (HP.out _ (Frm.alloc _ _ _)).mono ?_); rintro e w1 ⟨rfl, hw1⟩; obtain ⟨y0, y1, y2, y3⟩ := HBX.out w1 (hw1); have q0 := HQ.out w1 ((Frm.alloc NoS _ _).then1 hw1); have hbl := World.block_lt_of_cell? _ _ y0; have HW1 := Lib.hid hw1; clear hw1)
          | (go_at_call 171; go_loud (refine (HO.out _).mono ?_); rintro e w2 ⟨rfl, hw2⟩; clear y0 y1 y2 y3 q0 hbl; obtain ⟨y0, y1, y2, y3⟩ := HBX.out w2 (HW1.out.then1 hw2); have q0 := HQ.out w2 ((Frm.alloc NoS _ _).then1 (HW1.out.then1 hw2)); have hbl := World.block_lt_of_cell? _ _ y0; have HW2 := Lib.hid (HW1.out.then1 hw2); clear hw2)
          | (go_at_call 172; go_loud (refine (HK.out _).mono ?_); rintro e w3 ⟨rfl, hw3⟩; clear y0 y1 y2 y3 q0 hbl; obtain ⟨y0, y1, y2, y3⟩ := HBX.out w3 (HW2.out.then1 hw3); have q0 := HQ.out w3 ((Frm.alloc NoS _ _).then1 (HW2.out.then1 hw3)); have hbl := World.block_lt_of_cell? _ _ y0; have HW3 := Lib.hid (HW2.out.then1 hw3); clear hw3))
        all_goals
          go_ret
          refine ⟨_, rfl, ?_, (Frm.alloc NoS w _).then1 (by first | exact HW3.out | exact HW2.out)⟩
          rw [HB.out]
          simp [actB, txtB, cntB]; try simp_all; try omega
      · rw [show ofA 2 = 1 from rfl] at HO
        go_enter Tryz.func131, Tryz.ntmps131
        go_wp2_with (first
          | (go_at_call 170; go_loud (refine (HP.out _ (Frm.alloc _ _ _)).mono ?_); rintro e w1 ⟨rfl, hw1⟩; obtain ⟨y0, y1, y2, y3⟩ := HBX.out w1 (hw1); have q0 := HQ.out w1 ((Frm.alloc NoS _ _).then1 hw1); have hbl := World.block_lt_of_cell? _ _ y0; have HW1 := Lib.hid hw1; clear hw1)
          | (go_at_call 171; go_loud (refine (HO.out _).mono ?_); rintro e w2 ⟨rfl, hw2⟩; clear y0 y1 y2 y3 q0 hbl; obtain ⟨y0, y1, y2, y3⟩ := HBX.out w2 (HW1.out.then1 hw2); have q0 := HQ.out w2 ((Frm.alloc NoS _ _).then1 (HW1.out.then1 hw2)); have hbl := World.block_lt_of_cell? _ _ y0; have HW2 := Lib.hid (HW1.out.then1 hw2); clear hw2)
          | (go_at_call 172; go_loud (refine (HK.out _).mono ?_); rintro e w3 ⟨rfl, hw3⟩; clear y0 y1 y2 y3 q0 hbl; obtain ⟨y0, y1, y2, y3⟩ := HBX.out w3 (HW2.out.then1 hw3); have q0 := HQ.out w3 ((Frm.alloc NoS _ _).then1 (HW2.out.then1 hw3)); have hbl := World.block_lt_of_cell? _ _ y0; have HW3 := Lib.hid (HW2.out.then1 hw3); clear hw3))
        all_goals
          go_ret
          refine ⟨_, rfl, ?_, (Frm.alloc NoS w _).then1 (by first | exact HW3.out | exact HW2.out)⟩
          rw [HB.out]
          simp [actB, txtB, cntB]; try simp_all; try omega
      · rw [show ofA 3 = 2 from rfl] at HO
        go_enter Tryz.func131, Tryz.ntmps131
        go_wp2_with (first
          | (go_at_call 170; go_loud (refine (HP.out _ (Frm.alloc _ _ _)).mono ?_); rintro e w1 ⟨rfl, hw1⟩; obtain ⟨y0, y1, y2, y3⟩ := HBX.out w1 (hw1); have q0 := HQ.out w1 ((Frm.alloc NoS _ _).then1 hw1); have hbl := World.block_lt_of_cell? _ _ y0; have HW1 := Lib.hid hw1; clear hw1)
          | (go_at_call 171; go_loud (refine (HO.out _).mono ?_); rintro e w2 ⟨rfl, hw2⟩; clear y0 y1 y2 y3 q0 hbl; obtain ⟨y0, y1, y2, y3⟩ := HBX.out w2 (HW1.out.then1 hw2); have q0 := HQ.out w2 ((Frm.alloc NoS _ _).then1 (HW1.out.then1 hw2)); have hbl := World.block_lt_of_cell? _ _ y0; have HW2 := Lib.hid (HW1.out.then1 hw2); clear hw2)
          | (go_at_call 172; go_loud (refine (HK.out _).mono ?_); rintro e w3 ⟨rfl, hw3⟩; clear y0 y1 y2 y3 q0 hbl; obtain ⟨y0, y1, y2, y3⟩ := HBX.out w3 (HW2.out.then1 hw3); have q0 := HQ.out w3 ((Frm.alloc NoS _ _).then1 (HW2.out.then1 hw3)); have hbl := World.block_lt_of_cell? _ _ y0; have HW3 := Lib.hid (HW2.out.then1 hw3); clear hw3))
        all_goals
          go_ret
          refine ⟨_, rfl, ?_, (Frm.alloc NoS w _).then1 (by first | exact HW3.out | exact HW2.out)⟩
          rw [HB.out]
          simp [actB, txtB, cntB]; try simp_all; try omega
      · rw [show ofA 4 = 2 from rfl] at HO
        go_enter Tryz.func131, Tryz.ntmps131
        go_wp2_with (first
          | (go_at_call 170; go_loud (refine (HP.out _ (Frm.alloc _ _ _)).mono ?_); rintro e w1 ⟨rfl, hw1⟩; obtain ⟨y0, y1, y2, y3⟩ := HBX.out w1 (hw1); have q0 := HQ.out w1 ((Frm.alloc NoS _ _).then1 hw1); have hbl := World.block_lt_of_cell? _ _ y0; have HW1 := Lib.hid hw1; clear hw1)
          | (go_at_call 171; go_loud (refine (HO.out _).mono ?_); rintro e w2 ⟨rfl, hw2⟩; clear y0 y1 y2 y3 q0 hbl; obtain ⟨y0, y1, y2, y3⟩ := HBX.out w2 (HW1.out.then1 hw2); have q0 := HQ.out w2 ((Frm.alloc NoS _ _).then1 (HW1.out.then1 hw2)); have hbl := World.block_lt_of_cell? _ _ y0; have HW2 := Lib.hid (HW1.out.then1 hw2); clear hw2)
          | (go_at_call 172; go_loud (refine (HK.out _).mono ?_); rintro e w3 ⟨rfl, hw3⟩; clear y0 y1 y2 y3 q0 hbl; obtain ⟨y0, y1, y2, y3⟩ := HBX.out w3 (HW2.out.then1 hw3); have q0 := HQ.out w3 ((Frm.alloc NoS _ _).then1 (HW2.out.then1 hw3)); have hbl := World.block_lt_of_cell? _ _ y0; have HW3 := Lib.hid (HW2.out.then1 hw3); clear hw3))
        all_goals
          go_ret
          refine ⟨_, rfl, ?_, (Frm.alloc NoS w _).then1 (by first | exact HW3.out | exact HW2.out)⟩
          rw [HB.out]
          simp [actB, txtB, cntB]; try simp_all; try omega
      · rw [show ofA 5 = 3 from rfl] at HO
        go_enter Tryz.func131, Tryz.ntmps131
        go_wp2_with (first
          | (go_at_call 170; go_loud (refine (HP.out _ (Frm.alloc _ _ _)).mono ?_); rintro e w1 ⟨rfl, hw1⟩; obtain ⟨y0, y1, y2, y3⟩ := HBX.out w1 (hw1); have q0 := HQ.out w1 ((Frm.alloc NoS _ _).then1 hw1); have hbl := World.block_lt_of_cell? _ _ y0; have HW1 := Lib.hid hw1; clear hw1)
          | (go_at_call 171; go_loud (refine (HO.out _).mono ?_); rintro e w2 ⟨rfl, hw2⟩; clear y0 y1 y2 y3 q0 hbl; obtain ⟨y0, y1, y2, y3⟩ := HBX.out w2 (HW1.out.then1 hw2); have q0 := HQ.out w2 ((Frm.alloc NoS _ _).then1 (HW1.out.then1 hw2)); have hbl := World.block_lt_of_cell? _ _ y0; have HW2 := Lib.hid (HW1.out.then1 hw2); clear hw2)
          | (go_at_call 172; go_loud (refine (HK.out _).mono ?_); rintro e w3 ⟨rfl, hw3⟩; clear y0 y1 y2 y3 q0 hbl; obtain ⟨y0, y1, y2, y3⟩ := HBX.out w3 (HW2.out.then1 hw3); have q0 := HQ.out w3 ((Frm.alloc NoS _ _).then1 (HW2.out.then1 hw3)); have hbl := World.block_lt_of_cell? _ _ y0; have HW3 := Lib.hid (HW2.out.then1 hw3); clear hw3))
        all_goals
          go_ret
          refine ⟨_, rfl, ?_, (Frm.alloc NoS w _).then1 (by first | exact HW3.out | exact HW2.out)⟩
          rw [HB.out]
          simp [actB, txtB, cntB]; try simp_all; try omega
      · rw [show ofA 6 = 4 from rfl] at HO
        go_enter Tryz.func131, Tryz.ntmps131
        go_wp2_with (first
          | (go_at_call 170; go_loud (refine (HP.out _ (Frm.alloc _ _ _)).mono ?_); rintro e w1 ⟨rfl, hw1⟩; obtain ⟨y0, y1, y2, y3⟩ := HBX.out w1 (hw1); have q0 := HQ.out w1 ((Frm.alloc NoS _ _).then1 hw1); have hbl := World.block_lt_of_cell? _ _ y0; have HW1 := Lib.hid hw1; clear hw1)
          | (go_at_call 171; go_loud (refine (HO.out _).mono ?_); rintro e w2 ⟨rfl, hw2⟩; clear y0 y1 y2 y3 q0 hbl; obtain ⟨y0, y1, y2, y3⟩ := HBX.out w2 (HW1.out.then1 hw2); have q0 := HQ.out w2 ((Frm.alloc NoS _ _).then1 (HW1.out.then1 hw2)); have hbl := World.block_lt_of_cell? _ _ y0; have HW2 := Lib.hid (HW1.out.then1 hw2); clear hw2)
          | (go_at_call 172; go_loud (refine (HK.out _).mono ?_); rintro e w3 ⟨rfl, hw3⟩; clear y0 y1 y2 y3 q0 hbl; obtain ⟨y0, y1, y2, y3⟩ := HBX.out w3 (HW2.out.then1 hw3); have q0 := HQ.out w3 ((Frm.alloc NoS _ _).then1 (HW2.out.then1 hw3)); have hbl := World.block_lt_of_cell? _ _ y0; have HW3 := Lib.hid (HW2.out.then1 hw3); clear hw3))
        all_goals
          go_ret
          refine ⟨_, rfl, ?_, (Frm.alloc NoS w _).then1 (by first | exact HW3.out | exact HW2.out)⟩
          rw [HB.out]
          simp [actB, txtB, cntB]; try simp_all; try omega
      · rw [show ofA 7 = 0 from rfl] at HO
        go_enter Tryz.func131, Tryz.ntmps131
        go_wp2_with (first
          | (go_at_call 170; go_loud (refine (HP.out _ (Frm.alloc _ _ _)).mono ?_); rintro e w1 ⟨rfl, hw1⟩; obtain ⟨y0, y1, y2, y3⟩ := HBX.out w1 (hw1); have q0 := HQ.out w1 ((Frm.alloc NoS _ _).then1 hw1); have hbl := World.block_lt_of_cell? _ _ y0; have HW1 := Lib.hid hw1; clear hw1)
          | (go_at_call 171; go_loud (refine (HO.out _).mono ?_); rintro e w2 ⟨rfl, hw2⟩; clear y0 y1 y2 y3 q0 hbl; obtain ⟨y0, y1, y2, y3⟩ := HBX.out w2 (HW1.out.then1 hw2); have q0 := HQ.out w2 ((Frm.alloc NoS _ _).then1 (HW1.out.then1 hw2)); have hbl := World.block_lt_of_cell? _ _ y0; have HW2 := Lib.hid (HW1.out.then1 hw2); clear hw2)
          | (go_at_call 172; go_loud (refine (HK.out _).mono ?_); rintro e w3 ⟨rfl, hw3⟩; clear y0 y1 y2 y3 q0 hbl; obtain ⟨y0, y1, y2, y3⟩ := HBX.out w3 (HW2.out.then1 hw3); have q0 := HQ.out w3 ((Frm.alloc NoS _ _).then1 (HW2.out.then1 hw3)); have hbl := World.block_lt_of_cell? _ _ y0; have HW3 := Lib.hid (HW2.out.then1 hw3); clear hw3))
        all_goals
          go_ret
          refine ⟨_, rfl, ?_, (Frm.alloc NoS w _).then1 (by first | exact HW3.out | exact HW2.out)⟩
          rw [HB.out]
          simp [actB, txtB, cntB]; try simp_all; try omega
  · have hk : ofA a = -1 := by unfold ofA; rw [if_neg (by omega), if_neg (by omega), if_neg (by omega), if_neg (by omega), if_neg (by omega)]
    rw [hk] at HO
    have hact : actB a K = false := by unfold actB; rw [if_neg (by omega), if_neg (by omega), if_neg (by omega), if_neg (by omega)]; exact beq_false_of_ne (by omega)
    have HACT := Lib.hid hact; clear hact hs hk
    go_enter Tryz.func131, Tryz.ntmps131
    go_wp2_with (first
      | (go_at_call 170; go_loud (refine (HP.out _ (Frm.alloc _ _ _)).mono ?_); rintro e w1 ⟨rfl, hw1⟩; obtain ⟨y0, y1, y2, y3⟩ := HBX.out w1 (hw1); have q0 := HQ.out w1 ((Frm.alloc NoS _ _).then1 hw1); have hbl := World.block_lt_of_cell? _ _ y0; have HW1 := Lib.hid hw1; clear hw1)
      | (go_at_call 171; go_loud (refine (HO.out _).mono ?_); rintro e w2 ⟨rfl, hw2⟩; clear y0 y1 y2 y3 q0 hbl; obtain ⟨y0, y1, y2, y3⟩ := HBX.out w2 (HW1.out.then1 hw2); have q0 := HQ.out w2 ((Frm.alloc NoS _ _).then1 (HW1.out.then1 hw2)); have hbl := World.block_lt_of_cell? _ _ y0; have HW2 := Lib.hid (HW1.out.then1 hw2); clear hw2)
      | (go_at_call 172; go_loud (refine (HK.out _).mono ?_); rintro e w3 ⟨rfl, hw3⟩; clear y0 y1 y2 y3 q0 hbl; obtain ⟨y0, y1, y2, y3⟩ := HBX.out w3 (HW2.out.then1 hw3); have q0 := HQ.out w3 ((Frm.alloc NoS _ _).then1 (HW2.out.then1 hw3)); have hbl := World.block_lt_of_cell? _ _ y0; have HW3 := Lib.hid (HW2.out.then1 hw3); clear hw3))
    all_goals
      go_ret
      refine ⟨_, rfl, ?_, (Frm.alloc NoS w _).then1 (by first | exact HW3.out | exact HW2.out)⟩
      rw [HB.out]
      rw [HACT.out]; simp
set_option maxRecDepth 1000000 in
theorem opRight_any (ss : List ByteArray) (a n : Int) (s : ByteArray) (w : World) (v : Value) (h : StrsAt w v ss) (hl : ss.length ≤ 100000) :
    Calls Tryz.prog 84 #[.agg #[v, .int .i64 a, .string s, .int .i64 n]] w fun e w' => e = .returned (.bool (opB ss a s n)) ∧ Frm NoS w w' := by
  have HC := Lib.hid (fun W (f : Frm NoS w W) => opCheck_any ss a n s W v (h.keep0 f) hl)
  unfold OpPost at HC
  obtain ⟨a0, c0, rfl⟩ := h.sl
  clear h
  generalize opB ss a s n = b at *
  generalize ss.length = l at *
  go_enter Tryz.func84, Tryz.ntmps84
  go_wp2_with (go_at_call 131; go_loud (refine (HC.out _ (Frm.alloc _ _ _)).mono ?_); rintro e w1 ⟨x, rfl, hx, hw1⟩; have HX := Lib.hid hx; have HW1 := Lib.hid ((Frm.alloc NoS _ _).then1 hw1); clear hw1 hx)
  go_ret
  refine ⟨?_, HW1.out⟩
  have hx := HX.out
  cases b with
  | true => rw [hx.2 rfl]; rfl
  | false =>
    have hx0 : ¬ x = 0 := fun e => by have := hx.1 e; cases this
    simp [hx0]
end Go.Proofs.YtggfoihfenlckaaGreat
/- tributaryref15: Path, Op: the walks. Printed by wip/opgen4.py. -/
namespace Go.Proofs.YtggfoihfenlckaaGreat
open Go.RowKit
set_option maxHeartbeats 4000000 in
set_option maxRecDepth 1000000 in
theorem r15Path_any (ss : List ByteArray) (w : World) (v : Value) (h : StrsAt w v ss) (hl : ss.length ≤ 100000) :
    Calls Tryz.prog 72 #[v] w fun e w' => e = .returned (.int .i64 (pathE ss)) ∧ Frm NoS w w' := by
  by_cases h1 : ss.length < 1 ∨ 3 < ss.length
  · rw [pathE_len h1]
    obtain ⟨a, c, rfl⟩ := h.sl
    clear h
    generalize ss.length = n at *
    rcases h1 with h1 | h1
    · obtain rfl : n = 0 := by omega
      go_enter Tryz.func72, Tryz.ntmps72
      go_wp2
      go_ret
      exact ⟨rfl, Frm.refl _ _⟩
    · have h2 : ¬ (n : Int) ≤ 3 := by omega
      have h3 : ((n : Int) == 0) = false := beq_false_of_ne (by omega)
      go_enter Tryz.func72, Tryz.ntmps72
      go_wp2
      go_ret
      exact ⟨rfl, Frm.refl _ _⟩
  · rcases Rd.shape h with ⟨ad, rfl, h0⟩ | ⟨b, off, c, rfl, hmax⟩
    · omega
    have HK := Lib.hid r15Kind_any
    have hn1 : 1 ≤ ss.length := by omega
    have hn3 : ss.length ≤ 3 := by omega
    have hz : ((ss.length : Int) == 0) = false := beq_false_of_ne (by omega)
    have hw1 : IntKind.i64.wrap ((ss.length : Int) - 1) = ((ss.length - 1 : Nat) : Int) := by rw [IntKind.wrap_i64]; omega
    have hw2 : ((ss.length : Int) - 1) = ((ss.length - 1 : Nat) : Int) := by omega
    have H1 := Lib.hid h1; clear h1
    have HH := Lib.hid (show Rd w (.slice (some ⟨b, off, none⟩) ss.length c) ss.length (ss.map Value.string) from h); clear h
    generalize hm : ss.length - 1 = m at *
    have HM := Lib.hid hm
    generalize hn : ss.length = n at *
    have HN := Lib.hid hn; clear hn
    have hmn : m + 1 = n := by omega
    clear hm
    go_enter Tryz.func72, Tryz.ntmps72
    go_wp2
    go_loopw [15] (fun i W => ∃ k : Nat, k ≤ n ∧ i = .int .i64 k ∧ (ss.take k).any p1 = false ∧ Frm NoS w W) (fun i _ => n - (intOf i).toNat)
    case atStart => exact ⟨0, Nat.zero_le _, rfl, by simp, Frm.refl _ _⟩
    case round =>
      obtain ⟨k, hk, rfl, ha, hw⟩ := hrel
      have HAN := Lib.hid ha; clear ha
      have HW := Lib.hid hw; clear hw
      by_cases hlt : k < n
      · have hlk : k < ss.length := by rw [HN.out]; exact hlt
        have q0 := HW.out.cell' (str_at HH.out k hlk) id
        have HT := Lib.hid (any_take (p := p1) hlk)
        have HE := Lib.hid (any_here (p := p1) hlk)
        generalize ss.getD k ByteArray.empty = s at *
        by_cases hs : 30 < s.size
        · have h2 : ¬ (s.size : Int) ≤ 30 := by omega
          have HEX := Lib.hid (pathE_any (HE.out (by unfold p1; simp [hs])))
          clear HE HT hs
          go_wp2
          go_ret
          exact ⟨by rw [HEX.out]; rfl, HW.out⟩
        · have h2 : (s.size : Int) ≤ 30 := by omega
          have HKC := Lib.hid (fun W => HK.out s W)
          have hp : p1 s = (kindOf s == 0) := by unfold p1; rw [show decide (30 < s.size) = false from decide_eq_false hs]; rfl
          rw [hp] at HT HE
          clear hp hs
          generalize kindOf s = x at *
          cases hx : (x == 0) with
          | true =>
            have HEX := Lib.hid (pathE_any (HE.out hx))
            clear HE HT
            go_wp2_with (go_at_call 74; go_loud (refine (HKC.out _).mono ?_); rintro e w1 ⟨rfl, hw9⟩; have HW1 := Lib.hid (HW.out.then1 hw9); clear hw9)
            go_ret
            exact ⟨by rw [HEX.out]; rfl, HW1.out⟩
          | false =>
            have HTX := Lib.hid (show (ss.take (k + 1)).any p1 = false by rw [HT.out, HAN.out, hx]; rfl)
            clear HE HT
            go_wp2_with (go_at_call 74; go_loud (refine (HKC.out _).mono ?_); rintro e w1 ⟨rfl, hw9⟩; have HW1 := Lib.hid (HW.out.then1 hw9); clear hw9)
            go_roundw
            case rel => exact ⟨k + 1, by omega, by go_num, HTX.out, HW1.out⟩
            case measure => simp [intOf]; omega
      · obtain rfl : n = k := by omega
        have hall : ss.any p1 = false := by
          have := HAN.out
          rwa [List.take_of_length_le (by rw [HN.out]; exact Nat.le_refl _)] at this
        have HALL := Lib.hid hall; clear hall HAN
        go_wp2
        go_loopw [35] (fun i W => ∃ k : Nat, k ≤ n ∧ i = .int .i64 k ∧ (ss.take (min k m)).any p2 = false ∧ Frm NoS w W) (fun i _ => n - (intOf i).toNat)
        case atStart => exact ⟨0, Nat.zero_le _, rfl, by simp, HW.out⟩
        case round =>
          clear HW
          obtain ⟨k, hk, rfl, ha, hw⟩ := hrel
          have HAN := Lib.hid ha; clear ha
          have HW := Lib.hid hw; clear hw
          by_cases hlt : k < m
          · have hlk : k < ss.length := by rw [HN.out]; omega
            have q0 := HW.out.cell' (str_at HH.out k hlk) id
            have HT := Lib.hid (any_take (p := p2) hlk)
            have HE := Lib.hid (fun (h : p2 (ss.getD k ByteArray.empty) = true) => (show (ss.take (ss.length - 1)).any p2 = true from List.any_eq_true.2 ⟨_, by
              rw [show ss.length - 1 = m by rw [HN.out]; omega]
              have e1 : ss.getD k ByteArray.empty = (ss.take m).getD k ByteArray.empty := by simp [List.getD_eq_getElem?_getD, List.getElem?_take, hlt]
              rw [e1]
              exact getD_mem ByteArray.empty (by rw [List.length_take]; omega), h⟩))
            rw [Nat.min_eq_left (Nat.le_of_lt hlt)] at HAN
            generalize ss.getD k ByteArray.empty = s at *
            have HKC := Lib.hid (fun W => HK.out s W)
            have hp : p2 s = !(kindOf s == 5) := rfl
            rw [hp] at HT HE
            clear hp
            generalize kindOf s = x at *
            have hkn : k < n := by omega
            cases hx : (x == 5) with
            | false =>
              have hx2 : (x != 5) = true := by simp [bne, hx]
              have HEX := Lib.hid (pathE_six (by rw [HN.out]; exact H1.out) HALL.out (HE.out (by rw [hx]; rfl)))
              clear HE HT
              go_wp2_with (go_at_call 74; go_loud (refine (HKC.out _).mono ?_); rintro e w1 ⟨rfl, hw9⟩; have HW1 := Lib.hid (HW.out.then1 hw9); clear hw9)
              go_ret
              exact ⟨by rw [HEX.out]; rfl, HW1.out⟩
            | true =>
              have hx2 : (x != 5) = false := by simp [bne, hx]
              have HTX := Lib.hid (show (ss.take (min (k + 1) m)).any p2 = false by rw [Nat.min_eq_left hlt, HT.out, HAN.out, hx]; rfl)
              clear HE HT
              go_wp2_with (go_at_call 74; go_loud (refine (HKC.out _).mono ?_); rintro e w1 ⟨rfl, hw9⟩; have HW1 := Lib.hid (HW.out.then1 hw9); clear hw9)
              go_roundw
              case rel => exact ⟨k + 1, by omega, by go_num, HTX.out, HW1.out⟩
              case measure => simp [intOf]; omega
          · by_cases hkn : k < n
            · have HTX := Lib.hid (show (ss.take (min (k + 1) m)).any p2 = false by
                have h := HAN.out
                rw [show min k m = m by omega] at h
                rw [show min (k + 1) m = m by omega]; exact h)
              have hge : ¬ (k : Int) < m := by omega
              go_wp2
              go_roundw
              case rel => exact ⟨k + 1, by omega, by go_num, HTX.out, HW.out⟩
              case measure => simp [intOf]; omega
            · obtain rfl : n = k := by omega
              have HEX := Lib.hid (pathE_ok (by rw [HN.out]; exact H1.out) HALL.out (by rw [show ss.length - 1 = m by rw [HN.out]; omega]; have h := HAN.out; rw [show min n m = m by omega] at h; exact h))
              go_wp2
              go_ret
              exact ⟨by rw [HEX.out]; rfl, HW.out⟩
end Go.Proofs.YtggfoihfenlckaaGreat
/- tributaryref15: Op: the walk. Printed by wip/opgen5.py. -/
namespace Go.Proofs.YtggfoihfenlckaaGreat
open Go.RowKit
set_option maxHeartbeats 16000000 in
set_option maxRecDepth 1000000 in
theorem r15Op_any (ss : List ByteArray) (a n : Int) (s : ByteArray) (w : World) (v : Value) (h : StrsAt w v ss) (hl : ss.length ≤ 100000) (hsz : s.size ≤ 9223372036854775807) :
    Calls Tryz.prog 23 #[.agg #[v, .int .i64 a, .string s, .int .i64 n]] w (OpPost (opB ss a s n) w) := by
  have HP := Lib.hid (fun W (f : Frm NoS w W) => r15Path_any ss W v (h.keep0 f) hl)
  by_cases hp : pathE ss = 0
  rotate_left 1
  · have hb : opB ss a s n = false := by unfold opB; rw [show (pathE ss == 0) = false from beq_false_of_ne hp]; rfl
    rw [hb]
    clear hb
    obtain ⟨a0, c0, rfl⟩ := h.sl
    clear h
    have hx1 : (pathE ss != 0) = true := by simp [bne, hp]
    generalize pathE ss = x at *
    generalize ss.length = l at *
    have HX := Lib.hid hp; clear hp
    go_enter Tryz.func23, Tryz.ntmps23
    go_wp2_with (go_at_call 72; go_loud (refine (HP.out _ (Frm.alloc _ _ _)).mono ?_); rintro e w1 ⟨rfl, hw1⟩; have HW1 := Lib.hid ((Frm.alloc NoS _ _).then1 hw1); clear hw1)
    go_ret
    exact ⟨x, rfl, ⟨fun h => absurd h HX.out, fun h => by cases h⟩, HW1.out⟩
  obtain ⟨hl1, hl3⟩ := pathE_zero hp
  rw [hp] at HP
  rcases Rd.shape h with ⟨ad, rfl, h0⟩ | ⟨b, off, c, rfl, hmax⟩
  · omega
  have HQ := Lib.hid (fun W (f : Frm NoS w W) => (show W.cell? ⟨b, off + (ss.length - 1), none⟩ = some (.string (lastS ss)) from str_at (Rd.keep0 h f) (ss.length - 1) (by omega)))
  have HK := Lib.hid (fun W => r15Kind_any (lastS ss) W)
  have HKY := Lib.hid (fun W => r8Key_any s W hsz)
  have HB := Lib.hid (show opB ss a s n = (actB a (kindOf (lastS ss)) && (txtB a s && cntB a n)) by unfold opB; rw [hp]; rfl)
  generalize opB ss a s n = bb at *
  generalize kindOf (lastS ss) = K at *
  generalize lastS ss = ls at *
  have HACT := Lib.hid (fun W => r15act_any a K W)
  generalize actB a K = q at *
  have hwr : IntKind.i64.wrap ((ss.length : Int) - 1) = ((ss.length - 1 : Nat) : Int) := by rw [IntKind.wrap_i64]; omega
  have hsb : ((ss.length : Int) - 1) = ((ss.length - 1 : Nat) : Int) := by omega
  have hml : ss.length - 1 < ss.length := by omega
  have hbw : b < w.heap.size := World.block_lt_of_cell? _ _ (HQ.out w (Frm.refl _ _))
  clear h hp
  have HBX := Lib.hid (fun W f => box4 w (.slice (some ⟨b, off, none⟩) ss.length c) (.int .i64 a) (.string s) (.int .i64 n) 40 W f)
  generalize ss.length - 1 = m at *
  generalize ss.length = l at *
  go_enter Tryz.func23, Tryz.ntmps23
  go_wp2_with (go_at_call 72; go_loud (refine (HP.out _ (Frm.alloc _ _ _)).mono ?_); rintro e w1 ⟨rfl, hw1⟩; obtain ⟨y0, y1, y2, y3⟩ := HBX.out w1 hw1; have q0 := HQ.out w1 ((Frm.alloc NoS _ _).then1 hw1); have hbl := World.block_lt_of_cell? _ _ y0; have HW1 := Lib.hid hw1; clear hw1)
  clear y0 y1 y2 y3 q0 hbl
  obtain ⟨α, hne, KK, hK1, hK0, hK2⟩ := worlds w1
  have kb := fun s => HBX.out (KK s) (HW1.out.then1 (hK1 s))
  have k0 := fun s => (kb s).1
  have k1 := fun s => (kb s).2.1
  have k2 := fun s => (kb s).2.2.1
  have k3 := fun s => (kb s).2.2.2
  have kq := fun s => HQ.out (KK s) ((Frm.alloc NoS _ _).then1 (HW1.out.then1 (hK1 s)))
  clear kb
  refine wp_region_new KK (by kernel_rfl) (by kernel_rfl) hK0 ?_
  repeat (go_big_quiet_step ((first | (go_at_call 74; exact Calls.in_class hK2 (HK.out _)) | (go_at_call 73; exact Calls.in_class hK2 (HACT.out _)))))
  refine wpQuiet_nil ?_
  intro w' hw'
  obtain ⟨s1, rfl⟩ := hw'
  have HW2 := Lib.hid (HW1.out.then1 (hK1 s1))
  clear k0 k1 k2 k3 kq hK0 hK2 hK1
  generalize KK s1 = w2 at *
  obtain ⟨y0, y1, y2, y3⟩ := HBX.out w2 HW2.out; have hbl := World.block_lt_of_cell? _ _ y0
  have hs : (s = ByteArray.empty) ∨ (0 < s.size ∧ s.toList.isEmpty = false ∧ ¬ s = ByteArray.empty) := by
    by_cases h : 0 < s.size
    · exact .inr ⟨h, str_full h, fun e => by rw [e] at h; exact absurd h (by decide)⟩
    · exact .inl (str_nil h)
  cases q with
  | false =>
    clear hs
    go_wp2
    go_ret
    refine ⟨_, rfl, ?_, (Frm.alloc NoS w _).then1 HW2.out⟩
    rw [HB.out]
    simp
  | true =>
    by_cases h3 : a = 3 ∨ a = 4
    · have hk : keyB s = decide (1 ≤ s.size ∧ s.size ≤ 30) := rfl
      rw [hk] at HKY
      by_cases hy : 1 ≤ s.size ∧ s.size ≤ 30
      · rw [decide_eq_true hy] at HKY
        clear hs hk
        rcases h3 with rfl | rfl
        · go_wp2_with (go_at_call 75; go_loud (refine (HKY.out _).mono ?_); rintro e w3 ⟨rfl, rfl⟩)
          all_goals
            go_ret
            refine ⟨_, rfl, ?_, (Frm.alloc NoS w _).then1 HW2.out⟩
            rw [HB.out, show txtB 3 s = true by unfold txtB; simp [hy], show cntB 3 n = (n == 0) from rfl]
            simp_all
        · go_wp2_with (go_at_call 75; go_loud (refine (HKY.out _).mono ?_); rintro e w3 ⟨rfl, rfl⟩)
          all_goals
            go_ret
            refine ⟨_, rfl, ?_, (Frm.alloc NoS w _).then1 HW2.out⟩
            rw [HB.out, show txtB 4 s = true by unfold txtB; simp [hy], show cntB 4 n = (n == 0) from rfl]
            simp_all
      · rw [decide_eq_false hy] at HKY
        clear hs hk
        rcases h3 with rfl | rfl
        · go_wp2_with (go_at_call 75; go_loud (refine (HKY.out _).mono ?_); rintro e w3 ⟨rfl, rfl⟩)
          go_ret
          refine ⟨_, rfl, ?_, (Frm.alloc NoS w _).then1 HW2.out⟩
          rw [HB.out, show txtB 3 s = false by unfold txtB; simp only [true_or, or_true, if_true]; exact decide_eq_false hy]
          simp
        · go_wp2_with (go_at_call 75; go_loud (refine (HKY.out _).mono ?_); rintro e w3 ⟨rfl, rfl⟩)
          go_ret
          refine ⟨_, rfl, ?_, (Frm.alloc NoS w _).then1 HW2.out⟩
          rw [HB.out, show txtB 4 s = false by unfold txtB; simp only [true_or, or_true, if_true]; exact decide_eq_false hy]
          simp
    · have a3 : (a == 3) = false := beq_false_of_ne (by omega)
      have a4 : (a == 4) = false := beq_false_of_ne (by omega)
      by_cases h6 : a = 6
      · subst h6
        by_cases hy : s.size ≤ 30
        · have hy2 : (s.size : Int) ≤ 30 := by omega
          clear hs
          go_wp2
          all_goals
            go_ret
            refine ⟨_, rfl, ?_, (Frm.alloc NoS w _).then1 HW2.out⟩
            rw [HB.out, show txtB 6 s = true by unfold txtB; simp [hy], show cntB 6 n = (n == 0) from rfl]
            simp_all
        · have hy2 : ¬ (s.size : Int) ≤ 30 := by omega
          clear hs
          go_wp2
          go_ret
          refine ⟨_, rfl, ?_, (Frm.alloc NoS w _).then1 HW2.out⟩
          rw [HB.out, show txtB 6 s = false by unfold txtB; simp; omega]
          simp
      · have a6 : (a == 6) = false := beq_false_of_ne h6
        have ht : txtB a s = decide (s.size = 0) := by unfold txtB; rw [if_neg h3, if_neg h6]
        rw [ht] at HB
        clear ht
        rcases hs with rfl | ⟨hs, hem, hne⟩
        · by_cases h5 : a = 5
          · subst h5
            have HN := Lib.hid (show cntB 5 n = decide (-1099511627776 ≤ n ∧ n ≤ 1099511627776) from rfl)
            go_wp2
            all_goals
              go_ret
              refine ⟨_, rfl, ?_, (Frm.alloc NoS w _).then1 HW2.out⟩
              rw [HB.out, HN.out]
              simp
              try omega
          · have a5 : (a == 5) = false := beq_false_of_ne h5
            have a5' : (a != 5) = true := by simp [bne, h5]
            have HN := Lib.hid (show cntB a n = (n == 0) by unfold cntB; rw [if_neg h5])
            go_wp2
            all_goals
              go_ret
              refine ⟨_, rfl, ?_, (Frm.alloc NoS w _).then1 HW2.out⟩
              rw [HB.out, HN.out]
              simp_all
        · go_wp2
          go_ret
          refine ⟨_, rfl, ?_, (Frm.alloc NoS w _).then1 HW2.out⟩
          rw [HB.out, show decide (s.size = 0) = false from decide_eq_false (by omega)]
          simp
end Go.Proofs.YtggfoihfenlckaaGreat
/- tributaryref15: Short; tributaryref16: SameOp of what is alike: the walks. -/
namespace Go.Proofs.YtggfoihfenlckaaGreat
open Go.RowKit
def longS (x : ByteArray) : Bool := decide (99 < x.size)
def shortB (ss : List ByteArray) (s : ByteArray) : Bool := decide (ss.length ≤ 9) && (decide (s.size ≤ 99) && !(ss.any longS))
set_option maxHeartbeats 4000000 in
set_option maxRecDepth 1000000 in
theorem r15Short_any (ss : List ByteArray) (a n : Int) (s : ByteArray) (w : World) (v : Value) (h : StrsAt w v ss) :
    Calls Tryz.prog 50 #[.agg #[v, .int .i64 a, .string s, .int .i64 n]] w fun e w' => e = .returned (.bool (shortB ss s)) ∧ Frm NoS w w' := by
  have HBX := Lib.hid (fun W f => box4 w v (.int .i64 a) (.string s) (.int .i64 n) 40 W f)
  by_cases h9 : ss.length ≤ 9
  rotate_left 1
  · have hb : shortB ss s = false := by unfold shortB; rw [decide_eq_false h9]; rfl
    rw [hb]
    clear hb
    obtain ⟨a0, c0, rfl⟩ := h.sl
    clear h
    have h2 : ¬ (ss.length : Int) ≤ 9 := by omega
    generalize ss.length = l at *
    go_enter Tryz.func50, Tryz.ntmps50
    go_wp2
    go_ret
    exact ⟨rfl, Frm.alloc _ _ _⟩
  by_cases h99 : s.size ≤ 99
  rotate_left 1
  · have hb : shortB ss s = false := by unfold shortB; rw [decide_eq_false h99]; simp
    rw [hb]
    clear hb
    obtain ⟨a0, c0, rfl⟩ := h.sl
    clear h
    have h1 : (ss.length : Int) ≤ 9 := by omega
    have h2 : ¬ (s.size : Int) ≤ 99 := by omega
    generalize ss.length = l at *
    go_enter Tryz.func50, Tryz.ntmps50
    go_wp2
    go_ret
    exact ⟨rfl, Frm.alloc _ _ _⟩
  have hsb : shortB ss s = !(ss.any longS) := by unfold shortB; rw [decide_eq_true h9, decide_eq_true h99]; rfl
  rw [hsb]
  clear hsb
  obtain ⟨a0, c0, rfl⟩ := h.sl
  have HS := Lib.hid (show Rd w (.slice a0 ss.length c0) ss.length (ss.map Value.string) from h); clear h
  have h1 : (ss.length : Int) ≤ 9 := by omega
  have h2 : (s.size : Int) ≤ 99 := by omega
  generalize hm : ss.length = m at *
  have HM := Lib.hid hm; clear hm
  have HFA := Lib.hid (Frm.alloc NoS w (.cells #[.slice a0 m c0, .int .i64 a, .string s, .int .i64 n] 40))
  go_enter Tryz.func50, Tryz.ntmps50
  go_wp2
  go_loopw [17] (fun i W => ∃ k : Nat, k ≤ m ∧ i = .int .i64 k ∧ (ss.take k).any longS = false ∧ Frm NoS (w.alloc (.cells #[.slice a0 m c0, .int .i64 a, .string s, .int .i64 n] 40)) W) (fun i _ => m - (intOf i).toNat)
  case atStart => exact ⟨0, Nat.zero_le _, rfl, by simp, Frm.refl _ _⟩
  case round =>
    obtain ⟨k, hk, rfl, ha, hw⟩ := hrel
    have HAN := Lib.hid ha; clear ha
    obtain ⟨y0, -, -, -⟩ := HBX.out wr hw
    have HW := Lib.hid hw; clear hw
    by_cases hlt : k < m
    · have hlk : k < ss.length := by rw [HM.out]; exact hlt
      rcases Rd.shape HS.out with ⟨ad, he, h0⟩ | ⟨b, off, cc, he, hmax⟩
      · exfalso; omega
      injection he with e1 e2 e3
      subst e1 e3
      clear e2
      have q0 := (HFA.out.then1 HW.out).cell' (str_at HS.out k hlk) id
      have HT := Lib.hid (any_take (p := longS) hlk)
      have HE := Lib.hid (any_here (p := longS) hlk)
      generalize ss.getD k ByteArray.empty = x at *
      by_cases hx : 99 < x.size
      · have hx2 : ¬ (x.size : Int) ≤ 99 := by omega
        have HEX := Lib.hid (HE.out (decide_eq_true hx))
        clear HE HT hx
        go_wp2
        go_ret
        exact ⟨by rw [HEX.out]; rfl, HFA.out.then1 HW.out⟩
      · have hx2 : (x.size : Int) ≤ 99 := by omega
        have HTX := Lib.hid (show (ss.take (k + 1)).any longS = false by rw [HT.out, HAN.out, show longS x = false from decide_eq_false hx]; rfl)
        clear HE HT hx
        go_wp2
        go_roundw
        case rel => exact ⟨k + 1, by omega, by go_num, HTX.out, HW.out⟩
        case measure => simp [intOf]; omega
    · obtain rfl : m = k := by omega
      have hall : ss.any longS = false := by
        have := HAN.out
        rwa [List.take_of_length_le (by rw [HM.out]; exact Nat.le_refl _)] at this
      have HALL := Lib.hid hall; clear hall HAN
      go_wp2
      go_ret
      exact ⟨by rw [HALL.out]; rfl, HFA.out.then1 HW.out⟩
theorem pair4 (w : World) (a0 a1 a2 a3 b0 b1 b2 b3 : Value) (T : TypeId) (W : World) (f : Frm NoS ((w.alloc (.cells #[a0, a1, a2, a3] T)).alloc (.cells #[b0, b1, b2, b3] T)) W) :
    (W.cell? ⟨w.heap.size, 0, none⟩ = some a0 ∧ W.cell? ⟨w.heap.size, 1, none⟩ = some a1 ∧ W.cell? ⟨w.heap.size, 2, none⟩ = some a2 ∧ W.cell? ⟨w.heap.size, 3, none⟩ = some a3) ∧
    (W.cell? ⟨w.heap.size + 1, 0, none⟩ = some b0 ∧ W.cell? ⟨w.heap.size + 1, 1, none⟩ = some b1 ∧ W.cell? ⟨w.heap.size + 1, 2, none⟩ = some b2 ∧ W.cell? ⟨w.heap.size + 1, 3, none⟩ = some b3) := by
  have h1 := f.blk ((Frm.alloc NoS (w.alloc (.cells #[a0, a1, a2, a3] T)) (.cells #[b0, b1, b2, b3] T)).blk (heap_alloc_new w _) id) id
  have h2 := f.blk (heap_alloc_new (w.alloc (.cells #[a0, a1, a2, a3] T)) (.cells #[b0, b1, b2, b3] T)) id
  rw [show (w.alloc (.cells #[a0, a1, a2, a3] T)).heap.size = w.heap.size + 1 by simp] at h2
  exact ⟨⟨cell_at' h1 0 rfl, cell_at' h1 1 rfl, cell_at' h1 2 rfl, cell_at' h1 3 rfl⟩, ⟨cell_at' h2 0 rfl, cell_at' h2 1 rfl, cell_at' h2 2 rfl, cell_at' h2 3 rfl⟩⟩
set_option maxHeartbeats 4000000 in
set_option maxRecDepth 1000000 in
theorem r16SameOp_same (ss : List ByteArray) (a n : Int) (s : ByteArray) (w : World) (v v' : Value) (h : StrsAt w v ss) (h' : StrsAt w v' ss) (hl : ss.length ≤ 100000) :
    Calls Tryz.prog 31 #[.agg #[v, .int .i64 a, .string s, .int .i64 n], .agg #[v', .int .i64 a, .string s, .int .i64 n]] w fun e w' => e = .returned (.bool true) ∧ Frm NoS w w' := by
  have HBX := Lib.hid (pair4 w v (.int .i64 a) (.string s) (.int .i64 n) v' (.int .i64 a) (.string s) (.int .i64 n) 40)
  obtain ⟨a0, c0, rfl⟩ := h.sl
  obtain ⟨a1, c1, rfl⟩ := h'.sl
  have HS := Lib.hid (show Rd w (.slice a0 ss.length c0) ss.length (ss.map Value.string) from h); clear h
  have HS' := Lib.hid (show Rd w (.slice a1 ss.length c1) ss.length (ss.map Value.string) from h'); clear h'
  generalize hm : ss.length = m at *
  have HM := Lib.hid hm; clear hm
  have HFA := Lib.hid ((Frm.alloc NoS w (.cells #[.slice a0 m c0, .int .i64 a, .string s, .int .i64 n] 40)).alloc1 (o := .cells #[.slice a1 m c1, .int .i64 a, .string s, .int .i64 n] 40))
  go_enter Tryz.func31, Tryz.ntmps31
  go_wp2
  go_loopw [37] (fun i W => ∃ k : Nat, k ≤ m ∧ i = .int .i64 k ∧ Frm NoS ((w.alloc (.cells #[.slice a0 m c0, .int .i64 a, .string s, .int .i64 n] 40)).alloc (.cells #[.slice a1 m c1, .int .i64 a, .string s, .int .i64 n] 40)) W) (fun i _ => m - (intOf i).toNat)
  case atStart => exact ⟨0, Nat.zero_le _, rfl, Frm.refl _ _⟩
  case round =>
    obtain ⟨k, hk, rfl, hw⟩ := hrel
    obtain ⟨⟨y0, -⟩, ⟨z0, -⟩⟩ := HBX.out wr hw
    have HW := Lib.hid hw; clear hw
    by_cases hlt : k < m
    · have hlk : k < ss.length := by rw [HM.out]; exact hlt
      rcases Rd.shape HS.out with ⟨ad, he, h0⟩ | ⟨b, off, cc, he, hmax⟩
      · exfalso; omega
      rcases Rd.shape HS'.out with ⟨ad, he', h0⟩ | ⟨b', off', cc', he', hmax'⟩
      · exfalso; omega
      injection he with e1 e2 e3
      injection he' with e4 e5 e6
      subst e1 e3 e4 e6
      clear e2 e5
      have q0 := (HFA.out.then1 HW.out).cell' (str_at HS.out k hlk) id
      have q1 := (HFA.out.then1 HW.out).cell' (str_at HS'.out k hlk) id
      generalize ss.getD k ByteArray.empty = x at *
      go_wp2_with fail
      go_quiet (fail)
      go_wp2
      go_roundw
      case rel => exact ⟨k + 1, by omega, by go_num, HW.out.drewN1⟩
      case measure => simp [intOf]; omega
    · obtain rfl : m = k := by omega
      go_wp2
      go_ret
      exact ⟨rfl, HFA.out.then1 HW.out⟩
end Go.Proofs.YtggfoihfenlckaaGreat