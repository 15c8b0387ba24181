/- Words for the law PackPuts: Op3, Op4, Op5, OpS, Thing. -/
import Derived.Test.YtggfoihfenlckaaGreatPackPutsG1
import Derived.Test.YtggfoihfenlckaaGreatPackPutsG2
import Derived.Test.YtggfoihfenlckaaGreatPackPutsG9
import Derived.Test.YtggfoihfenlckaaGreatPackPutsG11
import Derived.Test.YtggfoihfenlckaaGreatPackPutsG13
set_option linter.unusedSimpArgs false
set_option linter.unusedVariables false
/- op: check, Right: the walks. Printed by wip/opgen3.py. -/
namespace Go.Proofs.YtggfoihfenlckaaGreat
open Go.RowKit
def txtB (a : Int) (s : ByteArray) : Bool := if a = 3 ∨ a = 4 then decide (1 ≤ s.size ∧ s.size ≤ 30) else if a = 6 then decide (s.size ≤ 30) else decide (s.size = 0)
def cntB (a n : Int) : Bool := if a = 5 then decide (-1099511627776 ≤ n ∧ n ≤ 1099511627776) else n == 0
def lastS (ss : List ByteArray) : ByteArray := ss.getD (ss.length - 1) ByteArray.empty
/-- May a change be? -/
def opB (ss : List ByteArray) (a : Int) (s : ByteArray) (n : Int) : Bool := (pathE ss == 0) && (actB a (kindOf (lastS ss)) && (txtB a s && cntB a n))
def OpPost (b : Bool) (w : World) (e : Ending) (w' : World) : Prop := ∃ x : Int, e = .returned (.int .i64 x) ∧ (x = 0 ↔ b = true) ∧ Frm NoS w w'
theorem pathE_zero {ss : List ByteArray} (h : pathE ss = 0) : 1 ≤ ss.length ∧ ss.length ≤ 3 := by
  by_cases h1 : ss.length < 1 ∨ 3 < ss.length
  · rw [pathE_len h1] at h; cases h
  · omega
theorem box4 (w : World) (v0 v1 v2 v3 : Value) (T : TypeId) (W : World) (f : Frm NoS (w.alloc (.cells #[v0, v1, v2, v3] T)) W) : W.cell? ⟨w.heap.size, 0, none⟩ = some v0 ∧ W.cell? ⟨w.heap.size, 1, none⟩ = some v1 ∧ W.cell? ⟨w.heap.size, 2, none⟩ = some v2 ∧ W.cell? ⟨w.heap.size, 3, none⟩ = some v3 :=
  ⟨f.cell' (cell_at' (heap_alloc_new w _) 0 rfl) id, f.cell' (cell_at' (heap_alloc_new w _) 1 rfl) id, f.cell' (cell_at' (heap_alloc_new w _) 2 rfl) id, f.cell' (cell_at' (heap_alloc_new w _) 3 rfl) id⟩
set_option maxHeartbeats 8000000 in
set_option maxRecDepth 1000000 in
theorem opCheck_any (ss : List ByteArray) (a n : Int) (s : ByteArray) (w : World) (v : Value) (h : StrsAt w v ss) (hl : ss.length ≤ 100000) :
    Calls Tryz.prog 131 #[.agg #[v, .int .i64 a, .string s, .int .i64 n]] w (OpPost (opB ss a s n) w) := by
  have HP := Lib.hid (fun W (f : Frm NoS w W) => opPath_any ss W v (h.keep0 f) hl)
  by_cases hp : pathE ss = 0
  rotate_left 1
  · have hb : opB ss a s n = false := by unfold opB; rw [show (pathE ss == 0) = false from beq_false_of_ne hp]; rfl
    rw [hb]
    clear hb
    obtain ⟨a0, c0, rfl⟩ := h.sl
    clear h
    generalize pathE ss = x at *
    generalize ss.length = l at *
    have HX := Lib.hid hp
    go_enter Tryz.func131, Tryz.ntmps131
    go_wp2_with (go_at_call 170; go_loud (refine (HP.out _ (Frm.alloc _ _ _)).mono ?_); rintro e w1 ⟨rfl, hw1⟩; have HW1 := Lib.hid ((Frm.alloc NoS _ _).then1 hw1); clear hw1)
    go_ret
    exact ⟨x, rfl, ⟨fun h => absurd h HX.out, fun h => by cases h⟩, HW1.out⟩
  obtain ⟨hl1, hl3⟩ := pathE_zero hp
  rw [hp] at HP
  rcases Rd.shape h with ⟨ad, rfl, h0⟩ | ⟨b, off, c, rfl, hmax⟩
  · omega
  have HQ := Lib.hid (fun W (f : Frm NoS w W) => (show W.cell? ⟨b, off + (ss.length - 1), none⟩ = some (.string (lastS ss)) from str_at (Rd.keep0 h f) (ss.length - 1) (by omega)))
  have HK := Lib.hid (fun W => opKind_any (lastS ss) W)
  have HO := Lib.hid (fun W => opOf_any a W)
  have HB := Lib.hid (show opB ss a s n = (actB a (kindOf (lastS ss)) && (txtB a s && cntB a n)) by unfold opB; rw [hp]; rfl)
  generalize opB ss a s n = bb at *
  generalize kindOf (lastS ss) = K at *
  generalize lastS ss = ls at *
  have hwr : IntKind.i64.wrap ((ss.length : Int) - 1) = ((ss.length - 1 : Nat) : Int) := by rw [IntKind.wrap_i64]; omega
  have hsb : ((ss.length : Int) - 1) = ((ss.length - 1 : Nat) : Int) := by omega
  have hml : ss.length - 1 < ss.length := by omega
  have hbw : b < w.heap.size := World.block_lt_of_cell? _ _ (HQ.out w (Frm.refl _ _))
  clear h hp
  have HBX := Lib.hid (fun W f => box4 w (.slice (some ⟨b, off, none⟩) ss.length c) (.int .i64 a) (.string s) (.int .i64 n) 40 W f)
  generalize ss.length - 1 = m at *
  generalize ss.length = l at *
  have hs : (s = ByteArray.empty) ∨ (0 < s.size ∧ s.toList.isEmpty = false ∧ ¬ s = ByteArray.empty) := by
    by_cases h : 0 < s.size
    · exact .inr ⟨h, str_full h, fun e => by rw [e] at h; exact absurd h (by decide)⟩
    · exact .inl (str_nil h)
  by_cases ha : a = 1 ∨ a = 2 ∨ a = 3 ∨ a = 4 ∨ a = 5 ∨ a = 6 ∨ a = 7
  · rcases hs with rfl | ⟨hs, hem, hne⟩
    · rcases ha with rfl | rfl | rfl | rfl | rfl | rfl | rfl
      · rw [show ofA 1 = 1 from rfl] at HO
        go_enter Tryz.func131, Tryz.ntmps131
        go_wp2_with (first
          | (go_at_call 170; go_loud (refine (HP.out _ (Frm.alloc _ _ _)).mono ?_); rintro e w1 ⟨rfl, hw1⟩; obtain ⟨y0, y1, y2, y3⟩ := HBX.out w1 (hw1); have q0 := HQ.out w1 ((Frm.alloc NoS _ _).then1 hw1); have hbl := World.block_lt_of_cell? _ _ y0; have HW1 := Lib.hid hw1; clear hw1)
          | (go_at_call 171; go_loud (refine (HO.out _).mono ?_); rintro e w2 ⟨rfl, hw2⟩; clear y0 y1 y2 y3 q0 hbl; obtain ⟨y0, y1, y2, y3⟩ := HBX.out w2 (HW1.out.then1 hw2); have q0 := HQ.out w2 ((Frm.alloc NoS _ _).then1 (HW1.out.then1 hw2)); have hbl := World.block_lt_of_cell? _ _ y0; have HW2 := Lib.hid (HW1.out.then1 hw2); clear hw2)
          | (go_at_call 172; go_loud (refine (HK.out _).mono ?_); rintro e w3 ⟨rfl, hw3⟩; clear y0 y1 y2 y3 q0 hbl; obtain ⟨y0, y1, y2, y3⟩ := HBX.out w3 (HW2.out.then1 hw3); have q0 := HQ.out w3 ((Frm.alloc NoS _ _).then1 (HW2.out.then1 hw3)); have hbl := World.block_lt_of_cell? _ _ y0; have HW3 := Lib.hid (HW2.out.then1 hw3); clear hw3))
        all_goals
          go_ret
          refine ⟨_, rfl, ?_, (Frm.alloc NoS w _).then1 (by first | exact HW3.out | exact HW2.out)⟩
          rw [HB.out]
          simp [actB, txtB, cntB]; try simp_all; try omega
      · rw [show ofA 2 = 1 from rfl] at HO
        go_enter Tryz.func131, Tryz.ntmps131
        go_wp2_with (first
          | (go_at_call 170; go_loud (refine (HP.out _ (Frm.alloc _ _ _)).mono ?_); rintro e w1 ⟨rfl, hw1⟩; obtain ⟨y0, y1, y2, y3⟩ := HBX.out w1 (hw1); have q0 := HQ.out w1 ((Frm.alloc NoS _ _).then1 hw1); have hbl := World.block_lt_of_cell? _ _ y0; have HW1 := Lib.hid hw1; clear hw1)
          | (go_at_call 171; go_loud (refine (HO.out _).mono ?_); rintro e w2 ⟨rfl, hw2⟩; clear y0 y1 y2 y3 q0 hbl; obtain ⟨y0, y1, y2, y3⟩ := HBX.out w2 (HW1.out.then1 hw2); have q0 := HQ.out w2 ((Frm.alloc NoS _ _).then1 (HW1.out.then1 hw2)); have hbl := World.block_lt_of_cell? _ _ y0; have HW2 := Lib.hid (HW1.out.then1 hw2); clear hw2)
          | (go_at_call 172; go_loud (refine (HK.out _).mono ?_); rintro e w3 ⟨rfl, hw3⟩; clear y0 y1 y2 y3 q0 hbl; obtain ⟨y0, y1, y2, y3⟩ := HBX.out w3 (HW2.out.then1 hw3); have q0 := HQ.out w3 ((Frm.alloc NoS _ _).then1 (HW2.out.then1 hw3)); have hbl := World.block_lt_of_cell? _ _ y0; have HW3 := Lib.hid (HW2.out.then1 hw3); clear hw3))
        all_goals
          go_ret
          refine ⟨_, rfl, ?_, (Frm.alloc NoS w _).then1 (by first | exact HW3.out | exact HW2.out)⟩
          rw [HB.out]
          simp [actB, txtB, cntB]; try simp_all; try omega
      · rw [show ofA 3 = 2 from rfl] at HO
        go_enter Tryz.func131, Tryz.ntmps131
        go_wp2_with (first
          | (go_at_call 170; go_loud (refine (HP.out _ (Frm.alloc _ _ _)).mono ?_); rintro e w1 ⟨rfl, hw1⟩; obtain ⟨y0, y1, y2, y3⟩ := HBX.out w1 (hw1); have q0 := HQ.out w1 ((Frm.alloc NoS _ _).then1 hw1); have hbl := World.block_lt_of_cell? _ _ y0; have HW1 := Lib.hid hw1; clear hw1)
          | (go_at_call 171; go_loud (refine (HO.out _).mono ?_); rintro e w2 ⟨rfl, hw2⟩; clear y0 y1 y2 y3 q0 hbl; obtain ⟨y0, y1, y2, y3⟩ := HBX.out w2 (HW1.out.then1 hw2); have q0 := HQ.out w2 ((Frm.alloc NoS _ _).then1 (HW1.out.then1 hw2)); have hbl := World.block_lt_of_cell? _ _ y0; have HW2 := Lib.hid (HW1.out.then1 hw2); clear hw2)
          | (go_at_call 172; go_loud (refine (HK.out _).mono ?_); rintro e w3 ⟨rfl, hw3⟩; clear y0 y1 y2 y3 q0 hbl; obtain ⟨y0, y1, y2, y3⟩ := HBX.out w3 (HW2.out.then1 hw3); have q0 := HQ.out w3 ((Frm.alloc NoS _ _).then1 (HW2.out.then1 hw3)); have hbl := World.block_lt_of_cell? _ _ y0; have HW3 := Lib.hid (HW2.out.then1 hw3); clear hw3))
        all_goals
          go_ret
          refine ⟨_, rfl, ?_, (Frm.alloc NoS w _).then1 (by first | exact HW3.out | exact HW2.out)⟩
          rw [HB.out]
          simp [actB, txtB, cntB]; try simp_all; try omega
      · rw [show ofA 4 = 2 from rfl] at HO
        go_enter Tryz.func131, Tryz.ntmps131
        go_wp2_with (first
          | (go_at_call 170; go_loud (refine (HP.out _ (Frm.alloc _ _ _)).mono ?_); rintro e w1 ⟨rfl, hw1⟩; obtain ⟨y0, y1, y2, y3⟩ := HBX.out w1 (hw1); have q0 := HQ.out w1 ((Frm.alloc NoS _ _).then1 hw1); have hbl := World.block_lt_of_cell? _ _ y0; have HW1 := Lib.hid hw1; clear hw1)
          | (go_at_call 171; go_loud (refine (HO.out _).mono ?_); rintro e w2 ⟨rfl, hw2⟩; clear y0 y1 y2 y3 q0 hbl; obtain ⟨y0, y1, y2, y3⟩ := HBX.out w2 (HW1.out.then1 hw2); have q0 := HQ.out w2 ((Frm.alloc NoS _ _).then1 (HW1.out.then1 hw2)); have hbl := World.block_lt_of_cell? _ _ y0; have HW2 := Lib.hid (HW1.out.then1 hw2); clear hw2)
          | (go_at_call 172; go_loud (refine (HK.out _).mono ?_); rintro e w3 ⟨rfl, hw3⟩; clear y0 y1 y2 y3 q0 hbl; obtain ⟨y0, y1, y2, y3⟩ := HBX.out w3 (HW2.out.then1 hw3); have q0 := HQ.out w3 ((Frm.alloc NoS _ _).then1 (HW2.out.then1 hw3)); have hbl := World.block_lt_of_cell? _ _ y0; have HW3 := Lib.hid (HW2.out.then1 hw3); clear hw3))
        all_goals
          go_ret
          refine ⟨_, rfl, ?_, (Frm.alloc NoS w _).then1 (by first | exact HW3.out | exact HW2.out)⟩
          rw [HB.out]
          simp [actB, txtB, cntB]; try simp_all; try omega
      · rw [show ofA 5 = 3 from rfl] at HO
        go_enter Tryz.func131, Tryz.ntmps131
        go_wp2_with (first
          | (go_at_call 170; go_loud (refine (HP.out _ (Frm.alloc _ _ _)).mono ?_); rintro e w1 ⟨rfl, hw1⟩; obtain ⟨y0, y1, y2, y3⟩ := HBX.out w1 (hw1); have q0 := HQ.out w1 ((Frm.alloc NoS _ _).then1 hw1); have hbl := World.block_lt_of_cell? _ _ y0; have HW1 := Lib.hid hw1; clear hw1)
          | (go_at_call 171; go_loud (refine (HO.out _).mono ?_); rintro e w2 ⟨rfl, hw2⟩; clear y0 y1 y2 y3 q0 hbl; obtain ⟨y0, y1, y2, y3⟩ := HBX.out w2 (HW1.out.then1 hw2); have q0 := HQ.out w2 ((Frm.alloc NoS _ _).then1 (HW1.out.then1 hw2)); have hbl := World.block_lt_of_cell? _ _ y0; have HW2 := Lib.hid (HW1.out.then1 hw2); clear hw2)
          | (go_at_call 172; go_loud (refine (HK.out _).mono ?_); rintro e w3 ⟨rfl, hw3⟩; clear y0 y1 y2 y3 q0 hbl; obtain ⟨y0, y1, y2, y3⟩ := HBX.out w3 (HW2.out.then1 hw3); have q0 := HQ.out w3 ((Frm.alloc NoS _ _).then1 (HW2.out.then1 hw3)); have hbl := World.block_lt_of_cell? _ _ y0; have HW3 := Lib.hid (HW2.out.then1 hw3); clear hw3))
        all_goals
          go_ret
          refine ⟨_, rfl, ?_, (Frm.alloc NoS w _).then1 (by first | exact HW3.out | exact HW2.out)⟩
          rw [HB.out]
          simp [actB, txtB, cntB]; try simp_all; try omega
      · rw [show ofA 6 = 4 from rfl] at HO
        go_enter Tryz.func131, Tryz.ntmps131
        go_wp2_with (first
          | (go_at_call 170; go_loud (refine (HP.out _ (Frm.alloc _ _ _)).mono ?_); rintro e w1 ⟨rfl, hw1⟩; obtain ⟨y0, y1, y2, y3⟩ := HBX.out w1 (hw1); have q0 := HQ.out w1 ((Frm.alloc NoS _ _).then1 hw1); have hbl := World.block_lt_of_cell? _ _ y0; have HW1 := Lib.hid hw1; clear hw1)
          | (go_at_call 171; go_loud (refine (HO.out _).mono ?_); rintro e w2 ⟨rfl, hw2⟩; clear y0 y1 y2 y3 q0 hbl; obtain ⟨y0, y1, y2, y3⟩ := HBX.out w2 (HW1.out.then1 hw2); have q0 := HQ.out w2 ((Frm.alloc NoS _ _).then1 (HW1.out.then1 hw2)); have hbl := World.block_lt_of_cell? _ _ y0; have HW2 := Lib.hid (HW1.out.then1 hw2); clear hw2)
          | (go_at_call 172; go_loud (refine (HK.out _).mono ?_); rintro e w3 ⟨rfl, hw3⟩; clear y0 y1 y2 y3 q0 hbl; obtain ⟨y0, y1, y2, y3⟩ := HBX.out w3 (HW2.out.then1 hw3); have q0 := HQ.out w3 ((Frm.alloc NoS _ _).then1 (HW2.out.then1 hw3)); have hbl := World.block_lt_of_cell? _ _ y0; have HW3 := Lib.hid (HW2.out.then1 hw3); clear hw3))
        all_goals
          go_ret
          refine ⟨_, rfl, ?_, (Frm.alloc NoS w _).then1 (by first | exact HW3.out | exact HW2.out)⟩
          rw [HB.out]
          simp [actB, txtB, cntB]; try simp_all; try omega
      · rw [show ofA 7 = 0 from rfl] at HO
        go_enter Tryz.func131, Tryz.ntmps131
        go_wp2_with (first
          | (go_at_call 170; go_loud (refine (HP.out _ (Frm.alloc _ _ _)).mono ?_); rintro e w1 ⟨rfl, hw1⟩; obtain ⟨y0, y1, y2, y3⟩ := HBX.out w1 (hw1); have q0 := HQ.out w1 ((Frm.alloc NoS _ _).then1 hw1); have hbl := World.block_lt_of_cell? _ _ y0; have HW1 := Lib.hid hw1; clear hw1)
          | (go_at_call 171; go_loud (refine (HO.out _).mono ?_); rintro e w2 ⟨rfl, hw2⟩; clear y0 y1 y2 y3 q0 hbl; obtain ⟨y0, y1, y2, y3⟩ := HBX.out w2 (HW1.out.then1 hw2); have q0 := HQ.out w2 ((Frm.alloc NoS _ _).then1 (HW1.out.then1 hw2)); have hbl := World.block_lt_of_cell? _ _ y0; have HW2 := Lib.hid (HW1.out.then1 hw2); clear hw2)
          | (go_at_call 172; go_loud (refine (HK.out _).mono ?_); rintro e w3 ⟨rfl, hw3⟩; clear y0 y1 y2 y3 q0 hbl; obtain ⟨y0, y1, y2, y3⟩ := HBX.out w3 (HW2.out.then1 hw3); have q0 := HQ.out w3 ((Frm.alloc NoS _ _).then1 (HW2.out.then1 hw3)); have hbl := World.block_lt_of_cell? _ _ y0; have HW3 := Lib.hid (HW2.out.then1 hw3); clear hw3))
        all_goals
          go_ret
          refine ⟨_, rfl, ?_, (Frm.alloc NoS w _).then1 (by first | exact HW3.out | exact HW2.out)⟩
          rw [HB.out]
          simp [actB, txtB, cntB]; try simp_all; try omega
    · rcases ha with rfl | rfl | rfl | rfl | rfl | rfl | rfl
      · rw [show ofA 1 = 1 from rfl] at HO
        go_enter Tryz.func131, Tryz.ntmps131
        go_wp2_with (first
          | (go_at_call 170; go_loud (refine (HP.out _ (Frm.alloc _ _ _)).mono ?_); rintro e w1 ⟨rfl, hw1⟩; obtain ⟨y0, y1, y2, y3⟩ := HBX.out w1 (hw1); have q0 := HQ.out w1 ((Frm.alloc NoS _ _).then1 hw1); have hbl := World.block_lt_of_cell? _ _ y0; have HW1 := Lib.hid hw1; clear hw1)
          | (go_at_call 171; go_loud (refine (HO.out _).mono ?_); rintro e w2 ⟨rfl, hw2⟩; clear y0 y1 y2 y3 q0 hbl; obtain ⟨y0, y1, y2, y3⟩ := HBX.out w2 (HW1.out.then1 hw2); have q0 := HQ.out w2 ((Frm.alloc NoS _ _).then1 (HW1.out.then1 hw2)); have hbl := World.block_lt_of_cell? _ _ y0; have HW2 := Lib.hid (HW1.out.then1 hw2); clear hw2)
          | (go_at_call 172; go_loud (refine (HK.out _).mono ?_); rintro e w3 ⟨rfl, hw3⟩; clear y0 y1 y2 y3 q0 hbl; obtain ⟨y0, y1, y2, y3⟩ := HBX.out w3 (HW2.out.then1 hw3); have q0 := HQ.out w3 ((Frm.alloc NoS _ _).then1 (HW2.out.then1 hw3)); have hbl := World.block_lt_of_cell? _ _ y0; have HW3 := Lib.hid (HW2.out.then1 hw3); clear hw3))
        all_goals
          go_ret
          refine ⟨_, rfl, ?_, (Frm.alloc NoS w _).then1 (by first | exact HW3.out | exact HW2.out)⟩
          rw [HB.out]
          simp [actB, txtB, cntB]; try simp_all; try omega
      · rw [show ofA 2 = 1 from rfl] at HO
        go_enter Tryz.func131, Tryz.ntmps131
        go_wp2_with (first
          | (go_at_call 170; go_loud (refine (HP.out _ (Frm.alloc _ _ _)).mono ?_); rintro e w1 ⟨rfl, hw1⟩; obtain ⟨y0, y1, y2, y3⟩ := HBX.out w1 (hw1); have q0 := HQ.out w1 ((Frm.alloc NoS _ _).then1 hw1); have hbl := World.block_lt_of_cell? _ _ y0; have HW1 := Lib.hid hw1; clear hw1)
          | (go_at_call 171; go_loud (refine (HO.out _).mono ?_); rintro e w2 ⟨rfl, hw2⟩; clear y0 y1 y2 y3 q0 hbl; obtain ⟨y0, y1, y2, y3⟩ := HBX.out w2 (HW1.out.then1 hw2); have q0 := HQ.out w2 ((Frm.alloc NoS _ _).then1 (HW1.out.then1 hw2)); have hbl := World.block_lt_of_cell? _ _ y0; have HW2 := Lib.hid (HW1.out.then1 hw2); clear hw2)
          | (go_at_call 172; go_loud (refine (HK.out _).mono ?_); rintro e w3 ⟨rfl, hw3⟩; clear y0 y1 y2 y3 q0 hbl; obtain ⟨y0, y1, y2, y3⟩ := HBX.out w3 (HW2.out.then1 hw3); have q0 := HQ.out w3 ((Frm.alloc NoS _ _).then1 (HW2.out.then1 hw3)); have hbl := World.block_lt_of_cell? _ _ y0; have HW3 := Lib.hid (HW2.out.then1 hw3); clear hw3))
        all_goals
          go_ret
          refine ⟨_, rfl, ?_, (Frm.alloc NoS w _).then1 (by first | exact HW3.out | exact HW2.out)⟩
          rw [HB.out]
          simp [actB, txtB, cntB]; try simp_all; try omega
      · rw [show ofA 3 = 2 from rfl] at HO
        go_enter Tryz.func131, Tryz.ntmps131
        go_wp2_with (first
          | (go_at_call 170; go_loud (refine (HP.out _ (Frm.alloc _ _ _)).mono ?_); rintro e w1 ⟨rfl, hw1⟩; obtain ⟨y0, y1, y2, y3⟩ := HBX.out w1 (hw1); have q0 := HQ.out w1 ((Frm.alloc NoS _ _).then1 hw1); have hbl := World.block_lt_of_cell? _ _ y0; have HW1 := Lib.hid hw1; clear hw1)
          | (go_at_call 171; go_loud (refine (HO.out _).mono ?_); rintro e w2 ⟨rfl, hw2⟩; clear y0 y1 y2 y3 q0 hbl; obtain ⟨y0, y1, y2, y3⟩ := HBX.out w2 (HW1.out.then1 hw2); have q0 := HQ.out w2 ((Frm.alloc NoS _ _).then1 (HW1.out.then1 hw2)); have hbl := World.block_lt_of_cell? _ _ y0; have HW2 := Lib.hid (HW1.out.then1 hw2); clear hw2)
          | (go_at_call 172; go_loud (refine (HK.out _).mono ?_); rintro e w3 ⟨rfl, hw3⟩; clear y0 y1 y2 y3 q0 hbl; obtain ⟨y0, y1, y2, y3⟩ := HBX.out w3 (HW2.out.then1 hw3); have q0 := HQ.out w3 ((Frm.alloc NoS _ _).then1 (HW2.out.then1 hw3)); have hbl := World.block_lt_of_cell? _ _ y0; have HW3 := Lib.hid (HW2.out.then1 hw3); clear hw3))
        all_goals
          go_ret
          refine ⟨_, rfl, ?_, (Frm.alloc NoS w _).then1 (by first | exact HW3.out | exact HW2.out)⟩
          rw [HB.out]
          simp [actB, txtB, cntB]; try simp_all; try omega
      · rw [show ofA 4 = 2 from rfl] at HO
        go_enter Tryz.func131, Tryz.ntmps131
        go_wp2_with (first
          | (go_at_call 170; go_loud (refine (HP.out _ (Frm.alloc _ _ _)).mono ?_); rintro e w1 ⟨rfl, hw1⟩; obtain ⟨y0, y1, y2, y3⟩ := HBX.out w1 (hw1); have q0 := HQ.out w1 ((Frm.alloc NoS _ _).then1 hw1); have hbl := World.block_lt_of_cell? _ _ y0; have HW1 := Lib.hid hw1; clear hw1)
          | (go_at_call 171; go_loud (refine (HO.out _).mono ?_); rintro e w2 ⟨rfl, hw2⟩; clear y0 y1 y2 y3 q0 hbl; obtain ⟨y0, y1, y2, y3⟩ := HBX.out w2 (HW1.out.then1 hw2); have q0 := HQ.out w2 ((Frm.alloc NoS _ _).then1 (HW1.out.then1 hw2)); have hbl := World.block_lt_of_cell? _ _ y0; have HW2 := Lib.hid (HW1.out.then1 hw2); clear hw2)
          | (go_at_call 172; go_loud (refine (HK.out _).mono ?_); rintro e w3 ⟨rfl, hw3⟩; clear y0 y1 y2 y3 q0 hbl; obtain ⟨y0, y1, y2, y3⟩ := HBX.out w3 (HW2.out.then1 hw3); have q0 := HQ.out w3 ((Frm.alloc NoS _ _).then1 (HW2.out.then1 hw3)); have hbl := World.block_lt_of_cell? _ _ y0; have HW3 := Lib.hid (HW2.out.then1 hw3); clear hw3))
        all_goals
          go_ret
          refine ⟨_, rfl, ?_, (Frm.alloc NoS w _).then1 (by first | exact HW3.out | exact HW2.out)⟩
          rw [HB.out]
          simp [actB, txtB, cntB]; try simp_all; try omega
      · rw [show ofA 5 = 3 from rfl] at HO
        go_enter Tryz.func131, Tryz.ntmps131
        go_wp2_with (first
          | (go_at_call 170; go_loud (refine (HP.out _ (Frm.alloc _ _ _)).mono ?_); rintro e w1 ⟨rfl, hw1⟩; obtain ⟨y0, y1, y2, y3⟩ := HBX.out w1 (hw1); have q0 := HQ.out w1 ((Frm.alloc NoS _ _).then1 hw1); have hbl := World.block_lt_of_cell? _ _ y0; have HW1 := Lib.hid hw1; clear hw1)
          | (go_at_call 171; go_loud (refine (HO.out _).mono ?_); rintro e w2 ⟨rfl, hw2⟩; clear y0 y1 y2 y3 q0 hbl; obtain ⟨y0, y1, y2, y3⟩ := HBX.out w2 (HW1.out.then1 hw2); have q0 := HQ.out w2 ((Frm.alloc NoS _ _).then1 (HW1.out.then1 hw2)); have hbl := World.block_lt_of_cell? _ _ y0; have HW2 := Lib.hid (HW1.out.then1 hw2); clear hw2)
          | (go_at_call 172; go_loud (refine (HK.out _).mono ?_); rintro e w3 ⟨rfl, hw3⟩; clear y0 y1 y2 y3 q0 hbl; obtain ⟨y0, y1, y2, y3⟩ := HBX.out w3 (HW2.out.then1 hw3); have q0 := HQ.out w3 ((Frm.alloc NoS _ _).then1 (HW2.out.then1 hw3)); have hbl := World.block_lt_of_cell? _ _ y0; have HW3 := Lib.hid (HW2.out.then1 hw3); clear hw3))
        all_goals
          go_ret
          refine ⟨_, rfl, ?_, (Frm.alloc NoS w _).then1 (by first | exact HW3.out | exact HW2.out)⟩
          rw [HB.out]
          simp [actB, txtB, cntB]; try simp_all; try omega
      · rw [show ofA 6 = 4 from rfl] at HO
        go_enter Tryz.func131, Tryz.ntmps131
        go_wp2_with (first
          | (go_at_call 170; go_loud (refine (HP.out _ (Frm.alloc _ _ _)).mono ?_); rintro e w1 ⟨rfl, hw1⟩; obtain ⟨y0, y1, y2, y3⟩ := HBX.out w1 (hw1); have q0 := HQ.out w1 ((Frm.alloc NoS _ _).then1 hw1); have hbl := World.block_lt_of_cell? _ _ y0; have HW1 := Lib.hid hw1; clear hw1)
          | (go_at_call 171; go_loud (refine (HO.out _).mono ?_); rintro e w2 ⟨rfl, hw2⟩; clear y0 y1 y2 y3 q0 hbl; obtain ⟨y0, y1, y2, y3⟩ := HBX.out w2 (HW1.out.then1 hw2); have q0 := HQ.out w2 ((Frm.alloc NoS _ _).then1 (HW1.out.then1 hw2)); have hbl := World.block_lt_of_cell? _ _ y0; have HW2 := Lib.hid (HW1.out.then1 hw2); clear hw2)
          | (go_at_call 172; go_loud (refine (HK.out _).mono ?_); rintro e w3 ⟨rfl, hw3⟩; clear y0 y1 y2 y3 q0 hbl; obtain ⟨y0, y1, y2, y3⟩ := HBX.out w3 (HW2.out.then1 hw3); have q0 := HQ.out w3 ((Frm.alloc NoS _ _).then1 (HW2.out.then1 hw3)); have hbl := World.block_lt_of_cell? _ _ y0; have HW3 := Lib.hid (HW2.out.then1 hw3); clear hw3))
        all_goals
          go_ret
          refine ⟨_, rfl, ?_, (Frm.alloc NoS w _).then1 (by first | exact HW3.out | exact HW2.out)⟩
          rw [HB.out]
          simp [actB, txtB, cntB]; try simp_all; try omega
      · rw [show ofA 7 = 0 from rfl] at HO
        go_enter Tryz.func131, Tryz.ntmps131
        go_wp2_with (first
          | (go_at_call 170; go_loud (refine (HP.out _ (Frm.alloc _ _ _)).mono ?_); rintro e w1 ⟨rfl, hw1⟩; obtain ⟨y0, y1, y2, y3⟩ := HBX.out w1 (hw1); have q0 := HQ.out w1 ((Frm.alloc NoS _ _).then1 hw1); have hbl := World.block_lt_of_cell? _ _ y0; have HW1 := Lib.hid hw1; clear hw1)
          | (go_at_call 171; go_loud (refine (HO.out _).mono ?_); rintro e w2 ⟨rfl, hw2⟩; clear y0 y1 y2 y3 q0 hbl; obtain ⟨y0, y1, y2, y3⟩ := HBX.out w2 (HW1.out.then1 hw2); have q0 := HQ.out w2 ((Frm.alloc NoS _ _).then1 (HW1.out.then1 hw2)); have hbl := World.block_lt_of_cell? _ _ y0; have HW2 := Lib.hid (HW1.out.then1 hw2); clear hw2)
          | (go_at_call 172; go_loud (refine (HK.out _).mono ?_); rintro e w3 ⟨rfl, hw3⟩; clear y0 y1 y2 y3 q0 hbl; obtain ⟨y0, y1, y2, y3⟩ := HBX.out w3 (HW2.out.then1 hw3); have q0 := HQ.out w3 ((Frm.alloc NoS _ _).then1 (HW2.out.then1 hw3)); have hbl := World.block_lt_of_cell? _ _ y0; have HW3 := Lib.hid (HW2.out.then1 hw3); clear hw3))
        all_goals
          go_ret
          refine ⟨_, rfl, ?_, (Frm.alloc NoS w _).then1 (by first | exact HW3.out | exact HW2.out)⟩
          rw [HB.out]
          simp [actB, txtB, cntB]; try simp_all; try omega
  · have hk : ofA a = -1 := by unfold ofA; rw [if_neg (by omega), if_neg (by omega), if_neg (by omega), if_neg (by omega), if_neg (by omega)]
    rw [hk] at HO
    have hact : actB a K = false := by unfold actB; rw [if_neg (by omega), if_neg (by omega), if_neg (by omega), if_neg (by omega)]; exact beq_false_of_ne (by omega)
    have HACT := Lib.hid hact; clear hact hs hk
    go_enter Tryz.func131, Tryz.ntmps131
    go_wp2_with (first
      | (go_at_call 170; go_loud (refine (HP.out _ (Frm.alloc _ _ _)).mono ?_); rintro e w1 ⟨rfl, hw1⟩; obtain ⟨y0, y1, y2, y3⟩ := HBX.out w1 (hw1); have q0 := HQ.out w1 ((Frm.alloc NoS _ _).then1 hw1); have hbl := World.block_lt_of_cell? _ _ y0; have HW1 := Lib.hid hw1; clear hw1)
      | (go_at_call 171; go_loud (refine (HO.out _).mono ?_); rintro e w2 ⟨rfl, hw2⟩; clear y0 y1 y2 y3 q0 hbl; obtain ⟨y0, y1, y2, y3⟩ := HBX.out w2 (HW1.out.then1 hw2); have q0 := HQ.out w2 ((Frm.alloc NoS _ _).then1 (HW1.out.then1 hw2)); have hbl := World.block_lt_of_cell? _ _ y0; have HW2 := Lib.hid (HW1.out.then1 hw2); clear hw2)
      | (go_at_call 172; go_loud (refine (HK.out _).mono ?_); rintro e w3 ⟨rfl, hw3⟩; clear y0 y1 y2 y3 q0 hbl; obtain ⟨y0, y1, y2, y3⟩ := HBX.out w3 (HW2.out.then1 hw3); have q0 := HQ.out w3 ((Frm.alloc NoS _ _).then1 (HW2.out.then1 hw3)); have hbl := World.block_lt_of_cell? _ _ y0; have HW3 := Lib.hid (HW2.out.then1 hw3); clear hw3))
    all_goals
      go_ret
      refine ⟨_, rfl, ?_, (Frm.alloc NoS w _).then1 (by first | exact HW3.out | exact HW2.out)⟩
      rw [HB.out]
      rw [HACT.out]; simp
set_option maxRecDepth 1000000 in
theorem opRight_any (ss : List ByteArray) (a n : Int) (s : ByteArray) (w : World) (v : Value) (h : StrsAt w v ss) (hl : ss.length ≤ 100000) :
    Calls Tryz.prog 84 #[.agg #[v, .int .i64 a, .string s, .int .i64 n]] w fun e w' => e = .returned (.bool (opB ss a s n)) ∧ Frm NoS w w' := by
  have HC := Lib.hid (fun W (f : Frm NoS w W) => opCheck_any ss a n s W v (h.keep0 f) hl)
  unfold OpPost at HC
  obtain ⟨a0, c0, rfl⟩ := h.sl
  clear h
  generalize opB ss a s n = b at *
  generalize ss.length = l at *
  go_enter Tryz.func84, Tryz.ntmps84
  go_wp2_with (go_at_call 131; go_loud (refine (HC.out _ (Frm.alloc _ _ _)).mono ?_); rintro e w1 ⟨x, rfl, hx, hw1⟩; have HX := Lib.hid hx; have HW1 := Lib.hid ((Frm.alloc NoS _ _).then1 hw1); clear hw1 hx)
  go_ret
  refine ⟨?_, HW1.out⟩
  have hx := HX.out
  cases b with
  | true => rw [hx.2 rfl]; rfl
  | false =>
    have hx0 : ¬ x = 0 := fun e => by have := hx.1 e; cases this
    simp [hx0]
end Go.Proofs.YtggfoihfenlckaaGreat
/- tributaryref15: Path, Op: the walks. Printed by wip/opgen4.py. -/
namespace Go.Proofs.YtggfoihfenlckaaGreat
open Go.RowKit
set_option maxHeartbeats 4000000 in
set_option maxRecDepth 1000000 in
theorem r15Path_any (ss : List ByteArray) (w : World) (v : Value) (h : StrsAt w v ss) (hl : ss.length ≤ 100000) :
    Calls Tryz.prog 72 #[v] w fun e w' => e = .returned (.int .i64 (pathE ss)) ∧ Frm NoS w w' := by
  by_cases h1 : ss.length < 1 ∨ 3 < ss.length
  · rw [pathE_len h1]
    obtain ⟨a, c, rfl⟩ := h.sl
    clear h
    generalize ss.length = n at *
    rcases h1 with h1 | h1
    · obtain rfl : n = 0 := by omega
      go_enter Tryz.func72, Tryz.ntmps72
      go_wp2
      go_ret
      exact ⟨rfl, Frm.refl _ _⟩
    · have h2 : ¬ (n : Int) ≤ 3 := by omega
      have h3 : ((n : Int) == 0) = false := beq_false_of_ne (by omega)
      go_enter Tryz.func72, Tryz.ntmps72
      go_wp2
      go_ret
      exact ⟨rfl, Frm.refl _ _⟩
  · rcases Rd.shape h with ⟨ad, rfl, h0⟩ | ⟨b, off, c, rfl, hmax⟩
    · omega
    have HK := Lib.hid r15Kind_any
    have hn1 : 1 ≤ ss.length := by omega
    have hn3 : ss.length ≤ 3 := by omega
    have hz : ((ss.length : Int) == 0) = false := beq_false_of_ne (by omega)
    have hw1 : IntKind.i64.wrap ((ss.length : Int) - 1) = ((ss.length - 1 : Nat) : Int) := by rw [IntKind.wrap_i64]; omega
    have hw2 : ((ss.length : Int) - 1) = ((ss.length - 1 : Nat) : Int) := by omega
    have H1 := Lib.hid h1; clear h1
    have HH := Lib.hid (show Rd w (.slice (some ⟨b, off, none⟩) ss.length c) ss.length (ss.map Value.string) from h); clear h
    generalize hm : ss.length - 1 = m at *
    have HM := Lib.hid hm
    generalize hn : ss.length = n at *
    have HN := Lib.hid hn; clear hn
    have hmn : m + 1 = n := by omega
    clear hm
    go_enter Tryz.func72, Tryz.ntmps72
    go_wp2
    go_loopw [15] (fun i W => ∃ k : Nat, k ≤ n ∧ i = .int .i64 k ∧ (ss.take k).any p1 = false ∧ Frm NoS w W) (fun i _ => n - (intOf i).toNat)
    case atStart => exact ⟨0, Nat.zero_le _, rfl, by simp, Frm.refl _ _⟩
    case round =>
      obtain ⟨k, hk, rfl, ha, hw⟩ := hrel
      have HAN := Lib.hid ha; clear ha
      have HW := Lib.hid hw; clear hw
      by_cases hlt : k < n
      · have hlk : k < ss.length := by rw [HN.out]; exact hlt
        have q0 := HW.out.cell' (str_at HH.out k hlk) id
        have HT := Lib.hid (any_take (p := p1) hlk)
        have HE := Lib.hid (any_here (p := p1) hlk)
        generalize ss.getD k ByteArray.empty = s at *
        by_cases hs : 30 < s.size
        · have h2 : ¬ (s.size : Int) ≤ 30 := by omega
          have HEX := Lib.hid (pathE_any (HE.out (by unfold p1; simp [hs])))
          clear HE HT hs
          go_wp2
          go_ret
          exact ⟨by rw [HEX.out]; rfl, HW.out⟩
        · have h2 : (s.size : Int) ≤ 30 := by omega
          have HKC := Lib.hid (fun W => HK.out s W)
          have hp : p1 s = (kindOf s == 0) := by unfold p1; rw [show decide (30 < s.size) = false from decide_eq_false hs]; rfl
          rw [hp] at HT HE
          clear hp hs
          generalize kindOf s = x at *
          cases hx : (x == 0) with
          | true =>
            have HEX := Lib.hid (pathE_any (HE.out hx))
            clear HE HT
            go_wp2_with (go_at_call 74; go_loud (refine (HKC.out _).mono ?_); rintro e w1 ⟨rfl, hw9⟩; have HW1 := Lib.hid (HW.out.then1 hw9); clear hw9)
            go_ret
            exact ⟨by rw [HEX.out]; rfl, HW1.out⟩
          | false =>
            have HTX := Lib.hid (show (ss.take (k + 1)).any p1 = false by rw [HT.out, HAN.out, hx]; rfl)
            clear HE HT
            go_wp2_with (go_at_call 74; go_loud (refine (HKC.out _).mono ?_); rintro e w1 ⟨rfl, hw9⟩; have HW1 := Lib.hid (HW.out.then1 hw9); clear hw9)
            go_roundw
            case rel => exact ⟨k + 1, by omega, by go_num, HTX.out, HW1.out⟩
            case measure => simp [intOf]; omega
      · obtain rfl : n = k := by omega
        have hall : ss.any p1 = false := by
          have := HAN.out
          rwa [List.take_of_length_le (by rw [HN.out]; exact Nat.le_refl _)] at this
        have HALL := Lib.hid hall; clear hall HAN
        go_wp2
        go_loopw [35] (fun i W => ∃ k : Nat, k ≤ n ∧ i = .int .i64 k ∧ (ss.take (min k m)).any p2 = false ∧ Frm NoS w W) (fun i _ => n - (intOf i).toNat)
        case atStart => exact ⟨0, Nat.zero_le _, rfl, by simp, HW.out⟩
        case round =>
          clear HW
          obtain ⟨k, hk, rfl, ha, hw⟩ := hrel
          have HAN := Lib.hid ha; clear ha
          have HW := Lib.hid hw; clear hw
          by_cases hlt : k < m
          · have hlk : k < ss.length := by rw [HN.out]; omega
            have q0 := HW.out.cell' (str_at HH.out k hlk) id
            have HT := Lib.hid (any_take (p := p2) hlk)
            have HE := Lib.hid (fun (h : p2 (ss.getD k ByteArray.empty) = true) => (show (ss.take (ss.length - 1)).any p2 = true from List.any_eq_true.2 ⟨_, by
              rw [show ss.length - 1 = m by rw [HN.out]; omega]
              have e1 : ss.getD k ByteArray.empty = (ss.take m).getD k ByteArray.empty := by simp [List.getD_eq_getElem?_getD, List.getElem?_take, hlt]
              rw [e1]
              exact getD_mem ByteArray.empty (by rw [List.length_take]; omega), h⟩))
            rw [Nat.min_eq_left (Nat.le_of_lt hlt)] at HAN
            generalize ss.getD k ByteArray.empty = s at *
            have HKC := Lib.hid (fun W => HK.out s W)
            have hp : p2 s = !(kindOf s == 5) := rfl
            rw [hp] at HT HE
            clear hp
            generalize kindOf s = x at *
            have hkn : k < n := by omega
            cases hx : (x == 5) with
            | false =>
              have hx2 : (x != 5) = true := by simp [bne, hx]
              have HEX := Lib.hid (pathE_six (by rw [HN.out]; exact H1.out) HALL.out (HE.out (by rw [hx]; rfl)))
              clear HE HT
              go_wp2_with (go_at_call 74; go_loud (refine (HKC.out _).mono ?_); rintro e w1 ⟨rfl, hw9⟩; have HW1 := Lib.hid (HW.out.then1 hw9); clear hw9)
              go_ret
              exact ⟨by rw [HEX.out]; rfl, HW1.out⟩
            | true =>
              have hx2 : (x != 5) = false := by simp [bne, hx]
              have HTX := Lib.hid (show (ss.take (min (k + 1) m)).any p2 = false by rw [Nat.min_eq_left hlt, HT.out, HAN.out, hx]; rfl)
              clear HE HT
              go_wp2_with (go_at_call 74; go_loud (refine (HKC.out _).mono ?_); rintro e w1 ⟨rfl, hw9⟩; have HW1 := Lib.hid (HW.out.then1 hw9); clear hw9)
              go_roundw
              case rel => exact ⟨k + 1, by omega, by go_num, HTX.out, HW1.out⟩
              case measure => simp [intOf]; omega
          · by_cases hkn : k < n
            · have HTX := Lib.hid (show (ss.take (min (k + 1) m)).any p2 = false by
                have h := HAN.out
                rw [show min k m = m by omega] at h
                rw [show min (k + 1) m = m by omega]; exact h)
              have hge : ¬ (k : Int) < m := by omega
              go_wp2
              go_roundw
              case rel => exact ⟨k + 1, by omega, by go_num, HTX.out, HW.out⟩
              case measure => simp [intOf]; omega
            · obtain rfl : n = k := by omega
              have HEX := Lib.hid (pathE_ok (by rw [HN.out]; exact H1.out) HALL.out (by rw [show ss.length - 1 = m by rw [HN.out]; omega]; have h := HAN.out; rw [show min n m = m by omega] at h; exact h))
              go_wp2
              go_ret
              exact ⟨by rw [HEX.out]; rfl, HW.out⟩
end Go.Proofs.YtggfoihfenlckaaGreat
/- tributaryref15: Op: the walk. Printed by wip/opgen5.py. -/
namespace Go.Proofs.YtggfoihfenlckaaGreat
open Go.RowKit
set_option maxHeartbeats 16000000 in
set_option maxRecDepth 1000000 in
theorem r15Op_any (ss : List ByteArray) (a n : Int) (s : ByteArray) (w : World) (v : Value) (h : StrsAt w v ss) (hl : ss.length ≤ 100000) (hsz : s.size ≤ 9223372036854775807) :
    Calls Tryz.prog 23 #[.agg #[v, .int .i64 a, .string s, .int .i64 n]] w (OpPost (opB ss a s n) w) := by
  have HP := Lib.hid (fun W (f : Frm NoS w W) => r15Path_any ss W v (h.keep0 f) hl)
  by_cases hp : pathE ss = 0
  rotate_left 1
  · have hb : opB ss a s n = false := by unfold opB; rw [show (pathE ss == 0) = false from beq_false_of_ne hp]; rfl
    rw [hb]
    clear hb
    obtain ⟨a0, c0, rfl⟩ := h.sl
    clear h
    have hx1 : (pathE ss != 0) = true := by simp [bne, hp]
    generalize pathE ss = x at *
    generalize ss.length = l at *
    have HX := Lib.hid hp; clear hp
    go_enter Tryz.func23, Tryz.ntmps23
    go_wp2_with (go_at_call 72; go_loud (refine (HP.out _ (Frm.alloc _ _ _)).mono ?_); rintro e w1 ⟨rfl, hw1⟩; have HW1 := Lib.hid ((Frm.alloc NoS _ _).then1 hw1); clear hw1)
    go_ret
    exact ⟨x, rfl, ⟨fun h => absurd h HX.out, fun h => by cases h⟩, HW1.out⟩
  obtain ⟨hl1, hl3⟩ := pathE_zero hp
  rw [hp] at HP
  rcases Rd.shape h with ⟨ad, rfl, h0⟩ | ⟨b, off, c, rfl, hmax⟩
  · omega
  have HQ := Lib.hid (fun W (f : Frm NoS w W) => (show W.cell? ⟨b, off + (ss.length - 1), none⟩ = some (.string (lastS ss)) from str_at (Rd.keep0 h f) (ss.length - 1) (by omega)))
  have HK := Lib.hid (fun W => r15Kind_any (lastS ss) W)
  have HKY := Lib.hid (fun W => r8Key_any s W hsz)
  have HB := Lib.hid (show opB ss a s n = (actB a (kindOf (lastS ss)) && (txtB a s && cntB a n)) by unfold opB; rw [hp]; rfl)
  generalize opB ss a s n = bb at *
  generalize kindOf (lastS ss) = K at *
  generalize lastS ss = ls at *
  have HACT := Lib.hid (fun W => r15act_any a K W)
  generalize actB a K = q at *
  have hwr : IntKind.i64.wrap ((ss.length : Int) - 1) = ((ss.length - 1 : Nat) : Int) := by rw [IntKind.wrap_i64]; omega
  have hsb : ((ss.length : Int) - 1) = ((ss.length - 1 : Nat) : Int) := by omega
  have hml : ss.length - 1 < ss.length := by omega
  have hbw : b < w.heap.size := World.block_lt_of_cell? _ _ (HQ.out w (Frm.refl _ _))
  clear h hp
  have HBX := Lib.hid (fun W f => box4 w (.slice (some ⟨b, off, none⟩) ss.length c) (.int .i64 a) (.string s) (.int .i64 n) 40 W f)
  generalize ss.length - 1 = m at *
  generalize ss.length = l at *
  go_enter Tryz.func23, Tryz.ntmps23
  go_wp2_with (go_at_call 72; go_loud (refine (HP.out _ (Frm.alloc _ _ _)).mono ?_); rintro e w1 ⟨rfl, hw1⟩; obtain ⟨y0, y1, y2, y3⟩ := HBX.out w1 hw1; have q0 := HQ.out w1 ((Frm.alloc NoS _ _).then1 hw1); have hbl := World.block_lt_of_cell? _ _ y0; have HW1 := Lib.hid hw1; clear hw1)
  clear y0 y1 y2 y3 q0 hbl
  obtain ⟨α, hne, KK, hK1, hK0, hK2⟩ := worlds w1
  have kb := fun s => HBX.out (KK s) (HW1.out.then1 (hK1 s))
  have k0 := fun s => (kb s).1
  have k1 := fun s => (kb s).2.1
  have k2 := fun s => (kb s).2.2.1
  have k3 := fun s => (kb s).2.2.2
  have kq := fun s => HQ.out (KK s) ((Frm.alloc NoS _ _).then1 (HW1.out.then1 (hK1 s)))
  clear kb
  refine wp_region_new KK (by kernel_rfl) (by kernel_rfl) hK0 ?_
  repeat (go_big_quiet_step ((first | (go_at_call 74; exact Calls.in_class hK2 (HK.out _)) | (go_at_call 73; exact Calls.in_class hK2 (HACT.out _)))))
  refine wpQuiet_nil ?_
  intro w' hw'
  obtain ⟨s1, rfl⟩ := hw'
  have HW2 := Lib.hid (HW1.out.then1 (hK1 s1))
  clear k0 k1 k2 k3 kq hK0 hK2 hK1
  generalize KK s1 = w2 at *
  obtain ⟨y0, y1, y2, y3⟩ := HBX.out w2 HW2.out; have hbl := World.block_lt_of_cell? _ _ y0
  have hs : (s = ByteArray.empty) ∨ (0 < s.size ∧ s.toList.isEmpty = false ∧ ¬ s = ByteArray.empty) := by
    by_cases h : 0 < s.size
    · exact .inr ⟨h, str_full h, fun e => by rw [e] at h; exact absurd h (by decide)⟩
    · exact .inl (str_nil h)
  cases q with
  | false =>
    clear hs
    go_wp2
    go_ret
    refine ⟨_, rfl, ?_, (Frm.alloc NoS w _).then1 HW2.out⟩
    rw [HB.out]
    simp
  | true =>
    by_cases h3 : a = 3 ∨ a = 4
    · have hk : keyB s = decide (1 ≤ s.size ∧ s.size ≤ 30) := rfl
      rw [hk] at HKY
      by_cases hy : 1 ≤ s.size ∧ s.size ≤ 30
      · rw [decide_eq_true hy] at HKY
        clear hs hk
        rcases h3 with rfl | rfl
        · go_wp2_with (go_at_call 75; go_loud (refine (HKY.out _).mono ?_); rintro e w3 ⟨rfl, rfl⟩)
          all_goals
            go_ret
            refine ⟨_, rfl, ?_, (Frm.alloc NoS w _).then1 HW2.out⟩
            rw [HB.out, show txtB 3 s = true by unfold txtB; simp [hy], show cntB 3 n = (n == 0) from rfl]
            simp_all
        · go_wp2_with (go_at_call 75; go_loud (refine (HKY.out _).mono ?_); rintro e w3 ⟨rfl, rfl⟩)
          all_goals
            go_ret
            refine ⟨_, rfl, ?_, (Frm.alloc NoS w _).then1 HW2.out⟩
            rw [HB.out, show txtB 4 s = true by unfold txtB; simp [hy], show cntB 4 n = (n == 0) from rfl]
            simp_all
      · rw [decide_eq_false hy] at HKY
        clear hs hk
        rcases h3 with rfl | rfl
        · go_wp2_with (go_at_call 75; go_loud (refine (HKY.out _).mono ?_); rintro e w3 ⟨rfl, rfl⟩)
          go_ret
          refine ⟨_, rfl, ?_, (Frm.alloc NoS w _).then1 HW2.out⟩
          rw [HB.out, show txtB 3 s = false by unfold txtB; simp only [true_or, or_true, if_true]; exact decide_eq_false hy]
          simp
        · go_wp2_with (go_at_call 75; go_loud (refine (HKY.out _).mono ?_); rintro e w3 ⟨rfl, rfl⟩)
          go_ret
          refine ⟨_, rfl, ?_, (Frm.alloc NoS w _).then1 HW2.out⟩
          rw [HB.out, show txtB 4 s = false by unfold txtB; simp only [true_or, or_true, if_true]; exact decide_eq_false hy]
          simp
    · have a3 : (a == 3) = false := beq_false_of_ne (by omega)
      have a4 : (a == 4) = false := beq_false_of_ne (by omega)
      by_cases h6 : a = 6
      · subst h6
        by_cases hy : s.size ≤ 30
        · have hy2 : (s.size : Int) ≤ 30 := by omega
          clear hs
          go_wp2
          all_goals
            go_ret
            refine ⟨_, rfl, ?_, (Frm.alloc NoS w _).then1 HW2.out⟩
            rw [HB.out, show txtB 6 s = true by unfold txtB; simp [hy], show cntB 6 n = (n == 0) from rfl]
            simp_all
        · have hy2 : ¬ (s.size : Int) ≤ 30 := by omega
          clear hs
          go_wp2
          go_ret
          refine ⟨_, rfl, ?_, (Frm.alloc NoS w _).then1 HW2.out⟩
          rw [HB.out, show txtB 6 s = false by unfold txtB; simp; omega]
          simp
      · have a6 : (a == 6) = false := beq_false_of_ne h6
        have ht : txtB a s = decide (s.size = 0) := by unfold txtB; rw [if_neg h3, if_neg h6]
        rw [ht] at HB
        clear ht
        rcases hs with rfl | ⟨hs, hem, hne⟩
        · by_cases h5 : a = 5
          · subst h5
            have HN := Lib.hid (show cntB 5 n = decide (-1099511627776 ≤ n ∧ n ≤ 1099511627776) from rfl)
            go_wp2
            all_goals
              go_ret
              refine ⟨_, rfl, ?_, (Frm.alloc NoS w _).then1 HW2.out⟩
              rw [HB.out, HN.out]
              simp
              try omega
          · have a5 : (a == 5) = false := beq_false_of_ne h5
            have a5' : (a != 5) = true := by simp [bne, h5]
            have HN := Lib.hid (show cntB a n = (n == 0) by unfold cntB; rw [if_neg h5])
            go_wp2
            all_goals
              go_ret
              refine ⟨_, rfl, ?_, (Frm.alloc NoS w _).then1 HW2.out⟩
              rw [HB.out, HN.out]
              simp_all
        · go_wp2
          go_ret
          refine ⟨_, rfl, ?_, (Frm.alloc NoS w _).then1 HW2.out⟩
          rw [HB.out, show decide (s.size = 0) = false from decide_eq_false (by omega)]
          simp
end Go.Proofs.YtggfoihfenlckaaGreat
/- tributaryref15: Short; tributaryref16: SameOp of what is alike: the walks. -/
namespace Go.Proofs.YtggfoihfenlckaaGreat
open Go.RowKit
def longS (x : ByteArray) : Bool := decide (99 < x.size)
def shortB (ss : List ByteArray) (s : ByteArray) : Bool := decide (ss.length ≤ 9) && (decide (s.size ≤ 99) && !(ss.any longS))
set_option maxHeartbeats 4000000 in
set_option maxRecDepth 1000000 in
theorem r15Short_any (ss : List ByteArray) (a n : Int) (s : ByteArray) (w : World) (v : Value) (h : StrsAt w v ss) :
    Calls Tryz.prog 50 #[.agg #[v, .int .i64 a, .string s, .int .i64 n]] w fun e w' => e = .returned (.bool (shortB ss s)) ∧ Frm NoS w w' := by
  have HBX := Lib.hid (fun W f => box4 w v (.int .i64 a) (.string s) (.int .i64 n) 40 W f)
  by_cases h9 : ss.length ≤ 9
  rotate_left 1
  · have hb : shortB ss s = false := by unfold shortB; rw [decide_eq_false h9]; rfl
    rw [hb]
    clear hb
    obtain ⟨a0, c0, rfl⟩ := h.sl
    clear h
    have h2 : ¬ (ss.length : Int) ≤ 9 := by omega
    generalize ss.length = l at *
    go_enter Tryz.func50, Tryz.ntmps50
    go_wp2
    go_ret
    exact ⟨rfl, Frm.alloc _ _ _⟩
  by_cases h99 : s.size ≤ 99
  rotate_left 1
  · have hb : shortB ss s = false := by unfold shortB; rw [decide_eq_false h99]; simp
    rw [hb]
    clear hb
    obtain ⟨a0, c0, rfl⟩ := h.sl
    clear h
    have h1 : (ss.length : Int) ≤ 9 := by omega
    have h2 : ¬ (s.size : Int) ≤ 99 := by omega
    generalize ss.length = l at *
    go_enter Tryz.func50, Tryz.ntmps50
    go_wp2
    go_ret
    exact ⟨rfl, Frm.alloc _ _ _⟩
  have hsb : shortB ss s = !(ss.any longS) := by unfold shortB; rw [decide_eq_true h9, decide_eq_true h99]; rfl
  rw [hsb]
  clear hsb
  obtain ⟨a0, c0, rfl⟩ := h.sl
  have HS := Lib.hid (show Rd w (.slice a0 ss.length c0) ss.length (ss.map Value.string) from h); clear h
  have h1 : (ss.length : Int) ≤ 9 := by omega
  have h2 : (s.size : Int) ≤ 99 := by omega
  generalize hm : ss.length = m at *
  have HM := Lib.hid hm; clear hm
  have HFA := Lib.hid (Frm.alloc NoS w (.cells #[.slice a0 m c0, .int .i64 a, .string s, .int .i64 n] 40))
  go_enter Tryz.func50, Tryz.ntmps50
  go_wp2
  go_loopw [17] (fun i W => ∃ k : Nat, k ≤ m ∧ i = .int .i64 k ∧ (ss.take k).any longS = false ∧ Frm NoS (w.alloc (.cells #[.slice a0 m c0, .int .i64 a, .string s, .int .i64 n] 40)) W) (fun i _ => m - (intOf i).toNat)
  case atStart => exact ⟨0, Nat.zero_le _, rfl, by simp, Frm.refl _ _⟩
  case round =>
    obtain ⟨k, hk, rfl, ha, hw⟩ := hrel
    have HAN := Lib.hid ha; clear ha
    obtain ⟨y0, -, -, -⟩ := HBX.out wr hw
    have HW := Lib.hid hw; clear hw
    by_cases hlt : k < m
    · have hlk : k < ss.length := by rw [HM.out]; exact hlt
      rcases Rd.shape HS.out with ⟨ad, he, h0⟩ | ⟨b, off, cc, he, hmax⟩
      · exfalso; omega
      injection he with e1 e2 e3
      subst e1 e3
      clear e2
      have q0 := (HFA.out.then1 HW.out).cell' (str_at HS.out k hlk) id
      have HT := Lib.hid (any_take (p := longS) hlk)
      have HE := Lib.hid (any_here (p := longS) hlk)
      generalize ss.getD k ByteArray.empty = x at *
      by_cases hx : 99 < x.size
      · have hx2 : ¬ (x.size : Int) ≤ 99 := by omega
        have HEX := Lib.hid (HE.out (decide_eq_true hx))
        clear HE HT hx
        go_wp2
        go_ret
        exact ⟨by rw [HEX.out]; rfl, HFA.out.then1 HW.out⟩
      · have hx2 : (x.size : Int) ≤ 99 := by omega
        have HTX := Lib.hid (show (ss.take (k + 1)).any longS = false by rw [HT.out, HAN.out, show longS x = false from decide_eq_false hx]; rfl)
        clear HE HT hx
        go_wp2
        go_roundw
        case rel => exact ⟨k + 1, by omega, by go_num, HTX.out, HW.out⟩
        case measure => simp [intOf]; omega
    · obtain rfl : m = k := by omega
      have hall : ss.any longS = false := by
        have := HAN.out
        rwa [List.take_of_length_le (by rw [HM.out]; exact Nat.le_refl _)] at this
      have HALL := Lib.hid hall; clear hall HAN
      go_wp2
      go_ret
      exact ⟨by rw [HALL.out]; rfl, HFA.out.then1 HW.out⟩
end Go.Proofs.YtggfoihfenlckaaGreat
/- Things: how they lie, and what came in. -/
namespace Go.Proofs.YtggfoihfenlckaaGreat
open Go.RowKit Go.WideShapes Go.ChangeShapes
/-- How a thing lies, and what it reads as. -/
structure Th where
  kind : Int
  cv : Value
  ev : Value
  kv : Value
  xv : Value
  pv : Value
  a : Int
  s : ByteArray
  n : Int
  v0 : Int
  v1 : Int
  v2 : Int
  v3 : Int
  c : CtxL
  es : List Ent
  ks : KidsL
  xc : CtxL
  ss : List ByteArray
def Th.cells (o : Th) : List Value := [.int .u8 o.kind, o.cv, o.ev, o.kv, o.xv, o.pv, .int .i64 o.a, .string o.s, .int .i64 o.n, .int .i64 o.v0, .int .i64 o.v1, .int .i64 o.v2, .int .i64 o.v3]
def Th.zero : Th := ⟨0, .slice none 0 0, .slice none 0 0, .slice none 0 0, .slice none 0 0, .slice none 0 0, 0, ByteArray.empty, 0, 0, 0, 0, 0, [], [], .nil, [], []⟩
structure ThAt (w : World) (o : Th) : Prop where
  ctx : CtxAt w o.cv o.c
  cau : CauAt (fun _ => True) w o.ev o.kv o.xv o.es o.ks o.xc
  pth : StrsAt w o.pv o.ss
structure ThFit (o : Th) : Prop where
  cf : FitsC o.c
  cl : o.c.length ≤ 140737488351232
  tr : TrOk o.es o.ks
  xf : FitsC o.xc
  xl : o.xc.length ≤ 140737488351232
  sl : o.s.size ≤ 9223372036854775807
theorem ThAt.keep0 {w w' : World} {o : Th} (h : ThAt w o) (f : Frm NoS w w') : ThAt w' o := ⟨Rd.keep0 h.ctx f, h.cau.keep0 f, h.pth.keep0 f⟩
def thC (l : List Th) : List Value := l.flatMap Th.cells
/-- A row of things that came in. -/
structure ThsAt (w : World) (v : Value) (l : List Th) : Prop where
  rd : Rd w v l.length (thC l)
  each : ∀ o ∈ l, ThAt w o ∧ ThFit o
  len : l.length ≤ 140737488351232
theorem ThsAt.keep0 {w w' : World} {v : Value} {l : List Th} (h : ThsAt w v l) (f : Frm NoS w w') : ThsAt w' v l := ⟨h.rd.keep0 f, fun o ho => ⟨(h.each o ho).1.keep0 f, (h.each o ho).2⟩, h.len⟩
theorem Tryz.cells_thing : Tryz.prog.cellsOf 44 = 13 := by kernel_rfl
theorem Tryz.bytes_thing : Tryz.prog.bytesOf 44 = 192 := by kernel_rfl
theorem Tryz.bytes_str : Tryz.prog.bytesOf 9 = 16 := by kernel_rfl
instance : Inhabited Th := ⟨Th.zero⟩
theorem thC_get (l : List Th) (j : Nat) (u : Value) (h : (thC l)[j]? = some u) : j / 13 < l.length ∧ (l.getD (j / 13) Th.zero).cells[j % 13]? = some u := flatMap_get Th.cells 13 (by decide) (fun _ => rfl) Th.zero l j u h
theorem flatMap_at {α : Type} (f : α → List Value) (m : Nat) (hf : ∀ x, (f x).length = m) (d : α) : ∀ (l : List α) (k j : Nat) (u : Value), k < l.length → (f (l.getD k d))[j]? = some u → (l.flatMap f)[k * m + j]? = some u
  | [], _, _, _, h, _ => by cases h
  | x :: l, 0, j, u, _, hu => by
    have hu : (f x)[j]? = some u := hu
    have hj : j < (f x).length := (List.getElem?_eq_some_iff.1 hu).1
    rw [List.flatMap_cons, Nat.zero_mul, Nat.zero_add, List.getElem?_append_left hj]
    exact hu
  | x :: l, k + 1, j, u, h, hu => by
    have e : (k + 1) * m + j = m + (k * m + j) := by rw [Nat.succ_mul]; omega
    rw [List.flatMap_cons, e, List.getElem?_append_right (by rw [hf]; omega), hf, Nat.add_sub_cancel_left]
    exact flatMap_at f m hf d l k j u (by simpa using h) hu
theorem th_at {w : World} {b off c n : Nat} {l : List Th} (h : Rd w (.slice (some ⟨b, off, none⟩) n c) n (thC l)) (k : Nat) (hk : k < l.length) (j : Nat) {u : Value} (hu : (l.getD k Th.zero).cells[j]? = some u) : w.cell? ⟨b, off + k * 13 + j, none⟩ = some u := by
  have := h.cell (k * 13 + j) u (flatMap_at Th.cells 13 (fun _ => rfl) Th.zero l k j u hk hu)
  rwa [← Nat.add_assoc] at this
section
variable {H : Type} {enc : TypeId × Value → H} {w : World}
set_option maxRecDepth 100000 in
theorem open_strs {fuel : Nat} {c : Value} {x : DataW H × List MemPlace} (h : DataW.trod enc Tryz.prog w 0 (fun _ => true) true fuel 38 [c] = some x) (hw : ∀ n ∈ x.1.weights Tryz.prog 38, n ≤ reachBytes) :
    ∃ l : List ByteArray, StrsAt w c l := by
  obtain ⟨a0, len, cap, rfl⟩ := slice_of_trod Tryz.underlying38 h
  rcases open_arr2 Tryz.underlying38 Tryz.cells_S (by decide) Tryz.bytes_str h hw with ⟨rfl, rfl⟩ | ⟨b, off, n, rfl, h1, h2, _, h3, hel⟩
  · exact ⟨[], .inl ⟨a0, rfl, rfl, rfl⟩⟩
  · have hx : ∀ k, k < len → ∃ s : ByteArray, w.cell? ⟨b, off + k * 1 + 0, none⟩ = some (.string s) := fun k hk => by
      obtain ⟨cs, hl, hc, y, hy, _⟩ := hel k hk
      obtain ⟨c0, rfl⟩ : ∃ c0, cs = [c0] := by
        match cs, hl with
        | [c0], _ => exact ⟨c0, rfl⟩
      obtain ⟨s, e0, _, _⟩ := DataW.trod_string Tryz.underlying9 hy
      simp at e0
      subst e0
      exact ⟨s, hc 0 _ rfl⟩
    obtain ⟨l, hl, hlp⟩ := list_of_lt hx
    refine ⟨l, .inr ⟨b, off, cap, by rw [hl], by omega, h2, fun j u hu => ?_⟩⟩
    have hj : j < l.length := by
      have := (List.getElem?_eq_some_iff.1 hu).1
      simpa using this
    have := hlp j (by omega) ByteArray.empty
    rw [Nat.mul_one, Nat.add_zero] at this
    rw [this]
    rw [List.getElem?_map, List.getElem?_eq_getElem hj] at hu
    simp only [Option.map_some, Option.some.injEq] at hu
    rw [getD_at ByteArray.empty hj, hu]
set_option maxRecDepth 100000 in
theorem open_op {fuel : Nat} {c0 c1 c2 c3 : Value} {x : DataW H × List MemPlace} (h : DataW.trod enc Tryz.prog w 0 (fun _ => true) true fuel 40 [c0, c1, c2, c3] = some x) (hw : ∀ n ∈ x.1.weights Tryz.prog 40, n ≤ reachBytes) :
    ∃ (a n : Int) (s : ByteArray) (ss : List ByteArray), c1 = .int .i64 a ∧ c2 = .string s ∧ c3 = .int .i64 n ∧ StrsAt w c0 ss ∧ s.size ≤ 9223372036854775807 := by
  obtain ⟨xs, m, hn, rfl, _, hxl, hg⟩ := DataW.trod_struct Tryz.underlying40 h
  obtain ⟨y0, y1, y2, y3, rfl⟩ : ∃ y0 y1 y2 y3, xs = [y0, y1, y2, y3] := by
    match xs, hxl with
    | [y0, y1, y2, y3], _ => exact ⟨y0, y1, y2, y3, rfl⟩
  have g0 : DataW.trod enc Tryz.prog w 0 (fun _ => true) true m 38 [c0] = some y0 := hg 0 _ rfl
  have g1 : DataW.trod enc Tryz.prog w 0 (fun _ => true) true m 3 [c1] = some y1 := hg 1 _ rfl
  have g2 : DataW.trod enc Tryz.prog w 0 (fun _ => true) true m 9 [c2] = some y2 := hg 2 _ rfl
  have g3 : DataW.trod enc Tryz.prog w 0 (fun _ => true) true m 2 [c3] = some y3 := hg 3 _ rfl
  have hw2 : ∀ m ∈ y0.1.weights Tryz.prog 38 ++ (y1.1.weights Tryz.prog 3 ++ (y2.1.weights Tryz.prog 9 ++ (y3.1.weights Tryz.prog 2 ++ []))), m ≤ reachBytes := fun m hm => hw m (by
    simp only [List.map_cons, List.map_nil, DataW.weights, Tryz.underlying40]
    exact hm)
  obtain ⟨ss, h0⟩ := open_strs g0 fun m hm => hw2 m (List.mem_append_left _ hm)
  obtain ⟨a, e1, _, _⟩ := DataW.trod_int Tryz.underlying3 g1
  obtain ⟨s, e2, _, hs⟩ := DataW.trod_string Tryz.underlying9 g2
  obtain ⟨n, e3, _, _⟩ := DataW.trod_int Tryz.underlying2 g3
  simp at e1 e2 e3
  exact ⟨a, n, s, ss, e1, e2, e3, h0, by simp only [maxLen] at hs; omega⟩
set_option maxRecDepth 100000 in
theorem open_thing {fuel : Nat} {cs : List Value} {x : DataW H × List MemPlace} (hl : cs.length = 13) (h : DataW.trod enc Tryz.prog w 0 (fun _ => true) true fuel 44 cs = some x) (hw : ∀ n ∈ x.1.weights Tryz.prog 44, n ≤ reachBytes) :
    ∃ o : Th, cs = o.cells ∧ ThAt w o ∧ ThFit o := by
  match cs, hl with
  | [c0, c1, c2, c3, c4, c5, c6, c7, c8, c9, c10, c11, c12], _ =>
  obtain ⟨xs, m, hn, rfl, _, hxl, hg⟩ := DataW.trod_struct Tryz.underlying44 h
  obtain ⟨y0, y1, y2, y3, y4, rfl⟩ : ∃ y0 y1 y2 y3 y4, xs = [y0, y1, y2, y3, y4] := by
    match xs, hxl with
    | [y0, y1, y2, y3, y4], _ => exact ⟨y0, y1, y2, y3, y4, rfl⟩
  have g0 : DataW.trod enc Tryz.prog w 0 (fun _ => true) true m 5 [c0] = some y0 := hg 0 _ rfl
  have g1 : DataW.trod enc Tryz.prog w 0 (fun _ => true) true m 31 [c1] = some y1 := hg 1 _ rfl
  have g2 : DataW.trod enc Tryz.prog w 0 (fun _ => true) true m 37 [c2, c3, c4] = some y2 := hg 2 _ rfl
  have g3 : DataW.trod enc Tryz.prog w 0 (fun _ => true) true m 40 [c5, c6, c7, c8] = some y3 := hg 3 _ rfl
  have g4 : DataW.trod enc Tryz.prog w 0 (fun _ => true) true m 42 [c9, c10, c11, c12] = some y4 := hg 4 _ rfl
  have hw2 : ∀ m ∈ y0.1.weights Tryz.prog 5 ++ (y1.1.weights Tryz.prog 31 ++ (y2.1.weights Tryz.prog 37 ++ (y3.1.weights Tryz.prog 40 ++ (y4.1.weights Tryz.prog 42 ++ [])))), m ≤ reachBytes := fun m hm => hw m (by
    simp only [List.map_cons, List.map_nil, DataW.weights, Tryz.underlying44]
    exact hm)
  obtain ⟨kd, e0, _, _⟩ := DataW.trod_int Tryz.underlying5 g0
  obtain ⟨c, h1, f1, l1⟩ := open_ctx g1 fun m hm => hw2 m (List.mem_append_right _ (List.mem_append_left _ hm))
  obtain ⟨es, ks, xc, h2, t2, f2, l2⟩ := open_causal g2 fun m hm => hw2 m (List.mem_append_right _ (List.mem_append_right _ (List.mem_append_left _ hm)))
  obtain ⟨a, n, s, ss, e6, e7, e8, h3, l3⟩ := open_op g3 fun m hm => hw2 m (List.mem_append_right _ (List.mem_append_right _ (List.mem_append_right _ (List.mem_append_left _ hm))))
  obtain ⟨v0, v1, v2, v3, e9, e10, e11, e12, _⟩ := open_vec_cells g4
  simp at e0
  subst e0 e6 e7 e8 e9 e10 e11 e12
  exact ⟨⟨kd, c1, c2, c3, c4, c5, a, s, n, v0, v1, v2, v3, c, es, ks, xc, ss⟩, rfl, ⟨h1, h2, h3⟩, ⟨f1, l1, t2, f2, l2, l3⟩⟩
set_option maxRecDepth 100000 in
theorem open_things {base : Nat} {v : Value} {d : DataW H} {ps : List MemPlace} (hv : Value.okWide Tryz.prog w .any base 22 v) (h : DataW.Trod enc Tryz.prog w 0 (fun _ => true) true 22 v d ps)
    (hw : ∀ n ∈ d.weights Tryz.prog 22, n ≤ reachBytes) : ∃ l, ThsAt w v l := by
  obtain ⟨fuel, hf⟩ := h
  obtain ⟨a0, len, cap, rfl⟩ := okWide_slice Tryz.underlying22 hv
  have hf : DataW.trod enc Tryz.prog w 0 (fun _ => true) true fuel 22 [.slice a0 len cap] = some (d, ps) := hf
  rcases open_arr2 Tryz.underlying22 Tryz.cells_thing (by decide) Tryz.bytes_thing hf hw with ⟨rfl, rfl⟩ | ⟨b, off, n, rfl, h1, h2, _, h3, hel⟩
  · exact ⟨[], .inl ⟨a0, rfl, rfl, rfl⟩, fun o ho => (by cases ho), Nat.zero_le _⟩
  · have hx : ∀ k, k < len → ∃ o : Th, (∀ j u, o.cells[j]? = some u → w.cell? ⟨b, off + k * 13 + j, none⟩ = some u) ∧ ThAt w o ∧ ThFit o := fun k hk => by
      obtain ⟨cs, hl, hc, y, hy, hyw⟩ := hel k hk
      obtain ⟨o, rfl, h1, h2⟩ := open_thing hl hy hyw
      exact ⟨o, hc, h1, h2⟩
    obtain ⟨l, hl, hlp⟩ := list_of_lt hx
    refine ⟨l, .inr ⟨b, off, cap, by rw [hl], by omega, h2, fun j u hu => ?_⟩, fun o ho => ?_, by unfold reachBytes at h3; omega⟩
    · obtain ⟨g1, g2⟩ := thC_get l j u hu
      have := (hlp (j / 13) (by omega) Th.zero).1 (j % 13) u g2
      rwa [split_at] at this
    · obtain ⟨k, hk, rfl⟩ := List.getElem_of_mem ho
      have := (hlp k (by omega) Th.zero).2
      rwa [getD_at Th.zero hk] at this
end
end Go.Proofs.YtggfoihfenlckaaGreat