/- Words for the law PackGets: PackVec, PackOp, Op4, Op5. -/
import Derived.Test.YtggfoihfenlckaaGreatPackGetsG1
import Derived.Test.YtggfoihfenlckaaGreatPackGetsG2
import Derived.Test.YtggfoihfenlckaaGreatPackGetsG9
import Derived.Test.YtggfoihfenlckaaGreatPackGetsG16
import Derived.Test.YtggfoihfenlckaaGreatPackGetsG20
set_option linter.unusedSimpArgs false
set_option linter.unusedVariables false
/- pack: GetVector: the walk. Printed by wip/vecgen.py. -/
namespace Go.Proofs.YtggfoihfenlckaaGreat
open Go.RowKit
theorem four_set (w : World) (b : Nat) (u0 u1 u2 u3 : Value) : Frm (Only b) w ((((w.setCell ⟨b, 0, none⟩ u0).setCell ⟨b, 1, none⟩ u1).setCell ⟨b, 2, none⟩ u2).setCell ⟨b, 3, none⟩ u3) := ((two_set w b u0 u1).trans (only_set _ b 2 u2) fun _ _ h => h).trans (only_set _ b 3 u3) fun _ _ h => h
theorem four_cells {w : World} {b : Nat} {a0 a1 a2 a3 : Value} {T : TypeId} (h : w.heap[b]? = some (.cells #[a0, a1, a2, a3] T (0, 0))) (u0 u1 u2 u3 : Value) (W : World) (hW : W = (((w.setCell ⟨b, 0, none⟩ u0).setCell ⟨b, 1, none⟩ u1).setCell ⟨b, 2, none⟩ u2).setCell ⟨b, 3, none⟩ u3) :
    W.cell? ⟨b, 0, none⟩ = some u0 ∧ W.cell? ⟨b, 1, none⟩ = some u1 ∧ W.cell? ⟨b, 2, none⟩ = some u2 ∧ W.cell? ⟨b, 3, none⟩ = some u3 := by
  subst hW
  have g := set_at' (set_at' (set_at' (set_at' h 0 u0) 1 u1) 2 u2) 3 u3
  exact ⟨cell_at' g 0 rfl, cell_at' g 1 rfl, cell_at' g 2 rfl, cell_at' g 3 rfl⟩
/-- The In, the array that is filled, the result's block. -/
structure GV (w W : World) (ib : Nat) (t : Option (List UInt8)) (cs : Array Value) : Prop where
  ins : InSt W ib t
  arr : W.heap[w.heap.size + 1]? = some (.cells cs 42 (0, 0))
  res : W.heap[w.heap.size]? = some (.cells #[.int .i64 0, .int .i64 0, .int .i64 0, .int .i64 0] 42 (0, 0))
  frm : Frm (Only ib) w W
  hib : ib < w.heap.size
theorem GV.call {w W W1 : World} {ib : Nat} {t t' : Option (List UInt8)} {cs : Array Value} (h : GV w W ib t cs) (hi : InSt W1 ib t') (f : Frm (Only ib) W W1) : GV w W1 ib t' cs :=
  ⟨hi, f.blk h.arr fun e => (by have e : w.heap.size + 1 = ib := e; have := h.hib; omega), f.blk h.res fun e => (by have e : w.heap.size = ib := e; have := h.hib; omega), h.frm.trans f fun _ _ s => s, h.hib⟩
theorem GV.set {w W : World} {ib : Nat} {t : Option (List UInt8)} {cs : Array Value} (h : GV w W ib t cs) (j : Nat) (u : Value) : GV w (W.setCell ⟨w.heap.size + 1, j, none⟩ u) ib t (cs.setIfInBounds j u) :=
  have f := only_set W (w.heap.size + 1) j u
  ⟨h.ins.keep f fun k hk e => (by have e : k = w.heap.size + 1 := e; have := h.hib; omega), set_at' h.arr j u, f.blk h.res fun e => (by have e : w.heap.size = w.heap.size + 1 := e; omega), h.frm.trans f fun i hi e => (by have e : i = w.heap.size + 1 := e; omega), h.hib⟩
def VecTk (v0 v1 v2 v3 : Int) (s : Option (List UInt8)) (ib : Nat) (w : World) (e : Ending) (w' : World) : Prop :=
  e = .returned (.agg #[.int .i64 v0, .int .i64 v1, .int .i64 v2, .int .i64 v3]) ∧ InSt w' ib s ∧ Frm (Only ib) w w'
theorem GV.out {w W : World} {ib : Nat} {s : Option (List UInt8)} {cs : Array Value} (h : GV w W ib s cs) (v0 v1 v2 v3 : Int) (W' : World) (f : Frm (Only w.heap.size) W W') : VecTk v0 v1 v2 v3 s ib w (.returned (.agg #[.int .i64 v0, .int .i64 v1, .int .i64 v2, .int .i64 v3])) W' :=
  ⟨rfl, h.ins.keep f fun k hk e => (by have e : k = w.heap.size := e; have := h.hib; omega), h.frm.trans f fun i hi e => (by have e : i = w.heap.size := e; omega)⟩
set_option maxHeartbeats 4000000 in
set_option maxRecDepth 1000000 in
theorem pGetVector_at (ib : Nat) (st s : Option (List UInt8)) (u0 u1 u2 u3 : Int) (w : World) (hc : VecRes st u0 u1 u2 u3 s) (h : InSt w ib st) :
    Calls Tryz.prog 33 #[.pointer (some ⟨ib, 0, none⟩)] w (VecTk u0 u1 u2 u3 s ib w) := by
  obtain ⟨v0, v1, v2, v3, t1, t2, t3, t4, g0, g1, g2, g3⟩ := V4.total 1099511627776 st
  have HV4 := Lib.hid (show V4 1099511627776 st v0 v1 v2 v3 t4 from ⟨t1, t2, t3, g0, g1, g2, g3⟩)
  have HC := Lib.hid hc; clear hc
  have HG0 := Lib.hid g0
  have HG1 := Lib.hid g1
  have HG2 := Lib.hid g2
  have HG3 := Lib.hid g3
  have HFU := Lib.hid (fun W => cFull_any W v0 v1 v2 v3)
  unfold vecV at HFU
  clear g0 g1 g2 g3
  have hb1 := heap_alloc_new (w.alloc (.cells #[.int .i64 0, .int .i64 0, .int .i64 0, .int .i64 0] 42)) (.cells #[.int .i64 0, .int .i64 0, .int .i64 0, .int .i64 0] 42)
  rw [show (w.alloc (.cells #[.int .i64 0, .int .i64 0, .int .i64 0, .int .i64 0] 42)).heap.size = w.heap.size + 1 by simp] at hb1
  have HST := Lib.hid (show GV w ((w.alloc (.cells #[.int .i64 0, .int .i64 0, .int .i64 0, .int .i64 0] 42)).alloc (.cells #[.int .i64 0, .int .i64 0, .int .i64 0, .int .i64 0] 42)) ib st #[.int .i64 0, .int .i64 0, .int .i64 0, .int .i64 0] from
    ⟨(h.keep (Frm.alloc NoS _ _) fun _ _ => id).keep (Frm.alloc NoS _ _) fun _ _ => id, hb1, (Frm.alloc NoS _ _).blk (heap_alloc_new w _) id, ((Frm.alloc NoS w _).alloc1).mono fun _ _ s => s.elim, h.lt⟩)
  clear h hb1
  go_enter Tryz.func33, Tryz.ntmps33
  go_wp2
  go_loopw [7] (fun j W => ∃ (J : Nat) (x0 x1 x2 x3 : Int) (t : Option (List UInt8)), ((J = 0 ∧ x0 = 0 ∧ x1 = 0 ∧ x2 = 0 ∧ x3 = 0 ∧ t = st) ∨ (J = 1 ∧ x0 = v0 ∧ x1 = 0 ∧ x2 = 0 ∧ x3 = 0 ∧ t = t1) ∨ (J = 2 ∧ x0 = v0 ∧ x1 = v1 ∧ x2 = 0 ∧ x3 = 0 ∧ t = t2) ∨ (J = 3 ∧ x0 = v0 ∧ x1 = v1 ∧ x2 = v2 ∧ x3 = 0 ∧ t = t3) ∨ (J = 4 ∧ x0 = v0 ∧ x1 = v1 ∧ x2 = v2 ∧ x3 = v3 ∧ t = t4)) ∧ j = .int .i64 J ∧ GV w W ib t #[.int .i64 x0, .int .i64 x1, .int .i64 x2, .int .i64 x3]) (fun j _ => 4 - (intOf j).toNat)
  case atStart => exact ⟨0, 0, 0, 0, 0, st, .inl ⟨rfl, rfl, rfl, rfl, rfl, rfl⟩, rfl, HST.out⟩
  case round =>
    obtain ⟨J, x0, x1, x2, x3, t, hcase, rfl, hs⟩ := hrel
    rcases hcase with ⟨rfl, rfl, rfl, rfl, rfl, rfl⟩ | ⟨rfl, rfl, rfl, rfl, rfl, rfl⟩ | ⟨rfl, rfl, rfl, rfl, rfl, rfl⟩ | ⟨rfl, rfl, rfl, rfl, rfl, rfl⟩ | ⟨rfl, rfl, rfl, rfl, rfl, rfl⟩
    · have HC1 := Lib.hid (inum_at ib _ 1099511627776 _ _ wr hs.ins HG0.out (by omega) (by omega))
      have HS := Lib.hid hs; clear hs
      go_wp2_with (go_at_call 77; refine HC1.out.mono ?_; rintro e W1 ⟨rfl, hi5, hf5⟩; have z8 := free_at' (HS.out.call hi5 hf5).arr 0; have z9 := cell_at' (HS.out.call hi5 hf5).arr 0 rfl; have z7 := lt_of_block (HS.out.call hi5 hf5).arr; have HN := Lib.hid (fun u => (HS.out.call hi5 hf5).set 0 u); clear hi5 hf5)
      go_roundw
      case rel => exact ⟨1, _, _, _, _, _, .inr (.inl ⟨rfl, rfl, rfl, rfl, rfl, rfl⟩), by go_num, HN.out _⟩
      case measure => simp [intOf]
    · have HC1 := Lib.hid (inum_at ib _ 1099511627776 _ _ wr hs.ins HG1.out (by omega) (by omega))
      have HS := Lib.hid hs; clear hs
      go_wp2_with (go_at_call 77; refine HC1.out.mono ?_; rintro e W1 ⟨rfl, hi5, hf5⟩; have z8 := free_at' (HS.out.call hi5 hf5).arr 1; have z9 := cell_at' (HS.out.call hi5 hf5).arr 1 rfl; have z7 := lt_of_block (HS.out.call hi5 hf5).arr; have HN := Lib.hid (fun u => (HS.out.call hi5 hf5).set 1 u); clear hi5 hf5)
      go_roundw
      case rel => exact ⟨2, _, _, _, _, _, .inr (.inr (.inl ⟨rfl, rfl, rfl, rfl, rfl, rfl⟩)), by go_num, HN.out _⟩
      case measure => simp [intOf]
    · have HC1 := Lib.hid (inum_at ib _ 1099511627776 _ _ wr hs.ins HG2.out (by omega) (by omega))
      have HS := Lib.hid hs; clear hs
      go_wp2_with (go_at_call 77; refine HC1.out.mono ?_; rintro e W1 ⟨rfl, hi5, hf5⟩; have z8 := free_at' (HS.out.call hi5 hf5).arr 2; have z9 := cell_at' (HS.out.call hi5 hf5).arr 2 rfl; have z7 := lt_of_block (HS.out.call hi5 hf5).arr; have HN := Lib.hid (fun u => (HS.out.call hi5 hf5).set 2 u); clear hi5 hf5)
      go_roundw
      case rel => exact ⟨3, _, _, _, _, _, .inr (.inr (.inr (.inl ⟨rfl, rfl, rfl, rfl, rfl, rfl⟩))), by go_num, HN.out _⟩
      case measure => simp [intOf]
    · have HC1 := Lib.hid (inum_at ib _ 1099511627776 _ _ wr hs.ins HG3.out (by omega) (by omega))
      have HS := Lib.hid hs; clear hs
      go_wp2_with (go_at_call 77; refine HC1.out.mono ?_; rintro e W1 ⟨rfl, hi5, hf5⟩; have z8 := free_at' (HS.out.call hi5 hf5).arr 3; have z9 := cell_at' (HS.out.call hi5 hf5).arr 3 rfl; have z7 := lt_of_block (HS.out.call hi5 hf5).arr; have HN := Lib.hid (fun u => (HS.out.call hi5 hf5).set 3 u); clear hi5 hf5)
      go_roundw
      case rel => exact ⟨4, _, _, _, _, _, .inr (.inr (.inr (.inr (⟨rfl, rfl, rfl, rfl, rfl, rfl⟩)))), by go_num, HN.out _⟩
      case measure => simp [intOf]
    · have HS := Lib.hid hs; clear hs
      have z0 : wr.cell? ⟨w.heap.size + 1, 0, none⟩ = some (.int .i64 x0) := cell_at' HS.out.arr 0 rfl
      have z1 : wr.cell? ⟨w.heap.size + 1, 1, none⟩ = some (.int .i64 x1) := cell_at' HS.out.arr 1 rfl
      have z2 : wr.cell? ⟨w.heap.size + 1, 2, none⟩ = some (.int .i64 x2) := cell_at' HS.out.arr 2 rfl
      have z3 : wr.cell? ⟨w.heap.size + 1, 3, none⟩ = some (.int .i64 x3) := cell_at' HS.out.arr 3 rfl
      have zl := lt_of_block HS.out.arr
      cases t with
      | none =>
        obtain ⟨⟨rfl, rfl, rfl, rfl⟩, rfl⟩ := HC.out.det (vec_bad (by decide) (by decide) HV4.out (.inl rfl))
        by_cases hmay : MayV (vecF x0 x1 x2 x3)
        · have HMAY := Lib.hid hmay; clear hmay
          go_wp2_with (first
            | (go_at_call 85; go_loud (refine (HFU.out _).mono ?_); rintro e w2 ⟨hf2, hfy, -⟩; obtain ⟨v', he, hown, -⟩ := hfy HMAY.out; subst he; obtain ⟨aF, cF, rfl⟩ := hown.rd.sl; clear hown hfy
               have HS2 := Lib.hid (HS.out.call (HS.out.ins.keep hf2 fun _ _ => id) (hf2.mono fun _ _ s => s.elim))
               clear z0 z1 z2 z3 zl hf2
               generalize (fullL (vecF x0 x1 x2 x3)).length = nF at *
               have z0 : w2.cell? ⟨w.heap.size + 1, 0, none⟩ = some (.int .i64 x0) := cell_at' HS2.out.arr 0 rfl
               have z1 : w2.cell? ⟨w.heap.size + 1, 1, none⟩ = some (.int .i64 x1) := cell_at' HS2.out.arr 1 rfl
               have z2 : w2.cell? ⟨w.heap.size + 1, 2, none⟩ = some (.int .i64 x2) := cell_at' HS2.out.arr 2 rfl
               have z3 : w2.cell? ⟨w.heap.size + 1, 3, none⟩ = some (.int .i64 x3) := cell_at' HS2.out.arr 3 rfl
               have zl := lt_of_block HS2.out.arr
               have y0 := cell_at' HS2.out.res 0 rfl
               have y1 := cell_at' HS2.out.res 1 rfl
               have y2 := cell_at' HS2.out.res 2 rfl
               have y3 := cell_at' HS2.out.res 3 rfl
               have f0 := free_at' HS2.out.res 0
               have f1 := free_at' HS2.out.res 1
               have f2 := free_at' HS2.out.res 2
               have f3 := free_at' HS2.out.res 3
               have hl2 := lt_of_block HS2.out.res)
            | (go_at_call 17; refine (bad_go ib _ _ HS2.out.ins).mono ?_; rintro e w3 ⟨rfl, rfl⟩)
            | (go_at_call 79; obtain ⟨a, c, hh⟩ := HS2.out.ins.heap; refine (fail_go ib _ _ _ hh).mono ?_; rintro e w4 ⟨rfl, hi4, hf4⟩
               have HS4 := Lib.hid (HS2.out.call (show InSt w4 ib none from hi4) hf4)
               clear y0 y1 y2 y3 f0 f1 f2 f3 hl2 z0 z1 z2 z3 zl hi4 hf4 hh
               have y0 := cell_at' HS4.out.res 0 rfl
               have y1 := cell_at' HS4.out.res 1 rfl
               have y2 := cell_at' HS4.out.res 2 rfl
               have y3 := cell_at' HS4.out.res 3 rfl
               have f0 := free_at' HS4.out.res 0
               have f1 := free_at' HS4.out.res 1
               have f2 := free_at' HS4.out.res 2
               have f3 := free_at' HS4.out.res 3
               have hl2 := lt_of_block HS4.out.res))
          clear y0 y1 y2 y3 f0 f1 f2 f3 hl2
          obtain ⟨y0, y1, y2, y3⟩ := four_cells HS4.out.res (.int .i64 0) (.int .i64 0) (.int .i64 0) (.int .i64 0) _ rfl
          exact bodyPost_ret (v := .agg #[.int .i64 0, .int .i64 0, .int .i64 0, .int .i64 0]) (by simp [results, Tryz.results33, go_sem, y0, y1, y2, y3]) rfl (HS4.out.out 0 0 0 0 _ (four_set w4 _ _ _ _ _))
        · have HMAY := Lib.hid hmay; clear hmay
          go_wp2_with (first
            | (go_at_call 85; go_loud (refine (HFU.out _).mono ?_); rintro e w2 ⟨hf2, -, hfn⟩; have he := hfn HMAY.out; subst he; clear hfn
               have HS2 := Lib.hid (HS.out.call (HS.out.ins.keep hf2 fun _ _ => id) (hf2.mono fun _ _ s => s.elim))
               clear z0 z1 z2 z3 zl hf2)
            | (go_at_call 17; refine (bad_go ib _ _ HS2.out.ins).mono ?_; rintro e w3 ⟨rfl, rfl⟩)
            | (go_at_call 79; obtain ⟨a, c, hh⟩ := HS2.out.ins.heap; refine (fail_go ib _ _ _ hh).mono ?_; rintro e w4 ⟨rfl, hi4, hf4⟩
               have HS4 := Lib.hid (HS2.out.call (show InSt w4 ib none from hi4) hf4)
               clear hi4 hf4 hh
               have y0 := cell_at' HS4.out.res 0 rfl
               have y1 := cell_at' HS4.out.res 1 rfl
               have y2 := cell_at' HS4.out.res 2 rfl
               have y3 := cell_at' HS4.out.res 3 rfl
               have f0 := free_at' HS4.out.res 0
               have f1 := free_at' HS4.out.res 1
               have f2 := free_at' HS4.out.res 2
               have f3 := free_at' HS4.out.res 3
               have hl2 := lt_of_block HS4.out.res))
          clear y0 y1 y2 y3 f0 f1 f2 f3 hl2
          obtain ⟨y0, y1, y2, y3⟩ := four_cells HS4.out.res (.int .i64 0) (.int .i64 0) (.int .i64 0) (.int .i64 0) _ rfl
          exact bodyPost_ret (v := .agg #[.int .i64 0, .int .i64 0, .int .i64 0, .int .i64 0]) (by simp [results, Tryz.results33, go_sem, y0, y1, y2, y3]) rfl (HS4.out.out 0 0 0 0 _ (four_set w4 _ _ _ _ _))
      | some r =>
        by_cases hmay : MayV (vecF x0 x1 x2 x3)
        · obtain ⟨⟨rfl, rfl, rfl, rfl⟩, rfl⟩ := HC.out.det (vec_good HV4.out hmay)
          have HMAY := Lib.hid hmay; clear hmay
          go_wp2_with (first
            | (go_at_call 85; go_loud (refine (HFU.out _).mono ?_); rintro e w2 ⟨hf2, hfy, -⟩; obtain ⟨v', he, hown, -⟩ := hfy HMAY.out; subst he; obtain ⟨aF, cF, rfl⟩ := hown.rd.sl; clear hown hfy
               have HS2 := Lib.hid (HS.out.call (HS.out.ins.keep hf2 fun _ _ => id) (hf2.mono fun _ _ s => s.elim))
               clear z0 z1 z2 z3 zl hf2
               generalize (fullL (vecF u0 u1 u2 u3)).length = nF at *
               have z0 : w2.cell? ⟨w.heap.size + 1, 0, none⟩ = some (.int .i64 u0) := cell_at' HS2.out.arr 0 rfl
               have z1 : w2.cell? ⟨w.heap.size + 1, 1, none⟩ = some (.int .i64 u1) := cell_at' HS2.out.arr 1 rfl
               have z2 : w2.cell? ⟨w.heap.size + 1, 2, none⟩ = some (.int .i64 u2) := cell_at' HS2.out.arr 2 rfl
               have z3 : w2.cell? ⟨w.heap.size + 1, 3, none⟩ = some (.int .i64 u3) := cell_at' HS2.out.arr 3 rfl
               have zl := lt_of_block HS2.out.arr
               have y0 := cell_at' HS2.out.res 0 rfl
               have y1 := cell_at' HS2.out.res 1 rfl
               have y2 := cell_at' HS2.out.res 2 rfl
               have y3 := cell_at' HS2.out.res 3 rfl
               have f0 := free_at' HS2.out.res 0
               have f1 := free_at' HS2.out.res 1
               have f2 := free_at' HS2.out.res 2
               have f3 := free_at' HS2.out.res 3
               have hl2 := lt_of_block HS2.out.res)
            | (go_at_call 17; refine (bad_go ib _ _ HS2.out.ins).mono ?_; rintro e w3 ⟨rfl, rfl⟩))
          clear y0 y1 y2 y3 f0 f1 f2 f3 hl2 z0 z1 z2 z3 zl
          obtain ⟨y0, y1, y2, y3⟩ := four_cells HS2.out.res (.int .i64 u0) (.int .i64 u1) (.int .i64 u2) (.int .i64 u3) _ rfl
          exact bodyPost_ret (v := .agg #[.int .i64 u0, .int .i64 u1, .int .i64 u2, .int .i64 u3]) (by simp [results, Tryz.results33, go_sem, y0, y1, y2, y3]) rfl (HS2.out.out u0 u1 u2 u3 _ (four_set w2 _ _ _ _ _))
        · obtain ⟨⟨rfl, rfl, rfl, rfl⟩, rfl⟩ := HC.out.det (vec_bad (by decide) (by decide) HV4.out (.inr hmay))
          have HMAY := Lib.hid hmay; clear hmay
          go_wp2_with (first
            | (go_at_call 85; go_loud (refine (HFU.out _).mono ?_); rintro e w2 ⟨hf2, -, hfn⟩; have he := hfn HMAY.out; subst he; clear hfn
               have HS2 := Lib.hid (HS.out.call (HS.out.ins.keep hf2 fun _ _ => id) (hf2.mono fun _ _ s => s.elim))
               clear z0 z1 z2 z3 zl hf2)
            | (go_at_call 17; refine (bad_go ib _ _ HS2.out.ins).mono ?_; rintro e w3 ⟨rfl, rfl⟩)
            | (go_at_call 79; obtain ⟨a, c, hh⟩ := HS2.out.ins.heap; refine (fail_go ib _ _ _ hh).mono ?_; rintro e w4 ⟨rfl, hi4, hf4⟩
               have HS4 := Lib.hid (HS2.out.call (show InSt w4 ib none from hi4) hf4)
               clear hi4 hf4 hh
               have y0 := cell_at' HS4.out.res 0 rfl
               have y1 := cell_at' HS4.out.res 1 rfl
               have y2 := cell_at' HS4.out.res 2 rfl
               have y3 := cell_at' HS4.out.res 3 rfl
               have f0 := free_at' HS4.out.res 0
               have f1 := free_at' HS4.out.res 1
               have f2 := free_at' HS4.out.res 2
               have f3 := free_at' HS4.out.res 3
               have hl2 := lt_of_block HS4.out.res))
          clear y0 y1 y2 y3 f0 f1 f2 f3 hl2
          obtain ⟨y0, y1, y2, y3⟩ := four_cells HS4.out.res (.int .i64 0) (.int .i64 0) (.int .i64 0) (.int .i64 0) _ rfl
          exact bodyPost_ret (v := .agg #[.int .i64 0, .int .i64 0, .int .i64 0, .int .i64 0]) (by simp [results, Tryz.results33, go_sem, y0, y1, y2, y3]) rfl (HS4.out.out 0 0 0 0 _ (four_set w4 _ _ _ _ _))
end Go.Proofs.YtggfoihfenlckaaGreat
/- pack: GetOp: the walk. Printed by wip/getopgen.py. -/
namespace Go.Proofs.YtggfoihfenlckaaGreat
open Go.RowKit
theorem info_str : (Tryz.prog.info? 9).map (fun i => (i.zero, i.size, i.bytes)) = some (some (.string ByteArray.empty), 1, 16) := by kernel_rfl
/-- The In, the change that is filled, the result's block. -/
structure GO (w W : World) (ib : Nat) (t : Option (List UInt8)) (pv : Value) (ss : List ByteArray) (a : Int) (s : ByteArray) (n : Int) : Prop where
  ins : InSt W ib t
  arr : W.heap[w.heap.size + 1]? = some (.cells #[pv, .int .i64 a, .string s, .int .i64 n] 40 (0, 0))
  res : W.heap[w.heap.size]? = some (.cells #[.slice none 0 0, .int .i64 0, .string ByteArray.empty, .int .i64 0] 40 (0, 0))
  own : W.ownsRow 0 9 1 pv ss.length (ss.map Value.string)
  apart : ∀ b, pv.ownBlock = some b → w.heap.size + 1 < b
  frm : Frm (Only ib) w W
  hib : ib < w.heap.size
section
variable {w W W1 w6 : World} {ib : Nat} {t t' : Option (List UInt8)} {pv pv' : Value} {ss : List ByteArray} {a n : Int} {s : ByteArray}
theorem GO.call (h : GO w W ib t pv ss a s n) (hi : InSt W1 ib t') (f : Frm (Only ib) W W1) : GO w W1 ib t' pv ss a s n :=
  ⟨hi, f.blk h.arr fun e => (by have e : w.heap.size + 1 = ib := e; have := h.hib; omega), f.blk h.res fun e => (by have e : w.heap.size = ib := e; have := h.hib; omega), f.owns h.own fun b hb e => (by have e : b = ib := e; have := h.apart b hb; have := h.hib; omega), h.apart, h.frm.trans f fun _ _ s => s, h.hib⟩
theorem GO.keep0 (h : GO w W ib t pv ss a s n) (f : Frm NoS W W1) : GO w W1 ib t pv ss a s n := h.call (h.ins.keep f fun _ _ => id) (f.mono fun _ _ s => s.elim)
theorem GO.put (h : GO w W ib t pv ss a s n) {x : ByteArray} (own : w6.ownsRow 0 9 1 pv' (ss.length + 1) (ss.map Value.string ++ [.string x])) (fm : Frm (RowS pv) W w6) (fr : Fresh W pv pv') : GO w (w6.setCell ⟨w.heap.size + 1, 0, none⟩ pv') ib t pv' (ss ++ [x]) a s n := by
  have f2 := only_set w6 (w.heap.size + 1) 0 pv'
  have hl := lt_of_block h.arr
  have ap : ∀ b, pv'.ownBlock = some b → w.heap.size + 1 < b := fun b hb => by
    rcases fr b hb with e | e
    · exact h.apart b e
    · omega
  have n1 : ¬ RowS pv (w.heap.size + 1) := fun e => Nat.lt_irrefl _ (h.apart _ e)
  have n0 : ¬ RowS pv w.heap.size := fun e => by have := h.apart _ e; omega
  refine ⟨(h.ins.keep fm fun k hk e => ?_).keep f2 fun k hk e => ?_, set_at' (fm.blk h.arr n1) 0 pv', f2.blk (fm.blk h.res n0) fun e => ?_, ?_, ap, (h.frm.trans fm fun i hi e => ?_).trans f2 fun i hi e => ?_, h.hib⟩
  · have := h.apart k e; have := h.hib; omega
  · have e : k = w.heap.size + 1 := e; have := h.hib; omega
  · have e : w.heap.size = w.heap.size + 1 := e; omega
  · rw [List.length_append, List.map_append]
    exact f2.owns own fun b hb e => by have e : b = w.heap.size + 1 := e; have := ap b hb; omega
  · have := h.apart i e; omega
  · have e : i = w.heap.size + 1 := e; omega
theorem GO.fill (h : GO w W ib t pv ss 0 ByteArray.empty 0) (a : Int) (s : ByteArray) (n : Int) : GO w (((W.setCell ⟨w.heap.size + 1, 1, none⟩ (.int .i64 a)).setCell ⟨w.heap.size + 1, 2, none⟩ (.string s)).setCell ⟨w.heap.size + 1, 3, none⟩ (.int .i64 n)) ib t pv ss a s n := by
  have f : Frm (Only (w.heap.size + 1)) W (((W.setCell ⟨w.heap.size + 1, 1, none⟩ (.int .i64 a)).setCell ⟨w.heap.size + 1, 2, none⟩ (.string s)).setCell ⟨w.heap.size + 1, 3, none⟩ (.int .i64 n)) := ((only_set W _ 1 _).trans (only_set _ _ 2 _) fun _ _ h => h).trans (only_set _ _ 3 _) fun _ _ h => h
  refine ⟨h.ins.keep f fun k hk e => ?_, set_at' (set_at' (set_at' h.arr 1 _) 2 _) 3 _, f.blk h.res fun e => ?_, f.owns h.own fun b hb e => ?_, h.apart, h.frm.trans f fun i hi e => ?_, h.hib⟩
  · have e : k = w.heap.size + 1 := e; have := h.hib; omega
  · have e : w.heap.size = w.heap.size + 1 := e; omega
  · have e : b = w.heap.size + 1 := e; have := h.apart b hb; omega
  · have e : i = w.heap.size + 1 := e; omega
end
/-- Strings in blocks with Q. -/
def StrsQ (Q : Nat → Prop) (w : World) (v : Value) (ss : List ByteArray) : Prop := RdQ Q w v ss.length (ss.map Value.string)
def OpTk (ss : List ByteArray) (a : Int) (s : ByteArray) (n : Int) (t : Option (List UInt8)) (ib : Nat) (w : World) (e : Ending) (w' : World) : Prop :=
  ∃ pv, e = .returned (.agg #[pv, .int .i64 a, .string s, .int .i64 n]) ∧ StrsQ (fun b => w.heap.size ≤ b) w' pv ss ∧ InSt w' ib t ∧ Frm (Only ib) w w'
theorem GO.out {w W : World} {ib : Nat} {t : Option (List UInt8)} {pv : Value} {ss : List ByteArray} {a n : Int} {s : ByteArray} (h : GO w W ib t pv ss a s n) (W' : World) (f : Frm (Only w.heap.size) W W') : OpTk ss a s n t ib w (.returned (.agg #[pv, .int .i64 a, .string s, .int .i64 n])) W' :=
  ⟨pv, rfl, ⟨Rd.own (f.owns h.own fun b hb e => (by have e : b = w.heap.size := e; have := h.apart b hb; omega)), fun _ b hb => (by have := h.apart b hb; omega)⟩, h.ins.keep f fun k hk e => (by have e : k = w.heap.size := e; have := h.hib; omega), h.frm.trans f fun i hi e => (by have e : i = w.heap.size := e; omega)⟩
theorem GO.outZ {w W : World} {ib : Nat} {t : Option (List UInt8)} {pv : Value} {ss : List ByteArray} {a n : Int} {s : ByteArray} (h : GO w W ib t pv ss a s n) (W' : World) (f : Frm (Only w.heap.size) W W') : OpTk [] 0 ByteArray.empty 0 t ib w (.returned (.agg #[.slice none 0 0, .int .i64 0, .string ByteArray.empty, .int .i64 0])) W' :=
  ⟨_, rfl, ⟨.inl ⟨none, rfl, rfl, rfl⟩, fun h => absurd rfl h⟩, h.ins.keep f fun k hk e => (by have e : k = w.heap.size := e; have := h.hib; omega), h.frm.trans f fun i hi e => (by have e : i = w.heap.size := e; omega)⟩
set_option maxHeartbeats 8000000 in
set_option maxRecDepth 1000000 in
theorem pGetOp_at (ib : Nat) (st t : Option (List UInt8)) (ss : List ByteArray) (a n : Int) (s : ByteArray) (w : World) (hc : OpRes st ss a s n t) (h : InSt w ib st) (hl : (leftOf st).length ≤ 60000) :
    Calls Tryz.prog 32 #[.pointer (some ⟨ib, 0, none⟩)] w (OpTk ss a s n t ib w) := by
  obtain ⟨i0, hi, hz0, hz1, hz2⟩ := info_parts info_str
  have HC := Lib.hid hc; clear hc
  have HL := Lib.hid hl; clear hl
  have hb1 := heap_alloc_new (w.alloc (.cells #[.slice none 0 0, .int .i64 0, .string ByteArray.empty, .int .i64 0] 40)) (.cells #[.slice none 0 0, .int .i64 0, .string ByteArray.empty, .int .i64 0] 40)
  rw [show (w.alloc (.cells #[.slice none 0 0, .int .i64 0, .string ByteArray.empty, .int .i64 0] 40)).heap.size = w.heap.size + 1 by simp] at hb1
  obtain ⟨WB, hWB⟩ : ∃ W, W = (w.alloc (.cells #[.slice none 0 0, .int .i64 0, .string ByteArray.empty, .int .i64 0] 40)).alloc (.cells #[.slice none 0 0, .int .i64 0, .string ByteArray.empty, .int .i64 0] 40) := ⟨_, rfl⟩
  have hst : GO w WB ib st (.slice none 0 0) [] 0 ByteArray.empty 0 := by
    rw [hWB]
    exact ⟨(h.keep (Frm.alloc NoS _ _) fun _ _ => id).keep (Frm.alloc NoS _ _) fun _ _ => id, hb1, (Frm.alloc NoS _ _).blk (heap_alloc_new w _) id, World.ownsRow_nil _ 0 _ 1, (fun b hb => by simp [Value.ownBlock] at hb), ((Frm.alloc NoS w _).alloc1).mono fun _ _ s => s.elim, h.lt⟩
  have HST := Lib.hid hst; clear hst
  have HWB := Lib.hid hWB; clear hWB
  clear h hb1
  go_enter Tryz.func32, Tryz.ntmps32
  go_wp2_with (go_at_call 76; rw [show (w.alloc (.cells #[.slice none 0 0, .int .i64 0, .string ⟨#[]⟩, .int .i64 0] 40)).alloc (.cells #[.slice none 0 0, .int .i64 0, .string ⟨#[]⟩, .int .i64 0] 40) = WB from HWB.out.symm]; go_loud (refine (pcount_any ib st WB HST.out.ins).mono ?_); rintro e w1 ⟨n1, s1, rfl, hc1, hi1, hf1⟩; have hn6 : n1 ≤ 60000 := by { have := hc1.left; have := HL.out; omega }; have HL1 := Lib.hid (Nat.le_trans hc1.less HL.out); have HC1 := Lib.hid hc1; have HG1 := Lib.hid (HST.out.call hi1 hf1); clear hc1 hi1 hf1)
  go_loopw [6] (fun i W => ∃ (k : Nat) (ps : List ByteArray) (t : Option (List UInt8)) (pv : Value), k ≤ n1 ∧ i = .int .i64 k ∧ TxtRun 30 s1 k ps t ∧ (leftOf t).length ≤ 60000 ∧ GO w W ib t pv ps 0 ByteArray.empty 0) (fun i _ => n1 - (intOf i).toNat)
  case atStart => exact ⟨0, [], s1, _, Nat.zero_le _, rfl, .zero, HL1.out, HG1.out⟩
  case round =>
    clear HG1
    obtain ⟨k, ps, t0, pv, hk, rfl, hrun, hlt0, hg⟩ := hrel
    have hlen : ps.length = k := hrun.len
    have HRUN := Lib.hid hrun; clear hrun
    have HLT := Lib.hid hlt0; clear hlt0
    obtain ⟨aV, cV, rfl⟩ := (Rd.own hg.own).sl
    rw [hlen] at hg
    have HG := Lib.hid hg; clear hg
    by_cases hlt : k < n1
    · obtain ⟨x, t1, g1⟩ := TextStep.total t0 30
      have HT1 := Lib.hid g1; clear g1
      have HLT1 := Lib.hid (Nat.le_trans HT1.out.left HLT.out)
      have hni : ¬ Only ib (w.heap.size + 1) := fun h => by have h : w.heap.size + 1 = ib := h; have := HG.out.hib; omega
      have HNI := Lib.hid hni; clear hni
      go_wp2_with fail
      have HGD := Lib.hid (HG.out.keep0 (Frm.drew NoS wr))
      refine wp_region_G (S := fun w' => w'.cell? ⟨w.heap.size + 1, 0, none⟩ = some (.slice aV k cV)) 7 (by kernel_rfl) (cell_at' HGD.out.arr 0 rfl) ?_
      intro hS
      generalize wr.drew = Y0 at *
      refine take_opG 0 8 (v := ?_) rfl rfl (by kernel_rfl) (by kernel_rfl) (by decide) (by kernel_rfl) (by kernel_rfl) (fun _ _ _ h => h) (Or.inl ⟨by rfl, ?_⟩) (by assumption) ?_
      rotate_left 1
      · (intro w hSw; (try dsimp only at hSw); go_simp; (try with_reducible rfl))
      try simp only [Act.put, List.setIfInBounds_toArray, List.set_cons_zero, List.set_cons_succ]
      refine take_opG 1 9 (v := ?_) rfl rfl (by kernel_rfl) (by kernel_rfl) (by decide) (by kernel_rfl) (by kernel_rfl) (fun _ _ _ h => h) (Or.inl ⟨by rfl, ?_⟩) (by assumption) ?_
      rotate_left 1
      · (intro w hSw; (try dsimp only at hSw); go_simp; (try with_reducible rfl))
      try simp only [Act.put, List.setIfInBounds_toArray, List.set_cons_zero, List.set_cons_succ]
      refine take_opG 2 10 (v := ?_) rfl rfl (by kernel_rfl) (by kernel_rfl) (by decide) (by kernel_rfl) (by kernel_rfl) (fun _ _ _ h => h) (Or.inl ⟨by rfl, ?_⟩) (by assumption) ?_
      rotate_left 1
      · (intro w hSw; (try dsimp only at hSw); go_simp; (try with_reducible rfl))
      try simp only [Act.put, List.setIfInBounds_toArray, List.set_cons_zero, List.set_cons_succ]
      refine one_opG (i := 3) (by kernel_rfl) rfl (fun K hK => ?_)
      go_simp
      refine (itext_at ib t0 30 x t1 _ HGD.out.ins HT1.out (by omega) (by omega)).mono ?_
      rintro e1 Y1 ⟨rfl, hi5, hf5⟩
      have hS1 : Y1.cell? ⟨w.heap.size + 1, 0, none⟩ = some (.slice aV k cV) := hf5.cell' hS HNI.out
      refine hK.out _ _ hS1 ?_
      clear hK K hS
      have HG5 := Lib.hid (HGD.out.call hi5 hf5)
      clear hi5 hf5
      try simp only [Act.put, List.setIfInBounds_toArray, List.set_cons_zero, List.set_cons_succ]
      refine one_opG (i := 4) (by kernel_rfl) rfl (fun K hK => ?_)
      go_simp
      have hS2 : (Y1.alloc (.cells #[.string x] 9)).cell? ⟨w.heap.size + 1, 0, none⟩ = some (.slice aV k cV) := (Frm.alloc NoS Y1 _).cell' hS1 id
      refine hK.out _ _ hS2 ?_
      clear hK K
      try simp only [Act.put, List.setIfInBounds_toArray, List.set_cons_zero, List.set_cons_succ]
      refine one_opG (i := 5) (by kernel_rfl) rfl (fun K hK => ?_)
      refine stp_app1 Y1 [.string x] rfl (.tmp 9) (.tmp 12) 38 rfl 9 i0 _ 1 16 Tryz.underlying38 hi hz0 hz1 hz2 (by decide) (by decide) (.slice aV k cV) k _ (by have h := HG5.out.own; rw [hlen] at h; exact h) 1 1 (by simp [Act.eval]) (by simp [Act.eval]) rfl (by simp [Value.oneCell']) (by simp only [maxLen]; omega) (by omega) ?_
      intro ad cc w6 own6 fm6 fr6
      have hn1 : ¬ RowS (.slice aV k cV) (w.heap.size + 1) := fun e => Nat.lt_irrefl _ (HG5.out.apart _ e)
      have hb6 := fm6.blk HG5.out.arr hn1
      have hrow : w6.cell? ⟨w.heap.size + 1, 0, none⟩ = some (.slice aV k cV) := cell_at' hb6 0 rfl
      have hcf := free_at' hb6 0
      have hlt6 := lt_of_block hb6
      have HG6 := Lib.hid (HG5.out.put (x := x) (pv' := .slice ad (k + 1) cc) (by rw [hlen]; exact own6) fm6 fr6)
      refine hK.out _ _ hrow ?_
      clear hK K own6 fm6 fr6 hn1 hb6 hS1 hS2
      try simp only [Act.put, List.setIfInBounds_toArray, List.set_cons_zero, List.set_cons_succ]
      refine take_opG 6 14 (v := ?_) rfl rfl (by kernel_rfl) (by kernel_rfl) (by decide) (by kernel_rfl) (by kernel_rfl) (fun _ _ _ h => h) (Or.inl ⟨by rfl, ?_⟩) (by assumption) ?_
      rotate_left 1
      · (intro w hSw; (try dsimp only at hSw); go_simp; (try with_reducible rfl))
      try simp only [Act.put, List.setIfInBounds_toArray, List.set_cons_zero, List.set_cons_succ]
      refine last_opG (by kernel_rfl) (by kernel_rfl) rfl (fun K hK => ?_)
      go_simp
      refine hK.out _ _ ?_
      clear hK K hrow hcf
      go_wp2
      go_roundw
      case rel => exact ⟨k + 1, ps ++ [x], t1, _, by omega, by go_num, .snoc HRUN.out HT1.out, HLT1.out, HG6.out⟩
      case measure => simp [intOf]; omega
    · obtain rfl : n1 = k := by omega
      obtain ⟨av, t1, g1⟩ := NumStep.total t0 7
      obtain ⟨sv, t2, g2⟩ := TextStep.total t1 30
      obtain ⟨nv, t3, g3⟩ := NumStep.total t2 1099511627776
      have hos : OpSt 60000 30 7 1099511627776 st n1 ps av sv nv s1 t0 t1 t2 t3 := ⟨HC1.out, HRUN.out, g1, g2, g3⟩
      have HN1 := Lib.hid g1; clear g1
      have HN2 := Lib.hid g2; clear g2
      have HN3 := Lib.hid g3; clear g3
      have HOR := Lib.hid (fun W v (h : StrsAt W v ps) => opRight_any ps av nv sv W v h (by omega))
      have HPG := Lib.hid (fun (r : List UInt8) (e : t3 = some r) hb => op_good (e ▸ hos) hb)
      have HPB := Lib.hid (fun hb => op_bad (by decide) (by decide) (by decide) (by decide) (by decide) (by decide) (by decide) (by decide) hos hb)
      clear hos hk hlt
      have H0X := Lib.hid True.intro
      cases t3 with
      | none =>
        obtain ⟨⟨rfl, rfl, rfl, rfl⟩, rfl⟩ := HC.out.det (HPB.out (.inl rfl))
        clear HOR
        go_wp2_with (first
          | (go_at_call 77; first
            | (have q9 := HG4; refine (inum_at ib t2 1099511627776 nv _ _ HG4.out.ins HN3.out (by omega) (by omega)).mono ?_; rintro e3 w5 ⟨rfl, hi5, hf5⟩
               have hg5 := HG4.out.call hi5 hf5
               have z0 : w5.cell? ⟨w.heap.size + 1, 0, none⟩ = some (.slice aV n1 cV) := cell_at' hg5.arr 0 rfl
               have z1 : w5.cell? ⟨w.heap.size + 1, 1, none⟩ = some (.int .i64 0) := cell_at' hg5.arr 1 rfl
               have z2 : w5.cell? ⟨w.heap.size + 1, 2, none⟩ = some (.string ByteArray.empty) := cell_at' hg5.arr 2 rfl
               have z3 : w5.cell? ⟨w.heap.size + 1, 3, none⟩ = some (.int .i64 0) := cell_at' hg5.arr 3 rfl
               have f1 := free_at' hg5.arr 1
               have f2 := free_at' hg5.arr 2
               have f3 := free_at' hg5.arr 3
               have zl := lt_of_block hg5.arr
               have HG5 := Lib.hid hg5
               have HF := Lib.hid (HG5.out.fill av sv nv)
               clear hi5 hf5 hg5 q9)
            | (have q9 := H0X; go_loud (refine (inum_at ib t0 7 av t1 _ HG.out.ins HN1.out (by omega) (by omega)).mono ?_); rintro e1 w3 ⟨rfl, hi3, hf3⟩; clear q9 H0X; have HG3 := Lib.hid (HG.out.call hi3 hf3); clear hi3 hf3))
          | (go_at_call 83; go_loud (refine (itext_at ib t1 30 sv t2 _ HG3.out.ins HN2.out (by omega) (by omega)).mono ?_); rintro e2 w4 ⟨rfl, hi4, hf4⟩; have HG4 := Lib.hid (HG3.out.call hi4 hf4); clear hi4 hf4)
          | (go_at_call 17; go_loud (refine (bad_go ib _ _ HF.out.ins).mono ?_); rintro e6 w6 ⟨rfl, rfl⟩)
          | (go_at_call 79; obtain ⟨ax, cx, hh⟩ := HF.out.ins.heap; go_loud (refine (fail_go ib _ _ _ hh).mono ?_); rintro e8 w8 ⟨rfl, hi8, hf8⟩
             clear z0 z1 z2 z3 f1 f2 f3 zl
             have HG8 := Lib.hid (HF.out.call (show InSt w8 ib none from hi8) hf8)
             clear hi8 hf8 hh
             have y0 := cell_at' HG8.out.res 0 rfl
             have g0 := free_at' HG8.out.res 0
             have y1 := cell_at' HG8.out.res 1 rfl
             have g1 := free_at' HG8.out.res 1
             have y2 := cell_at' HG8.out.res 2 rfl
             have g2 := free_at' HG8.out.res 2
             have y3 := cell_at' HG8.out.res 3 rfl
             have g3 := free_at' HG8.out.res 3
             have yl := lt_of_block HG8.out.res))
        clear y0 g0 y1 g1 y2 g2 y3 g3 yl
        obtain ⟨y0, y1, y2, y3⟩ := four_cells HG8.out.res (.slice none 0 0) (.int .i64 0) (.string ⟨#[]⟩) (.int .i64 0) _ rfl
        exact bodyPost_ret (v := .agg #[.slice none 0 0, .int .i64 0, .string ⟨#[]⟩, .int .i64 0]) (by simp [results, Tryz.results32, go_sem, y0, y1, y2, y3]) rfl (HG8.out.outZ _ (four_set w8 _ _ _ _ _))
      | some r =>
        cases hob : opB ps av sv nv with
        | true =>
          obtain ⟨⟨rfl, rfl, rfl, rfl⟩, rfl⟩ := HC.out.det (HPG.out r rfl hob)
          rw [hob] at HOR
          clear hob
          go_wp2_with (first
          | (go_at_call 77; first
            | (have q9 := HG4; refine (inum_at ib t2 1099511627776 n _ _ HG4.out.ins HN3.out (by omega) (by omega)).mono ?_; rintro e3 w5 ⟨rfl, hi5, hf5⟩
               have hg5 := HG4.out.call hi5 hf5
               have z0 : w5.cell? ⟨w.heap.size + 1, 0, none⟩ = some (.slice aV n1 cV) := cell_at' hg5.arr 0 rfl
               have z1 : w5.cell? ⟨w.heap.size + 1, 1, none⟩ = some (.int .i64 0) := cell_at' hg5.arr 1 rfl
               have z2 : w5.cell? ⟨w.heap.size + 1, 2, none⟩ = some (.string ByteArray.empty) := cell_at' hg5.arr 2 rfl
               have z3 : w5.cell? ⟨w.heap.size + 1, 3, none⟩ = some (.int .i64 0) := cell_at' hg5.arr 3 rfl
               have f1 := free_at' hg5.arr 1
               have f2 := free_at' hg5.arr 2
               have f3 := free_at' hg5.arr 3
               have zl := lt_of_block hg5.arr
               have HG5 := Lib.hid hg5
               have HF := Lib.hid (HG5.out.fill a s n)
               clear hi5 hf5 hg5 q9)
            | (have q9 := H0X; go_loud (refine (inum_at ib t0 7 a t1 _ HG.out.ins HN1.out (by omega) (by omega)).mono ?_); rintro e1 w3 ⟨rfl, hi3, hf3⟩; clear q9 H0X; have HG3 := Lib.hid (HG.out.call hi3 hf3); clear hi3 hf3))
          | (go_at_call 83; go_loud (refine (itext_at ib t1 30 s t2 _ HG3.out.ins HN2.out (by omega) (by omega)).mono ?_); rintro e2 w4 ⟨rfl, hi4, hf4⟩; have HG4 := Lib.hid (HG3.out.call hi4 hf4); clear hi4 hf4)
          | (go_at_call 17; go_loud (refine (bad_go ib _ _ HF.out.ins).mono ?_); rintro e6 w6 ⟨rfl, rfl⟩)
          | (go_at_call 84; go_loud (refine (HOR.out _ _ (by have h := Rd.own HF.out.own; rw [hlen] at h; unfold StrsAt; rw [hlen]; exact h)).mono ?_); rintro e7 w7 ⟨rfl, hf7⟩
             clear z0 z1 z2 z3 f1 f2 f3 zl
             have HG7 := Lib.hid (HF.out.keep0 hf7)
             clear hf7
             have z0 : w7.cell? ⟨w.heap.size + 1, 0, none⟩ = some (.slice aV n1 cV) := cell_at' HG7.out.arr 0 rfl
             have z1 : w7.cell? ⟨w.heap.size + 1, 1, none⟩ = some (.int .i64 a) := cell_at' HG7.out.arr 1 rfl
             have z2 : w7.cell? ⟨w.heap.size + 1, 2, none⟩ = some (.string s) := cell_at' HG7.out.arr 2 rfl
             have z3 : w7.cell? ⟨w.heap.size + 1, 3, none⟩ = some (.int .i64 n) := cell_at' HG7.out.arr 3 rfl
             have zl := lt_of_block HG7.out.arr
             have y0 := cell_at' HG7.out.res 0 rfl
             have g0 := free_at' HG7.out.res 0
             have y1 := cell_at' HG7.out.res 1 rfl
             have g1 := free_at' HG7.out.res 1
             have y2 := cell_at' HG7.out.res 2 rfl
             have g2 := free_at' HG7.out.res 2
             have y3 := cell_at' HG7.out.res 3 rfl
             have g3 := free_at' HG7.out.res 3
             have yl := lt_of_block HG7.out.res))
          clear z0 z1 z2 z3 zl
          clear y0 g0 y1 g1 y2 g2 y3 g3 yl
          obtain ⟨y0, y1, y2, y3⟩ := four_cells HG7.out.res (.slice aV n1 cV) (.int .i64 a) (.string s) (.int .i64 n) _ rfl
          exact bodyPost_ret (v := .agg #[.slice aV n1 cV, .int .i64 a, .string s, .int .i64 n]) (by simp [results, Tryz.results32, go_sem, y0, y1, y2, y3]) rfl (HG7.out.out _ (four_set w7 _ _ _ _ _))
        | false =>
          obtain ⟨⟨rfl, rfl, rfl, rfl⟩, rfl⟩ := HC.out.det (HPB.out (.inr hob))
          rw [hob] at HOR
          clear hob
          go_wp2_with (first
          | (go_at_call 77; first
            | (have q9 := HG4; refine (inum_at ib t2 1099511627776 nv _ _ HG4.out.ins HN3.out (by omega) (by omega)).mono ?_; rintro e3 w5 ⟨rfl, hi5, hf5⟩
               have hg5 := HG4.out.call hi5 hf5
               have z0 : w5.cell? ⟨w.heap.size + 1, 0, none⟩ = some (.slice aV n1 cV) := cell_at' hg5.arr 0 rfl
               have z1 : w5.cell? ⟨w.heap.size + 1, 1, none⟩ = some (.int .i64 0) := cell_at' hg5.arr 1 rfl
               have z2 : w5.cell? ⟨w.heap.size + 1, 2, none⟩ = some (.string ByteArray.empty) := cell_at' hg5.arr 2 rfl
               have z3 : w5.cell? ⟨w.heap.size + 1, 3, none⟩ = some (.int .i64 0) := cell_at' hg5.arr 3 rfl
               have f1 := free_at' hg5.arr 1
               have f2 := free_at' hg5.arr 2
               have f3 := free_at' hg5.arr 3
               have zl := lt_of_block hg5.arr
               have HG5 := Lib.hid hg5
               have HF := Lib.hid (HG5.out.fill av sv nv)
               clear hi5 hf5 hg5 q9)
            | (have q9 := H0X; go_loud (refine (inum_at ib t0 7 av t1 _ HG.out.ins HN1.out (by omega) (by omega)).mono ?_); rintro e1 w3 ⟨rfl, hi3, hf3⟩; clear q9 H0X; have HG3 := Lib.hid (HG.out.call hi3 hf3); clear hi3 hf3))
          | (go_at_call 83; go_loud (refine (itext_at ib t1 30 sv t2 _ HG3.out.ins HN2.out (by omega) (by omega)).mono ?_); rintro e2 w4 ⟨rfl, hi4, hf4⟩; have HG4 := Lib.hid (HG3.out.call hi4 hf4); clear hi4 hf4)
          | (go_at_call 17; go_loud (refine (bad_go ib _ _ HF.out.ins).mono ?_); rintro e6 w6 ⟨rfl, rfl⟩)
          | (go_at_call 84; go_loud (refine (HOR.out _ _ (by have h := Rd.own HF.out.own; rw [hlen] at h; unfold StrsAt; rw [hlen]; exact h)).mono ?_); rintro e7 w7 ⟨rfl, hf7⟩
             clear z0 z1 z2 z3 f1 f2 f3 zl
             have HG7 := Lib.hid (HF.out.keep0 hf7)
             clear hf7)
          | (go_at_call 79; obtain ⟨ax, cx, hh⟩ := HG7.out.ins.heap; go_loud (refine (fail_go ib _ _ _ hh).mono ?_); rintro e8 w8 ⟨rfl, hi8, hf8⟩
             skip
             have HG8 := Lib.hid (HG7.out.call (show InSt w8 ib none from hi8) hf8)
             clear hi8 hf8 hh
             have y0 := cell_at' HG8.out.res 0 rfl
             have g0 := free_at' HG8.out.res 0
             have y1 := cell_at' HG8.out.res 1 rfl
             have g1 := free_at' HG8.out.res 1
             have y2 := cell_at' HG8.out.res 2 rfl
             have g2 := free_at' HG8.out.res 2
             have y3 := cell_at' HG8.out.res 3 rfl
             have g3 := free_at' HG8.out.res 3
             have yl := lt_of_block HG8.out.res))
          clear y0 g0 y1 g1 y2 g2 y3 g3 yl
          obtain ⟨y0, y1, y2, y3⟩ := four_cells HG8.out.res (.slice none 0 0) (.int .i64 0) (.string ⟨#[]⟩) (.int .i64 0) _ rfl
          exact bodyPost_ret (v := .agg #[.slice none 0 0, .int .i64 0, .string ⟨#[]⟩, .int .i64 0]) (by simp [results, Tryz.results32, go_sem, y0, y1, y2, y3]) rfl (HG8.out.outZ _ (four_set w8 _ _ _ _ _))
end Go.Proofs.YtggfoihfenlckaaGreat
/- tributaryref15: Path, Op: the walks. Printed by wip/opgen4.py. -/
namespace Go.Proofs.YtggfoihfenlckaaGreat
open Go.RowKit
set_option maxHeartbeats 4000000 in
set_option maxRecDepth 1000000 in
theorem r15Path_any (ss : List ByteArray) (w : World) (v : Value) (h : StrsAt w v ss) (hl : ss.length ≤ 100000) :
    Calls Tryz.prog 72 #[v] w fun e w' => e = .returned (.int .i64 (pathE ss)) ∧ Frm NoS w w' := by
  by_cases h1 : ss.length < 1 ∨ 3 < ss.length
  · rw [pathE_len h1]
    obtain ⟨a, c, rfl⟩ := h.sl
    clear h
    generalize ss.length = n at *
    rcases h1 with h1 | h1
    · obtain rfl : n = 0 := by omega
      go_enter Tryz.func72, Tryz.ntmps72
      go_wp2
      go_ret
      exact ⟨rfl, Frm.refl _ _⟩
    · have h2 : ¬ (n : Int) ≤ 3 := by omega
      have h3 : ((n : Int) == 0) = false := beq_false_of_ne (by omega)
      go_enter Tryz.func72, Tryz.ntmps72
      go_wp2
      go_ret
      exact ⟨rfl, Frm.refl _ _⟩
  · rcases Rd.shape h with ⟨ad, rfl, h0⟩ | ⟨b, off, c, rfl, hmax⟩
    · omega
    have HK := Lib.hid r15Kind_any
    have hn1 : 1 ≤ ss.length := by omega
    have hn3 : ss.length ≤ 3 := by omega
    have hz : ((ss.length : Int) == 0) = false := beq_false_of_ne (by omega)
    have hw1 : IntKind.i64.wrap ((ss.length : Int) - 1) = ((ss.length - 1 : Nat) : Int) := by rw [IntKind.wrap_i64]; omega
    have hw2 : ((ss.length : Int) - 1) = ((ss.length - 1 : Nat) : Int) := by omega
    have H1 := Lib.hid h1; clear h1
    have HH := Lib.hid (show Rd w (.slice (some ⟨b, off, none⟩) ss.length c) ss.length (ss.map Value.string) from h); clear h
    generalize hm : ss.length - 1 = m at *
    have HM := Lib.hid hm
    generalize hn : ss.length = n at *
    have HN := Lib.hid hn; clear hn
    have hmn : m + 1 = n := by omega
    clear hm
    go_enter Tryz.func72, Tryz.ntmps72
    go_wp2
    go_loopw [15] (fun i W => ∃ k : Nat, k ≤ n ∧ i = .int .i64 k ∧ (ss.take k).any p1 = false ∧ Frm NoS w W) (fun i _ => n - (intOf i).toNat)
    case atStart => exact ⟨0, Nat.zero_le _, rfl, by simp, Frm.refl _ _⟩
    case round =>
      obtain ⟨k, hk, rfl, ha, hw⟩ := hrel
      have HAN := Lib.hid ha; clear ha
      have HW := Lib.hid hw; clear hw
      by_cases hlt : k < n
      · have hlk : k < ss.length := by rw [HN.out]; exact hlt
        have q0 := HW.out.cell' (str_at HH.out k hlk) id
        have HT := Lib.hid (any_take (p := p1) hlk)
        have HE := Lib.hid (any_here (p := p1) hlk)
        generalize ss.getD k ByteArray.empty = s at *
        by_cases hs : 30 < s.size
        · have h2 : ¬ (s.size : Int) ≤ 30 := by omega
          have HEX := Lib.hid (pathE_any (HE.out (by unfold p1; simp [hs])))
          clear HE HT hs
          go_wp2
          go_ret
          exact ⟨by rw [HEX.out]; rfl, HW.out⟩
        · have h2 : (s.size : Int) ≤ 30 := by omega
          have HKC := Lib.hid (fun W => HK.out s W)
          have hp : p1 s = (kindOf s == 0) := by unfold p1; rw [show decide (30 < s.size) = false from decide_eq_false hs]; rfl
          rw [hp] at HT HE
          clear hp hs
          generalize kindOf s = x at *
          cases hx : (x == 0) with
          | true =>
            have HEX := Lib.hid (pathE_any (HE.out hx))
            clear HE HT
            go_wp2_with (go_at_call 74; go_loud (refine (HKC.out _).mono ?_); rintro e w1 ⟨rfl, hw9⟩; have HW1 := Lib.hid (HW.out.then1 hw9); clear hw9)
            go_ret
            exact ⟨by rw [HEX.out]; rfl, HW1.out⟩
          | false =>
            have HTX := Lib.hid (show (ss.take (k + 1)).any p1 = false by rw [HT.out, HAN.out, hx]; rfl)
            clear HE HT
            go_wp2_with (go_at_call 74; go_loud (refine (HKC.out _).mono ?_); rintro e w1 ⟨rfl, hw9⟩; have HW1 := Lib.hid (HW.out.then1 hw9); clear hw9)
            go_roundw
            case rel => exact ⟨k + 1, by omega, by go_num, HTX.out, HW1.out⟩
            case measure => simp [intOf]; omega
      · obtain rfl : n = k := by omega
        have hall : ss.any p1 = false := by
          have := HAN.out
          rwa [List.take_of_length_le (by rw [HN.out]; exact Nat.le_refl _)] at this
        have HALL := Lib.hid hall; clear hall HAN
        go_wp2
        go_loopw [35] (fun i W => ∃ k : Nat, k ≤ n ∧ i = .int .i64 k ∧ (ss.take (min k m)).any p2 = false ∧ Frm NoS w W) (fun i _ => n - (intOf i).toNat)
        case atStart => exact ⟨0, Nat.zero_le _, rfl, by simp, HW.out⟩
        case round =>
          clear HW
          obtain ⟨k, hk, rfl, ha, hw⟩ := hrel
          have HAN := Lib.hid ha; clear ha
          have HW := Lib.hid hw; clear hw
          by_cases hlt : k < m
          · have hlk : k < ss.length := by rw [HN.out]; omega
            have q0 := HW.out.cell' (str_at HH.out k hlk) id
            have HT := Lib.hid (any_take (p := p2) hlk)
            have HE := Lib.hid (fun (h : p2 (ss.getD k ByteArray.empty) = true) => (show (ss.take (ss.length - 1)).any p2 = true from List.any_eq_true.2 ⟨_, by
              rw [show ss.length - 1 = m by rw [HN.out]; omega]
              have e1 : ss.getD k ByteArray.empty = (ss.take m).getD k ByteArray.empty := by simp [List.getD_eq_getElem?_getD, List.getElem?_take, hlt]
              rw [e1]
              exact getD_mem ByteArray.empty (by rw [List.length_take]; omega), h⟩))
            rw [Nat.min_eq_left (Nat.le_of_lt hlt)] at HAN
            generalize ss.getD k ByteArray.empty = s at *
            have HKC := Lib.hid (fun W => HK.out s W)
            have hp : p2 s = !(kindOf s == 5) := rfl
            rw [hp] at HT HE
            clear hp
            generalize kindOf s = x at *
            have hkn : k < n := by omega
            cases hx : (x == 5) with
            | false =>
              have hx2 : (x != 5) = true := by simp [bne, hx]
              have HEX := Lib.hid (pathE_six (by rw [HN.out]; exact H1.out) HALL.out (HE.out (by rw [hx]; rfl)))
              clear HE HT
              go_wp2_with (go_at_call 74; go_loud (refine (HKC.out _).mono ?_); rintro e w1 ⟨rfl, hw9⟩; have HW1 := Lib.hid (HW.out.then1 hw9); clear hw9)
              go_ret
              exact ⟨by rw [HEX.out]; rfl, HW1.out⟩
            | true =>
              have hx2 : (x != 5) = false := by simp [bne, hx]
              have HTX := Lib.hid (show (ss.take (min (k + 1) m)).any p2 = false by rw [Nat.min_eq_left hlt, HT.out, HAN.out, hx]; rfl)
              clear HE HT
              go_wp2_with (go_at_call 74; go_loud (refine (HKC.out _).mono ?_); rintro e w1 ⟨rfl, hw9⟩; have HW1 := Lib.hid (HW.out.then1 hw9); clear hw9)
              go_roundw
              case rel => exact ⟨k + 1, by omega, by go_num, HTX.out, HW1.out⟩
              case measure => simp [intOf]; omega
          · by_cases hkn : k < n
            · have HTX := Lib.hid (show (ss.take (min (k + 1) m)).any p2 = false by
                have h := HAN.out
                rw [show min k m = m by omega] at h
                rw [show min (k + 1) m = m by omega]; exact h)
              have hge : ¬ (k : Int) < m := by omega
              go_wp2
              go_roundw
              case rel => exact ⟨k + 1, by omega, by go_num, HTX.out, HW.out⟩
              case measure => simp [intOf]; omega
            · obtain rfl : n = k := by omega
              have HEX := Lib.hid (pathE_ok (by rw [HN.out]; exact H1.out) HALL.out (by rw [show ss.length - 1 = m by rw [HN.out]; omega]; have h := HAN.out; rw [show min n m = m by omega] at h; exact h))
              go_wp2
              go_ret
              exact ⟨by rw [HEX.out]; rfl, HW.out⟩
end Go.Proofs.YtggfoihfenlckaaGreat
/- tributaryref15: Op: the walk. Printed by wip/opgen5.py. -/
namespace Go.Proofs.YtggfoihfenlckaaGreat
open Go.RowKit
set_option maxHeartbeats 16000000 in
set_option maxRecDepth 1000000 in
theorem r15Op_any (ss : List ByteArray) (a n : Int) (s : ByteArray) (w : World) (v : Value) (h : StrsAt w v ss) (hl : ss.length ≤ 100000) (hsz : s.size ≤ 9223372036854775807) :
    Calls Tryz.prog 23 #[.agg #[v, .int .i64 a, .string s, .int .i64 n]] w (OpPost (opB ss a s n) w) := by
  have HP := Lib.hid (fun W (f : Frm NoS w W) => r15Path_any ss W v (h.keep0 f) hl)
  by_cases hp : pathE ss = 0
  rotate_left 1
  · have hb : opB ss a s n = false := by unfold opB; rw [show (pathE ss == 0) = false from beq_false_of_ne hp]; rfl
    rw [hb]
    clear hb
    obtain ⟨a0, c0, rfl⟩ := h.sl
    clear h
    have hx1 : (pathE ss != 0) = true := by simp [bne, hp]
    generalize pathE ss = x at *
    generalize ss.length = l at *
    have HX := Lib.hid hp; clear hp
    go_enter Tryz.func23, Tryz.ntmps23
    go_wp2_with (go_at_call 72; go_loud (refine (HP.out _ (Frm.alloc _ _ _)).mono ?_); rintro e w1 ⟨rfl, hw1⟩; have HW1 := Lib.hid ((Frm.alloc NoS _ _).then1 hw1); clear hw1)
    go_ret
    exact ⟨x, rfl, ⟨fun h => absurd h HX.out, fun h => by cases h⟩, HW1.out⟩
  obtain ⟨hl1, hl3⟩ := pathE_zero hp
  rw [hp] at HP
  rcases Rd.shape h with ⟨ad, rfl, h0⟩ | ⟨b, off, c, rfl, hmax⟩
  · omega
  have HQ := Lib.hid (fun W (f : Frm NoS w W) => (show W.cell? ⟨b, off + (ss.length - 1), none⟩ = some (.string (lastS ss)) from str_at (Rd.keep0 h f) (ss.length - 1) (by omega)))
  have HK := Lib.hid (fun W => r15Kind_any (lastS ss) W)
  have HKY := Lib.hid (fun W => r8Key_any s W hsz)
  have HB := Lib.hid (show opB ss a s n = (actB a (kindOf (lastS ss)) && (txtB a s && cntB a n)) by unfold opB; rw [hp]; rfl)
  generalize opB ss a s n = bb at *
  generalize kindOf (lastS ss) = K at *
  generalize lastS ss = ls at *
  have HACT := Lib.hid (fun W => r15act_any a K W)
  generalize actB a K = q at *
  have hwr : IntKind.i64.wrap ((ss.length : Int) - 1) = ((ss.length - 1 : Nat) : Int) := by rw [IntKind.wrap_i64]; omega
  have hsb : ((ss.length : Int) - 1) = ((ss.length - 1 : Nat) : Int) := by omega
  have hml : ss.length - 1 < ss.length := by omega
  have hbw : b < w.heap.size := World.block_lt_of_cell? _ _ (HQ.out w (Frm.refl _ _))
  clear h hp
  have HBX := Lib.hid (fun W f => box4 w (.slice (some ⟨b, off, none⟩) ss.length c) (.int .i64 a) (.string s) (.int .i64 n) 40 W f)
  generalize ss.length - 1 = m at *
  generalize ss.length = l at *
  go_enter Tryz.func23, Tryz.ntmps23
  go_wp2_with (go_at_call 72; go_loud (refine (HP.out _ (Frm.alloc _ _ _)).mono ?_); rintro e w1 ⟨rfl, hw1⟩; obtain ⟨y0, y1, y2, y3⟩ := HBX.out w1 hw1; have q0 := HQ.out w1 ((Frm.alloc NoS _ _).then1 hw1); have hbl := World.block_lt_of_cell? _ _ y0; have HW1 := Lib.hid hw1; clear hw1)
  clear y0 y1 y2 y3 q0 hbl
  obtain ⟨α, hne, KK, hK1, hK0, hK2⟩ := worlds w1
  have kb := fun s => HBX.out (KK s) (HW1.out.then1 (hK1 s))
  have k0 := fun s => (kb s).1
  have k1 := fun s => (kb s).2.1
  have k2 := fun s => (kb s).2.2.1
  have k3 := fun s => (kb s).2.2.2
  have kq := fun s => HQ.out (KK s) ((Frm.alloc NoS _ _).then1 (HW1.out.then1 (hK1 s)))
  clear kb
  refine wp_region_new KK (by kernel_rfl) (by kernel_rfl) hK0 ?_
  repeat (go_big_quiet_step ((first | (go_at_call 74; exact Calls.in_class hK2 (HK.out _)) | (go_at_call 73; exact Calls.in_class hK2 (HACT.out _)))))
  refine wpQuiet_nil ?_
  intro w' hw'
  obtain ⟨s1, rfl⟩ := hw'
  have HW2 := Lib.hid (HW1.out.then1 (hK1 s1))
  clear k0 k1 k2 k3 kq hK0 hK2 hK1
  generalize KK s1 = w2 at *
  obtain ⟨y0, y1, y2, y3⟩ := HBX.out w2 HW2.out; have hbl := World.block_lt_of_cell? _ _ y0
  have hs : (s = ByteArray.empty) ∨ (0 < s.size ∧ s.toList.isEmpty = false ∧ ¬ s = ByteArray.empty) := by
    by_cases h : 0 < s.size
    · exact .inr ⟨h, str_full h, fun e => by rw [e] at h; exact absurd h (by decide)⟩
    · exact .inl (str_nil h)
  cases q with
  | false =>
    clear hs
    go_wp2
    go_ret
    refine ⟨_, rfl, ?_, (Frm.alloc NoS w _).then1 HW2.out⟩
    rw [HB.out]
    simp
  | true =>
    by_cases h3 : a = 3 ∨ a = 4
    · have hk : keyB s = decide (1 ≤ s.size ∧ s.size ≤ 30) := rfl
      rw [hk] at HKY
      by_cases hy : 1 ≤ s.size ∧ s.size ≤ 30
      · rw [decide_eq_true hy] at HKY
        clear hs hk
        rcases h3 with rfl | rfl
        · go_wp2_with (go_at_call 75; go_loud (refine (HKY.out _).mono ?_); rintro e w3 ⟨rfl, rfl⟩)
          all_goals
            go_ret
            refine ⟨_, rfl, ?_, (Frm.alloc NoS w _).then1 HW2.out⟩
            rw [HB.out, show txtB 3 s = true by unfold txtB; simp [hy], show cntB 3 n = (n == 0) from rfl]
            simp_all
        · go_wp2_with (go_at_call 75; go_loud (refine (HKY.out _).mono ?_); rintro e w3 ⟨rfl, rfl⟩)
          all_goals
            go_ret
            refine ⟨_, rfl, ?_, (Frm.alloc NoS w _).then1 HW2.out⟩
            rw [HB.out, show txtB 4 s = true by unfold txtB; simp [hy], show cntB 4 n = (n == 0) from rfl]
            simp_all
      · rw [decide_eq_false hy] at HKY
        clear hs hk
        rcases h3 with rfl | rfl
        · go_wp2_with (go_at_call 75; go_loud (refine (HKY.out _).mono ?_); rintro e w3 ⟨rfl, rfl⟩)
          go_ret
          refine ⟨_, rfl, ?_, (Frm.alloc NoS w _).then1 HW2.out⟩
          rw [HB.out, show txtB 3 s = false by unfold txtB; simp only [true_or, or_true, if_true]; exact decide_eq_false hy]
          simp
        · go_wp2_with (go_at_call 75; go_loud (refine (HKY.out _).mono ?_); rintro e w3 ⟨rfl, rfl⟩)
          go_ret
          refine ⟨_, rfl, ?_, (Frm.alloc NoS w _).then1 HW2.out⟩
          rw [HB.out, show txtB 4 s = false by unfold txtB; simp only [true_or, or_true, if_true]; exact decide_eq_false hy]
          simp
    · have a3 : (a == 3) = false := beq_false_of_ne (by omega)
      have a4 : (a == 4) = false := beq_false_of_ne (by omega)
      by_cases h6 : a = 6
      · subst h6
        by_cases hy : s.size ≤ 30
        · have hy2 : (s.size : Int) ≤ 30 := by omega
          clear hs
          go_wp2
          all_goals
            go_ret
            refine ⟨_, rfl, ?_, (Frm.alloc NoS w _).then1 HW2.out⟩
            rw [HB.out, show txtB 6 s = true by unfold txtB; simp [hy], show cntB 6 n = (n == 0) from rfl]
            simp_all
        · have hy2 : ¬ (s.size : Int) ≤ 30 := by omega
          clear hs
          go_wp2
          go_ret
          refine ⟨_, rfl, ?_, (Frm.alloc NoS w _).then1 HW2.out⟩
          rw [HB.out, show txtB 6 s = false by unfold txtB; simp; omega]
          simp
      · have a6 : (a == 6) = false := beq_false_of_ne h6
        have ht : txtB a s = decide (s.size = 0) := by unfold txtB; rw [if_neg h3, if_neg h6]
        rw [ht] at HB
        clear ht
        rcases hs with rfl | ⟨hs, hem, hne⟩
        · by_cases h5 : a = 5
          · subst h5
            have HN := Lib.hid (show cntB 5 n = decide (-1099511627776 ≤ n ∧ n ≤ 1099511627776) from rfl)
            go_wp2
            all_goals
              go_ret
              refine ⟨_, rfl, ?_, (Frm.alloc NoS w _).then1 HW2.out⟩
              rw [HB.out, HN.out]
              simp
              try omega
          · have a5 : (a == 5) = false := beq_false_of_ne h5
            have a5' : (a != 5) = true := by simp [bne, h5]
            have HN := Lib.hid (show cntB a n = (n == 0) by unfold cntB; rw [if_neg h5])
            go_wp2
            all_goals
              go_ret
              refine ⟨_, rfl, ?_, (Frm.alloc NoS w _).then1 HW2.out⟩
              rw [HB.out, HN.out]
              simp_all
        · go_wp2
          go_ret
          refine ⟨_, rfl, ?_, (Frm.alloc NoS w _).then1 HW2.out⟩
          rw [HB.out, show decide (s.size = 0) = false from decide_eq_false (by omega)]
          simp
end Go.Proofs.YtggfoihfenlckaaGreat