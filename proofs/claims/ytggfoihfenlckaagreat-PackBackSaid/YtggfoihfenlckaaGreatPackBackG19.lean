/- Words for the law PackBack: PackVec, PackOp, Put1, PutOp. -/
import Derived.Test.YtggfoihfenlckaaGreatPackBackG11
import Derived.Test.YtggfoihfenlckaaGreatPackBackG16
import Derived.Test.YtggfoihfenlckaaGreatPackBackG17
import Derived.Test.YtggfoihfenlckaaGreatPackBackG18
set_option linter.unusedSimpArgs false
set_option linter.unusedVariables false
/- pack: GetVector: the walk. Printed by wip/vecgen.py. -/
namespace Go.Proofs.YtggfoihfenlckaaGreat
open Go.RowKit
theorem four_set (w : World) (b : Nat) (u0 u1 u2 u3 : Value) : Frm (Only b) w ((((w.setCell ⟨b, 0, none⟩ u0).setCell ⟨b, 1, none⟩ u1).setCell ⟨b, 2, none⟩ u2).setCell ⟨b, 3, none⟩ u3) := ((two_set w b u0 u1).trans (only_set _ b 2 u2) fun _ _ h => h).trans (only_set _ b 3 u3) fun _ _ h => h
theorem four_cells {w : World} {b : Nat} {a0 a1 a2 a3 : Value} {T : TypeId} (h : w.heap[b]? = some (.cells #[a0, a1, a2, a3] T (0, 0))) (u0 u1 u2 u3 : Value) (W : World) (hW : W = (((w.setCell ⟨b, 0, none⟩ u0).setCell ⟨b, 1, none⟩ u1).setCell ⟨b, 2, none⟩ u2).setCell ⟨b, 3, none⟩ u3) :
    W.cell? ⟨b, 0, none⟩ = some u0 ∧ W.cell? ⟨b, 1, none⟩ = some u1 ∧ W.cell? ⟨b, 2, none⟩ = some u2 ∧ W.cell? ⟨b, 3, none⟩ = some u3 := by
  subst hW
  have g := set_at' (set_at' (set_at' (set_at' h 0 u0) 1 u1) 2 u2) 3 u3
  exact ⟨cell_at' g 0 rfl, cell_at' g 1 rfl, cell_at' g 2 rfl, cell_at' g 3 rfl⟩
/-- The In, the array that is filled, the result's block. -/
structure GV (w W : World) (ib : Nat) (t : Option (List UInt8)) (cs : Array Value) : Prop where
  ins : InSt W ib t
  arr : W.heap[w.heap.size + 1]? = some (.cells cs 42 (0, 0))
  res : W.heap[w.heap.size]? = some (.cells #[.int .i64 0, .int .i64 0, .int .i64 0, .int .i64 0] 42 (0, 0))
  frm : Frm (Only ib) w W
  hib : ib < w.heap.size
theorem GV.call {w W W1 : World} {ib : Nat} {t t' : Option (List UInt8)} {cs : Array Value} (h : GV w W ib t cs) (hi : InSt W1 ib t') (f : Frm (Only ib) W W1) : GV w W1 ib t' cs :=
  ⟨hi, f.blk h.arr fun e => (by have e : w.heap.size + 1 = ib := e; have := h.hib; omega), f.blk h.res fun e => (by have e : w.heap.size = ib := e; have := h.hib; omega), h.frm.trans f fun _ _ s => s, h.hib⟩
theorem GV.set {w W : World} {ib : Nat} {t : Option (List UInt8)} {cs : Array Value} (h : GV w W ib t cs) (j : Nat) (u : Value) : GV w (W.setCell ⟨w.heap.size + 1, j, none⟩ u) ib t (cs.setIfInBounds j u) :=
  have f := only_set W (w.heap.size + 1) j u
  ⟨h.ins.keep f fun k hk e => (by have e : k = w.heap.size + 1 := e; have := h.hib; omega), set_at' h.arr j u, f.blk h.res fun e => (by have e : w.heap.size = w.heap.size + 1 := e; omega), h.frm.trans f fun i hi e => (by have e : i = w.heap.size + 1 := e; omega), h.hib⟩
def VecTk (v0 v1 v2 v3 : Int) (s : Option (List UInt8)) (ib : Nat) (w : World) (e : Ending) (w' : World) : Prop :=
  e = .returned (.agg #[.int .i64 v0, .int .i64 v1, .int .i64 v2, .int .i64 v3]) ∧ InSt w' ib s ∧ Frm (Only ib) w w'
theorem GV.out {w W : World} {ib : Nat} {s : Option (List UInt8)} {cs : Array Value} (h : GV w W ib s cs) (v0 v1 v2 v3 : Int) (W' : World) (f : Frm (Only w.heap.size) W W') : VecTk v0 v1 v2 v3 s ib w (.returned (.agg #[.int .i64 v0, .int .i64 v1, .int .i64 v2, .int .i64 v3])) W' :=
  ⟨rfl, h.ins.keep f fun k hk e => (by have e : k = w.heap.size := e; have := h.hib; omega), h.frm.trans f fun i hi e => (by have e : i = w.heap.size := e; omega)⟩
set_option maxHeartbeats 4000000 in
set_option maxRecDepth 1000000 in
theorem pGetVector_at (ib : Nat) (st s : Option (List UInt8)) (u0 u1 u2 u3 : Int) (w : World) (hc : VecRes st u0 u1 u2 u3 s) (h : InSt w ib st) :
    Calls Tryz.prog 33 #[.pointer (some ⟨ib, 0, none⟩)] w (VecTk u0 u1 u2 u3 s ib w) := by
  obtain ⟨v0, v1, v2, v3, t1, t2, t3, t4, g0, g1, g2, g3⟩ := V4.total 1099511627776 st
  have HV4 := Lib.hid (show V4 1099511627776 st v0 v1 v2 v3 t4 from ⟨t1, t2, t3, g0, g1, g2, g3⟩)
  have HC := Lib.hid hc; clear hc
  have HG0 := Lib.hid g0
  have HG1 := Lib.hid g1
  have HG2 := Lib.hid g2
  have HG3 := Lib.hid g3
  have HFU := Lib.hid (fun W => cFull_any W v0 v1 v2 v3)
  unfold vecV at HFU
  clear g0 g1 g2 g3
  have hb1 := heap_alloc_new (w.alloc (.cells #[.int .i64 0, .int .i64 0, .int .i64 0, .int .i64 0] 42)) (.cells #[.int .i64 0, .int .i64 0, .int .i64 0, .int .i64 0] 42)
  rw [show (w.alloc (.cells #[.int .i64 0, .int .i64 0, .int .i64 0, .int .i64 0] 42)).heap.size = w.heap.size + 1 by simp] at hb1
  have HST := Lib.hid (show GV w ((w.alloc (.cells #[.int .i64 0, .int .i64 0, .int .i64 0, .int .i64 0] 42)).alloc (.cells #[.int .i64 0, .int .i64 0, .int .i64 0, .int .i64 0] 42)) ib st #[.int .i64 0, .int .i64 0, .int .i64 0, .int .i64 0] from
    ⟨(h.keep (Frm.alloc NoS _ _) fun _ _ => id).keep (Frm.alloc NoS _ _) fun _ _ => id, hb1, (Frm.alloc NoS _ _).blk (heap_alloc_new w _) id, ((Frm.alloc NoS w _).alloc1).mono fun _ _ s => s.elim, h.lt⟩)
  clear h hb1
  go_enter Tryz.func33, Tryz.ntmps33
  go_wp2
  go_loopw [7] (fun j W => ∃ (J : Nat) (x0 x1 x2 x3 : Int) (t : Option (List UInt8)), ((J = 0 ∧ x0 = 0 ∧ x1 = 0 ∧ x2 = 0 ∧ x3 = 0 ∧ t = st) ∨ (J = 1 ∧ x0 = v0 ∧ x1 = 0 ∧ x2 = 0 ∧ x3 = 0 ∧ t = t1) ∨ (J = 2 ∧ x0 = v0 ∧ x1 = v1 ∧ x2 = 0 ∧ x3 = 0 ∧ t = t2) ∨ (J = 3 ∧ x0 = v0 ∧ x1 = v1 ∧ x2 = v2 ∧ x3 = 0 ∧ t = t3) ∨ (J = 4 ∧ x0 = v0 ∧ x1 = v1 ∧ x2 = v2 ∧ x3 = v3 ∧ t = t4)) ∧ j = .int .i64 J ∧ GV w W ib t #[.int .i64 x0, .int .i64 x1, .int .i64 x2, .int .i64 x3]) (fun j _ => 4 - (intOf j).toNat)
  case atStart => exact ⟨0, 0, 0, 0, 0, st, .inl ⟨rfl, rfl, rfl, rfl, rfl, rfl⟩, rfl, HST.out⟩
  case round =>
    obtain ⟨J, x0, x1, x2, x3, t, hcase, rfl, hs⟩ := hrel
    rcases hcase with ⟨rfl, rfl, rfl, rfl, rfl, rfl⟩ | ⟨rfl, rfl, rfl, rfl, rfl, rfl⟩ | ⟨rfl, rfl, rfl, rfl, rfl, rfl⟩ | ⟨rfl, rfl, rfl, rfl, rfl, rfl⟩ | ⟨rfl, rfl, rfl, rfl, rfl, rfl⟩
    · have HC1 := Lib.hid (inum_at ib _ 1099511627776 _ _ wr hs.ins HG0.out (by omega) (by omega))
      have HS := Lib.hid hs; clear hs
      go_wp2_with (go_at_call 77; refine HC1.out.mono ?_; rintro e W1 ⟨rfl, hi5, hf5⟩; have z8 := free_at' (HS.out.call hi5 hf5).arr 0; have z9 := cell_at' (HS.out.call hi5 hf5).arr 0 rfl; have z7 := lt_of_block (HS.out.call hi5 hf5).arr; have HN := Lib.hid (fun u => (HS.out.call hi5 hf5).set 0 u); clear hi5 hf5)
      go_roundw
      case rel => exact ⟨1, _, _, _, _, _, .inr (.inl ⟨rfl, rfl, rfl, rfl, rfl, rfl⟩), by go_num, HN.out _⟩
      case measure => simp [intOf]
    · have HC1 := Lib.hid (inum_at ib _ 1099511627776 _ _ wr hs.ins HG1.out (by omega) (by omega))
      have HS := Lib.hid hs; clear hs
      go_wp2_with (go_at_call 77; refine HC1.out.mono ?_; rintro e W1 ⟨rfl, hi5, hf5⟩; have z8 := free_at' (HS.out.call hi5 hf5).arr 1; have z9 := cell_at' (HS.out.call hi5 hf5).arr 1 rfl; have z7 := lt_of_block (HS.out.call hi5 hf5).arr; have HN := Lib.hid (fun u => (HS.out.call hi5 hf5).set 1 u); clear hi5 hf5)
      go_roundw
      case rel => exact ⟨2, _, _, _, _, _, .inr (.inr (.inl ⟨rfl, rfl, rfl, rfl, rfl, rfl⟩)), by go_num, HN.out _⟩
      case measure => simp [intOf]
    · have HC1 := Lib.hid (inum_at ib _ 1099511627776 _ _ wr hs.ins HG2.out (by omega) (by omega))
      have HS := Lib.hid hs; clear hs
      go_wp2_with (go_at_call 77; refine HC1.out.mono ?_; rintro e W1 ⟨rfl, hi5, hf5⟩; have z8 := free_at' (HS.out.call hi5 hf5).arr 2; have z9 := cell_at' (HS.out.call hi5 hf5).arr 2 rfl; have z7 := lt_of_block (HS.out.call hi5 hf5).arr; have HN := Lib.hid (fun u => (HS.out.call hi5 hf5).set 2 u); clear hi5 hf5)
      go_roundw
      case rel => exact ⟨3, _, _, _, _, _, .inr (.inr (.inr (.inl ⟨rfl, rfl, rfl, rfl, rfl, rfl⟩))), by go_num, HN.out _⟩
      case measure => simp [intOf]
    · have HC1 := Lib.hid (inum_at ib _ 1099511627776 _ _ wr hs.ins HG3.out (by omega) (by omega))
      have HS := Lib.hid hs; clear hs
      go_wp2_with (go_at_call 77; refine HC1.out.mono ?_; rintro e W1 ⟨rfl, hi5, hf5⟩; have z8 := free_at' (HS.out.call hi5 hf5).arr 3; have z9 := cell_at' (HS.out.call hi5 hf5).arr 3 rfl; have z7 := lt_of_block (HS.out.call hi5 hf5).arr; have HN := Lib.hid (fun u => (HS.out.call hi5 hf5).set 3 u); clear hi5 hf5)
      go_roundw
      case rel => exact ⟨4, _, _, _, _, _, .inr (.inr (.inr (.inr (⟨rfl, rfl, rfl, rfl, rfl, rfl⟩)))), by go_num, HN.out _⟩
      case measure => simp [intOf]
    · have HS := Lib.hid hs; clear hs
      have z0 : wr.cell? ⟨w.heap.size + 1, 0, none⟩ = some (.int .i64 x0) := cell_at' HS.out.arr 0 rfl
      have z1 : wr.cell? ⟨w.heap.size + 1, 1, none⟩ = some (.int .i64 x1) := cell_at' HS.out.arr 1 rfl
      have z2 : wr.cell? ⟨w.heap.size + 1, 2, none⟩ = some (.int .i64 x2) := cell_at' HS.out.arr 2 rfl
      have z3 : wr.cell? ⟨w.heap.size + 1, 3, none⟩ = some (.int .i64 x3) := cell_at' HS.out.arr 3 rfl
      have zl := lt_of_block HS.out.arr
      cases t with
      | none =>
        obtain ⟨⟨rfl, rfl, rfl, rfl⟩, rfl⟩ := HC.out.det (vec_bad (by decide) (by decide) HV4.out (.inl rfl))
        by_cases hmay : MayV (vecF x0 x1 x2 x3)
        · have HMAY := Lib.hid hmay; clear hmay
          go_wp2_with (first
            | (go_at_call 85; go_loud (refine (HFU.out _).mono ?_); rintro e w2 ⟨hf2, hfy, -⟩; obtain ⟨v', he, hown, -⟩ := hfy HMAY.out; subst he; obtain ⟨aF, cF, rfl⟩ := hown.rd.sl; clear hown hfy
               have HS2 := Lib.hid (HS.out.call (HS.out.ins.keep hf2 fun _ _ => id) (hf2.mono fun _ _ s => s.elim))
               clear z0 z1 z2 z3 zl hf2
               generalize (fullL (vecF x0 x1 x2 x3)).length = nF at *
               have z0 : w2.cell? ⟨w.heap.size + 1, 0, none⟩ = some (.int .i64 x0) := cell_at' HS2.out.arr 0 rfl
               have z1 : w2.cell? ⟨w.heap.size + 1, 1, none⟩ = some (.int .i64 x1) := cell_at' HS2.out.arr 1 rfl
               have z2 : w2.cell? ⟨w.heap.size + 1, 2, none⟩ = some (.int .i64 x2) := cell_at' HS2.out.arr 2 rfl
               have z3 : w2.cell? ⟨w.heap.size + 1, 3, none⟩ = some (.int .i64 x3) := cell_at' HS2.out.arr 3 rfl
               have zl := lt_of_block HS2.out.arr
               have y0 := cell_at' HS2.out.res 0 rfl
               have y1 := cell_at' HS2.out.res 1 rfl
               have y2 := cell_at' HS2.out.res 2 rfl
               have y3 := cell_at' HS2.out.res 3 rfl
               have f0 := free_at' HS2.out.res 0
               have f1 := free_at' HS2.out.res 1
               have f2 := free_at' HS2.out.res 2
               have f3 := free_at' HS2.out.res 3
               have hl2 := lt_of_block HS2.out.res)
            | (go_at_call 17; refine (bad_go ib _ _ HS2.out.ins).mono ?_; rintro e w3 ⟨rfl, rfl⟩)
            | (go_at_call 79; obtain ⟨a, c, hh⟩ := HS2.out.ins.heap; refine (fail_go ib _ _ _ hh).mono ?_; rintro e w4 ⟨rfl, hi4, hf4⟩
               have HS4 := Lib.hid (HS2.out.call (show InSt w4 ib none from hi4) hf4)
               clear y0 y1 y2 y3 f0 f1 f2 f3 hl2 z0 z1 z2 z3 zl hi4 hf4 hh
               have y0 := cell_at' HS4.out.res 0 rfl
               have y1 := cell_at' HS4.out.res 1 rfl
               have y2 := cell_at' HS4.out.res 2 rfl
               have y3 := cell_at' HS4.out.res 3 rfl
               have f0 := free_at' HS4.out.res 0
               have f1 := free_at' HS4.out.res 1
               have f2 := free_at' HS4.out.res 2
               have f3 := free_at' HS4.out.res 3
               have hl2 := lt_of_block HS4.out.res))
          clear y0 y1 y2 y3 f0 f1 f2 f3 hl2
          obtain ⟨y0, y1, y2, y3⟩ := four_cells HS4.out.res (.int .i64 0) (.int .i64 0) (.int .i64 0) (.int .i64 0) _ rfl
          exact bodyPost_ret (v := .agg #[.int .i64 0, .int .i64 0, .int .i64 0, .int .i64 0]) (by simp [results, Tryz.results33, go_sem, y0, y1, y2, y3]) rfl (HS4.out.out 0 0 0 0 _ (four_set w4 _ _ _ _ _))
        · have HMAY := Lib.hid hmay; clear hmay
          go_wp2_with (first
            | (go_at_call 85; go_loud (refine (HFU.out _).mono ?_); rintro e w2 ⟨hf2, -, hfn⟩; have he := hfn HMAY.out; subst he; clear hfn
               have HS2 := Lib.hid (HS.out.call (HS.out.ins.keep hf2 fun _ _ => id) (hf2.mono fun _ _ s => s.elim))
               clear z0 z1 z2 z3 zl hf2)
            | (go_at_call 17; refine (bad_go ib _ _ HS2.out.ins).mono ?_; rintro e w3 ⟨rfl, rfl⟩)
            | (go_at_call 79; obtain ⟨a, c, hh⟩ := HS2.out.ins.heap; refine (fail_go ib _ _ _ hh).mono ?_; rintro e w4 ⟨rfl, hi4, hf4⟩
               have HS4 := Lib.hid (HS2.out.call (show InSt w4 ib none from hi4) hf4)
               clear hi4 hf4 hh
               have y0 := cell_at' HS4.out.res 0 rfl
               have y1 := cell_at' HS4.out.res 1 rfl
               have y2 := cell_at' HS4.out.res 2 rfl
               have y3 := cell_at' HS4.out.res 3 rfl
               have f0 := free_at' HS4.out.res 0
               have f1 := free_at' HS4.out.res 1
               have f2 := free_at' HS4.out.res 2
               have f3 := free_at' HS4.out.res 3
               have hl2 := lt_of_block HS4.out.res))
          clear y0 y1 y2 y3 f0 f1 f2 f3 hl2
          obtain ⟨y0, y1, y2, y3⟩ := four_cells HS4.out.res (.int .i64 0) (.int .i64 0) (.int .i64 0) (.int .i64 0) _ rfl
          exact bodyPost_ret (v := .agg #[.int .i64 0, .int .i64 0, .int .i64 0, .int .i64 0]) (by simp [results, Tryz.results33, go_sem, y0, y1, y2, y3]) rfl (HS4.out.out 0 0 0 0 _ (four_set w4 _ _ _ _ _))
      | some r =>
        by_cases hmay : MayV (vecF x0 x1 x2 x3)
        · obtain ⟨⟨rfl, rfl, rfl, rfl⟩, rfl⟩ := HC.out.det (vec_good HV4.out hmay)
          have HMAY := Lib.hid hmay; clear hmay
          go_wp2_with (first
            | (go_at_call 85; go_loud (refine (HFU.out _).mono ?_); rintro e w2 ⟨hf2, hfy, -⟩; obtain ⟨v', he, hown, -⟩ := hfy HMAY.out; subst he; obtain ⟨aF, cF, rfl⟩ := hown.rd.sl; clear hown hfy
               have HS2 := Lib.hid (HS.out.call (HS.out.ins.keep hf2 fun _ _ => id) (hf2.mono fun _ _ s => s.elim))
               clear z0 z1 z2 z3 zl hf2
               generalize (fullL (vecF u0 u1 u2 u3)).length = nF at *
               have z0 : w2.cell? ⟨w.heap.size + 1, 0, none⟩ = some (.int .i64 u0) := cell_at' HS2.out.arr 0 rfl
               have z1 : w2.cell? ⟨w.heap.size + 1, 1, none⟩ = some (.int .i64 u1) := cell_at' HS2.out.arr 1 rfl
               have z2 : w2.cell? ⟨w.heap.size + 1, 2, none⟩ = some (.int .i64 u2) := cell_at' HS2.out.arr 2 rfl
               have z3 : w2.cell? ⟨w.heap.size + 1, 3, none⟩ = some (.int .i64 u3) := cell_at' HS2.out.arr 3 rfl
               have zl := lt_of_block HS2.out.arr
               have y0 := cell_at' HS2.out.res 0 rfl
               have y1 := cell_at' HS2.out.res 1 rfl
               have y2 := cell_at' HS2.out.res 2 rfl
               have y3 := cell_at' HS2.out.res 3 rfl
               have f0 := free_at' HS2.out.res 0
               have f1 := free_at' HS2.out.res 1
               have f2 := free_at' HS2.out.res 2
               have f3 := free_at' HS2.out.res 3
               have hl2 := lt_of_block HS2.out.res)
            | (go_at_call 17; refine (bad_go ib _ _ HS2.out.ins).mono ?_; rintro e w3 ⟨rfl, rfl⟩))
          clear y0 y1 y2 y3 f0 f1 f2 f3 hl2 z0 z1 z2 z3 zl
          obtain ⟨y0, y1, y2, y3⟩ := four_cells HS2.out.res (.int .i64 u0) (.int .i64 u1) (.int .i64 u2) (.int .i64 u3) _ rfl
          exact bodyPost_ret (v := .agg #[.int .i64 u0, .int .i64 u1, .int .i64 u2, .int .i64 u3]) (by simp [results, Tryz.results33, go_sem, y0, y1, y2, y3]) rfl (HS2.out.out u0 u1 u2 u3 _ (four_set w2 _ _ _ _ _))
        · obtain ⟨⟨rfl, rfl, rfl, rfl⟩, rfl⟩ := HC.out.det (vec_bad (by decide) (by decide) HV4.out (.inr hmay))
          have HMAY := Lib.hid hmay; clear hmay
          go_wp2_with (first
            | (go_at_call 85; go_loud (refine (HFU.out _).mono ?_); rintro e w2 ⟨hf2, -, hfn⟩; have he := hfn HMAY.out; subst he; clear hfn
               have HS2 := Lib.hid (HS.out.call (HS.out.ins.keep hf2 fun _ _ => id) (hf2.mono fun _ _ s => s.elim))
               clear z0 z1 z2 z3 zl hf2)
            | (go_at_call 17; refine (bad_go ib _ _ HS2.out.ins).mono ?_; rintro e w3 ⟨rfl, rfl⟩)
            | (go_at_call 79; obtain ⟨a, c, hh⟩ := HS2.out.ins.heap; refine (fail_go ib _ _ _ hh).mono ?_; rintro e w4 ⟨rfl, hi4, hf4⟩
               have HS4 := Lib.hid (HS2.out.call (show InSt w4 ib none from hi4) hf4)
               clear hi4 hf4 hh
               have y0 := cell_at' HS4.out.res 0 rfl
               have y1 := cell_at' HS4.out.res 1 rfl
               have y2 := cell_at' HS4.out.res 2 rfl
               have y3 := cell_at' HS4.out.res 3 rfl
               have f0 := free_at' HS4.out.res 0
               have f1 := free_at' HS4.out.res 1
               have f2 := free_at' HS4.out.res 2
               have f3 := free_at' HS4.out.res 3
               have hl2 := lt_of_block HS4.out.res))
          clear y0 y1 y2 y3 f0 f1 f2 f3 hl2
          obtain ⟨y0, y1, y2, y3⟩ := four_cells HS4.out.res (.int .i64 0) (.int .i64 0) (.int .i64 0) (.int .i64 0) _ rfl
          exact bodyPost_ret (v := .agg #[.int .i64 0, .int .i64 0, .int .i64 0, .int .i64 0]) (by simp [results, Tryz.results33, go_sem, y0, y1, y2, y3]) rfl (HS4.out.out 0 0 0 0 _ (four_set w4 _ _ _ _ _))
end Go.Proofs.YtggfoihfenlckaaGreat
/- pack: GetOp: the walk. Printed by wip/getopgen.py. -/
namespace Go.Proofs.YtggfoihfenlckaaGreat
open Go.RowKit
theorem info_str : (Tryz.prog.info? 9).map (fun i => (i.zero, i.size, i.bytes)) = some (some (.string ByteArray.empty), 1, 16) := by kernel_rfl
/-- The In, the change that is filled, the result's block. -/
structure GO (w W : World) (ib : Nat) (t : Option (List UInt8)) (pv : Value) (ss : List ByteArray) (a : Int) (s : ByteArray) (n : Int) : Prop where
  ins : InSt W ib t
  arr : W.heap[w.heap.size + 1]? = some (.cells #[pv, .int .i64 a, .string s, .int .i64 n] 40 (0, 0))
  res : W.heap[w.heap.size]? = some (.cells #[.slice none 0 0, .int .i64 0, .string ByteArray.empty, .int .i64 0] 40 (0, 0))
  own : W.ownsRow 0 9 1 pv ss.length (ss.map Value.string)
  apart : ∀ b, pv.ownBlock = some b → w.heap.size + 1 < b
  frm : Frm (Only ib) w W
  hib : ib < w.heap.size
section
variable {w W W1 w6 : World} {ib : Nat} {t t' : Option (List UInt8)} {pv pv' : Value} {ss : List ByteArray} {a n : Int} {s : ByteArray}
theorem GO.call (h : GO w W ib t pv ss a s n) (hi : InSt W1 ib t') (f : Frm (Only ib) W W1) : GO w W1 ib t' pv ss a s n :=
  ⟨hi, f.blk h.arr fun e => (by have e : w.heap.size + 1 = ib := e; have := h.hib; omega), f.blk h.res fun e => (by have e : w.heap.size = ib := e; have := h.hib; omega), f.owns h.own fun b hb e => (by have e : b = ib := e; have := h.apart b hb; have := h.hib; omega), h.apart, h.frm.trans f fun _ _ s => s, h.hib⟩
theorem GO.keep0 (h : GO w W ib t pv ss a s n) (f : Frm NoS W W1) : GO w W1 ib t pv ss a s n := h.call (h.ins.keep f fun _ _ => id) (f.mono fun _ _ s => s.elim)
theorem GO.put (h : GO w W ib t pv ss a s n) {x : ByteArray} (own : w6.ownsRow 0 9 1 pv' (ss.length + 1) (ss.map Value.string ++ [.string x])) (fm : Frm (RowS pv) W w6) (fr : Fresh W pv pv') : GO w (w6.setCell ⟨w.heap.size + 1, 0, none⟩ pv') ib t pv' (ss ++ [x]) a s n := by
  have f2 := only_set w6 (w.heap.size + 1) 0 pv'
  have hl := lt_of_block h.arr
  have ap : ∀ b, pv'.ownBlock = some b → w.heap.size + 1 < b := fun b hb => by
    rcases fr b hb with e | e
    · exact h.apart b e
    · omega
  have n1 : ¬ RowS pv (w.heap.size + 1) := fun e => Nat.lt_irrefl _ (h.apart _ e)
  have n0 : ¬ RowS pv w.heap.size := fun e => by have := h.apart _ e; omega
  refine ⟨(h.ins.keep fm fun k hk e => ?_).keep f2 fun k hk e => ?_, set_at' (fm.blk h.arr n1) 0 pv', f2.blk (fm.blk h.res n0) fun e => ?_, ?_, ap, (h.frm.trans fm fun i hi e => ?_).trans f2 fun i hi e => ?_, h.hib⟩
  · have := h.apart k e; have := h.hib; omega
  · have e : k = w.heap.size + 1 := e; have := h.hib; omega
  · have e : w.heap.size = w.heap.size + 1 := e; omega
  · rw [List.length_append, List.map_append]
    exact f2.owns own fun b hb e => by have e : b = w.heap.size + 1 := e; have := ap b hb; omega
  · have := h.apart i e; omega
  · have e : i = w.heap.size + 1 := e; omega
theorem GO.fill (h : GO w W ib t pv ss 0 ByteArray.empty 0) (a : Int) (s : ByteArray) (n : Int) : GO w (((W.setCell ⟨w.heap.size + 1, 1, none⟩ (.int .i64 a)).setCell ⟨w.heap.size + 1, 2, none⟩ (.string s)).setCell ⟨w.heap.size + 1, 3, none⟩ (.int .i64 n)) ib t pv ss a s n := by
  have f : Frm (Only (w.heap.size + 1)) W (((W.setCell ⟨w.heap.size + 1, 1, none⟩ (.int .i64 a)).setCell ⟨w.heap.size + 1, 2, none⟩ (.string s)).setCell ⟨w.heap.size + 1, 3, none⟩ (.int .i64 n)) := ((only_set W _ 1 _).trans (only_set _ _ 2 _) fun _ _ h => h).trans (only_set _ _ 3 _) fun _ _ h => h
  refine ⟨h.ins.keep f fun k hk e => ?_, set_at' (set_at' (set_at' h.arr 1 _) 2 _) 3 _, f.blk h.res fun e => ?_, f.owns h.own fun b hb e => ?_, h.apart, h.frm.trans f fun i hi e => ?_, h.hib⟩
  · have e : k = w.heap.size + 1 := e; have := h.hib; omega
  · have e : w.heap.size = w.heap.size + 1 := e; omega
  · have e : b = w.heap.size + 1 := e; have := h.apart b hb; omega
  · have e : i = w.heap.size + 1 := e; omega
end
/-- Strings in blocks with Q. -/
def StrsQ (Q : Nat → Prop) (w : World) (v : Value) (ss : List ByteArray) : Prop := RdQ Q w v ss.length (ss.map Value.string)
def OpTk (ss : List ByteArray) (a : Int) (s : ByteArray) (n : Int) (t : Option (List UInt8)) (ib : Nat) (w : World) (e : Ending) (w' : World) : Prop :=
  ∃ pv, e = .returned (.agg #[pv, .int .i64 a, .string s, .int .i64 n]) ∧ StrsQ (fun b => w.heap.size ≤ b) w' pv ss ∧ InSt w' ib t ∧ Frm (Only ib) w w'
theorem GO.out {w W : World} {ib : Nat} {t : Option (List UInt8)} {pv : Value} {ss : List ByteArray} {a n : Int} {s : ByteArray} (h : GO w W ib t pv ss a s n) (W' : World) (f : Frm (Only w.heap.size) W W') : OpTk ss a s n t ib w (.returned (.agg #[pv, .int .i64 a, .string s, .int .i64 n])) W' :=
  ⟨pv, rfl, ⟨Rd.own (f.owns h.own fun b hb e => (by have e : b = w.heap.size := e; have := h.apart b hb; omega)), fun _ b hb => (by have := h.apart b hb; omega)⟩, h.ins.keep f fun k hk e => (by have e : k = w.heap.size := e; have := h.hib; omega), h.frm.trans f fun i hi e => (by have e : i = w.heap.size := e; omega)⟩
theorem GO.outZ {w W : World} {ib : Nat} {t : Option (List UInt8)} {pv : Value} {ss : List ByteArray} {a n : Int} {s : ByteArray} (h : GO w W ib t pv ss a s n) (W' : World) (f : Frm (Only w.heap.size) W W') : OpTk [] 0 ByteArray.empty 0 t ib w (.returned (.agg #[.slice none 0 0, .int .i64 0, .string ByteArray.empty, .int .i64 0])) W' :=
  ⟨_, rfl, ⟨.inl ⟨none, rfl, rfl, rfl⟩, fun h => absurd rfl h⟩, h.ins.keep f fun k hk e => (by have e : k = w.heap.size := e; have := h.hib; omega), h.frm.trans f fun i hi e => (by have e : i = w.heap.size := e; omega)⟩
set_option maxHeartbeats 8000000 in
set_option maxRecDepth 1000000 in
theorem pGetOp_at (ib : Nat) (st t : Option (List UInt8)) (ss : List ByteArray) (a n : Int) (s : ByteArray) (w : World) (hc : OpRes st ss a s n t) (h : InSt w ib st) (hl : (leftOf st).length ≤ 60000) :
    Calls Tryz.prog 32 #[.pointer (some ⟨ib, 0, none⟩)] w (OpTk ss a s n t ib w) := by
  obtain ⟨i0, hi, hz0, hz1, hz2⟩ := info_parts info_str
  have HC := Lib.hid hc; clear hc
  have HL := Lib.hid hl; clear hl
  have hb1 := heap_alloc_new (w.alloc (.cells #[.slice none 0 0, .int .i64 0, .string ByteArray.empty, .int .i64 0] 40)) (.cells #[.slice none 0 0, .int .i64 0, .string ByteArray.empty, .int .i64 0] 40)
  rw [show (w.alloc (.cells #[.slice none 0 0, .int .i64 0, .string ByteArray.empty, .int .i64 0] 40)).heap.size = w.heap.size + 1 by simp] at hb1
  obtain ⟨WB, hWB⟩ : ∃ W, W = (w.alloc (.cells #[.slice none 0 0, .int .i64 0, .string ByteArray.empty, .int .i64 0] 40)).alloc (.cells #[.slice none 0 0, .int .i64 0, .string ByteArray.empty, .int .i64 0] 40) := ⟨_, rfl⟩
  have hst : GO w WB ib st (.slice none 0 0) [] 0 ByteArray.empty 0 := by
    rw [hWB]
    exact ⟨(h.keep (Frm.alloc NoS _ _) fun _ _ => id).keep (Frm.alloc NoS _ _) fun _ _ => id, hb1, (Frm.alloc NoS _ _).blk (heap_alloc_new w _) id, World.ownsRow_nil _ 0 _ 1, (fun b hb => by simp [Value.ownBlock] at hb), ((Frm.alloc NoS w _).alloc1).mono fun _ _ s => s.elim, h.lt⟩
  have HST := Lib.hid hst; clear hst
  have HWB := Lib.hid hWB; clear hWB
  clear h hb1
  go_enter Tryz.func32, Tryz.ntmps32
  go_wp2_with (go_at_call 76; rw [show (w.alloc (.cells #[.slice none 0 0, .int .i64 0, .string ⟨#[]⟩, .int .i64 0] 40)).alloc (.cells #[.slice none 0 0, .int .i64 0, .string ⟨#[]⟩, .int .i64 0] 40) = WB from HWB.out.symm]; go_loud (refine (pcount_any ib st WB HST.out.ins).mono ?_); rintro e w1 ⟨n1, s1, rfl, hc1, hi1, hf1⟩; have hn6 : n1 ≤ 60000 := by { have := hc1.left; have := HL.out; omega }; have HL1 := Lib.hid (Nat.le_trans hc1.less HL.out); have HC1 := Lib.hid hc1; have HG1 := Lib.hid (HST.out.call hi1 hf1); clear hc1 hi1 hf1)
  go_loopw [6] (fun i W => ∃ (k : Nat) (ps : List ByteArray) (t : Option (List UInt8)) (pv : Value), k ≤ n1 ∧ i = .int .i64 k ∧ TxtRun 30 s1 k ps t ∧ (leftOf t).length ≤ 60000 ∧ GO w W ib t pv ps 0 ByteArray.empty 0) (fun i _ => n1 - (intOf i).toNat)
  case atStart => exact ⟨0, [], s1, _, Nat.zero_le _, rfl, .zero, HL1.out, HG1.out⟩
  case round =>
    clear HG1
    obtain ⟨k, ps, t0, pv, hk, rfl, hrun, hlt0, hg⟩ := hrel
    have hlen : ps.length = k := hrun.len
    have HRUN := Lib.hid hrun; clear hrun
    have HLT := Lib.hid hlt0; clear hlt0
    obtain ⟨aV, cV, rfl⟩ := (Rd.own hg.own).sl
    rw [hlen] at hg
    have HG := Lib.hid hg; clear hg
    by_cases hlt : k < n1
    · obtain ⟨x, t1, g1⟩ := TextStep.total t0 30
      have HT1 := Lib.hid g1; clear g1
      have HLT1 := Lib.hid (Nat.le_trans HT1.out.left HLT.out)
      have hni : ¬ Only ib (w.heap.size + 1) := fun h => by have h : w.heap.size + 1 = ib := h; have := HG.out.hib; omega
      have HNI := Lib.hid hni; clear hni
      go_wp2_with fail
      have HGD := Lib.hid (HG.out.keep0 (Frm.drew NoS wr))
      refine wp_region_G (S := fun w' => w'.cell? ⟨w.heap.size + 1, 0, none⟩ = some (.slice aV k cV)) 7 (by kernel_rfl) (cell_at' HGD.out.arr 0 rfl) ?_
      intro hS
      generalize wr.drew = Y0 at *
      refine take_opG 0 8 (v := ?_) rfl rfl (by kernel_rfl) (by kernel_rfl) (by decide) (by kernel_rfl) (by kernel_rfl) (fun _ _ _ h => h) (Or.inl ⟨by rfl, ?_⟩) (by assumption) ?_
      rotate_left 1
      · (intro w hSw; (try dsimp only at hSw); go_simp; (try with_reducible rfl))
      try simp only [Act.put, List.setIfInBounds_toArray, List.set_cons_zero, List.set_cons_succ]
      refine take_opG 1 9 (v := ?_) rfl rfl (by kernel_rfl) (by kernel_rfl) (by decide) (by kernel_rfl) (by kernel_rfl) (fun _ _ _ h => h) (Or.inl ⟨by rfl, ?_⟩) (by assumption) ?_
      rotate_left 1
      · (intro w hSw; (try dsimp only at hSw); go_simp; (try with_reducible rfl))
      try simp only [Act.put, List.setIfInBounds_toArray, List.set_cons_zero, List.set_cons_succ]
      refine take_opG 2 10 (v := ?_) rfl rfl (by kernel_rfl) (by kernel_rfl) (by decide) (by kernel_rfl) (by kernel_rfl) (fun _ _ _ h => h) (Or.inl ⟨by rfl, ?_⟩) (by assumption) ?_
      rotate_left 1
      · (intro w hSw; (try dsimp only at hSw); go_simp; (try with_reducible rfl))
      try simp only [Act.put, List.setIfInBounds_toArray, List.set_cons_zero, List.set_cons_succ]
      refine one_opG (i := 3) (by kernel_rfl) rfl (fun K hK => ?_)
      go_simp
      refine (itext_at ib t0 30 x t1 _ HGD.out.ins HT1.out (by omega) (by omega)).mono ?_
      rintro e1 Y1 ⟨rfl, hi5, hf5⟩
      have hS1 : Y1.cell? ⟨w.heap.size + 1, 0, none⟩ = some (.slice aV k cV) := hf5.cell' hS HNI.out
      refine hK.out _ _ hS1 ?_
      clear hK K hS
      have HG5 := Lib.hid (HGD.out.call hi5 hf5)
      clear hi5 hf5
      try simp only [Act.put, List.setIfInBounds_toArray, List.set_cons_zero, List.set_cons_succ]
      refine one_opG (i := 4) (by kernel_rfl) rfl (fun K hK => ?_)
      go_simp
      have hS2 : (Y1.alloc (.cells #[.string x] 9)).cell? ⟨w.heap.size + 1, 0, none⟩ = some (.slice aV k cV) := (Frm.alloc NoS Y1 _).cell' hS1 id
      refine hK.out _ _ hS2 ?_
      clear hK K
      try simp only [Act.put, List.setIfInBounds_toArray, List.set_cons_zero, List.set_cons_succ]
      refine one_opG (i := 5) (by kernel_rfl) rfl (fun K hK => ?_)
      refine stp_app1 Y1 [.string x] rfl (.tmp 9) (.tmp 12) 38 rfl 9 i0 _ 1 16 Tryz.underlying38 hi hz0 hz1 hz2 (by decide) (by decide) (.slice aV k cV) k _ (by have h := HG5.out.own; rw [hlen] at h; exact h) 1 1 (by simp [Act.eval]) (by simp [Act.eval]) rfl (by simp [Value.oneCell']) (by simp only [maxLen]; omega) (by omega) ?_
      intro ad cc w6 own6 fm6 fr6
      have hn1 : ¬ RowS (.slice aV k cV) (w.heap.size + 1) := fun e => Nat.lt_irrefl _ (HG5.out.apart _ e)
      have hb6 := fm6.blk HG5.out.arr hn1
      have hrow : w6.cell? ⟨w.heap.size + 1, 0, none⟩ = some (.slice aV k cV) := cell_at' hb6 0 rfl
      have hcf := free_at' hb6 0
      have hlt6 := lt_of_block hb6
      have HG6 := Lib.hid (HG5.out.put (x := x) (pv' := .slice ad (k + 1) cc) (by rw [hlen]; exact own6) fm6 fr6)
      refine hK.out _ _ hrow ?_
      clear hK K own6 fm6 fr6 hn1 hb6 hS1 hS2
      try simp only [Act.put, List.setIfInBounds_toArray, List.set_cons_zero, List.set_cons_succ]
      refine take_opG 6 14 (v := ?_) rfl rfl (by kernel_rfl) (by kernel_rfl) (by decide) (by kernel_rfl) (by kernel_rfl) (fun _ _ _ h => h) (Or.inl ⟨by rfl, ?_⟩) (by assumption) ?_
      rotate_left 1
      · (intro w hSw; (try dsimp only at hSw); go_simp; (try with_reducible rfl))
      try simp only [Act.put, List.setIfInBounds_toArray, List.set_cons_zero, List.set_cons_succ]
      refine last_opG (by kernel_rfl) (by kernel_rfl) rfl (fun K hK => ?_)
      go_simp
      refine hK.out _ _ ?_
      clear hK K hrow hcf
      go_wp2
      go_roundw
      case rel => exact ⟨k + 1, ps ++ [x], t1, _, by omega, by go_num, .snoc HRUN.out HT1.out, HLT1.out, HG6.out⟩
      case measure => simp [intOf]; omega
    · obtain rfl : n1 = k := by omega
      obtain ⟨av, t1, g1⟩ := NumStep.total t0 7
      obtain ⟨sv, t2, g2⟩ := TextStep.total t1 30
      obtain ⟨nv, t3, g3⟩ := NumStep.total t2 1099511627776
      have hos : OpSt 60000 30 7 1099511627776 st n1 ps av sv nv s1 t0 t1 t2 t3 := ⟨HC1.out, HRUN.out, g1, g2, g3⟩
      have HN1 := Lib.hid g1; clear g1
      have HN2 := Lib.hid g2; clear g2
      have HN3 := Lib.hid g3; clear g3
      have HOR := Lib.hid (fun W v (h : StrsAt W v ps) => opRight_any ps av nv sv W v h (by omega))
      have HPG := Lib.hid (fun (r : List UInt8) (e : t3 = some r) hb => op_good (e ▸ hos) hb)
      have HPB := Lib.hid (fun hb => op_bad (by decide) (by decide) (by decide) (by decide) (by decide) (by decide) (by decide) (by decide) hos hb)
      clear hos hk hlt
      have H0X := Lib.hid True.intro
      cases t3 with
      | none =>
        obtain ⟨⟨rfl, rfl, rfl, rfl⟩, rfl⟩ := HC.out.det (HPB.out (.inl rfl))
        clear HOR
        go_wp2_with (first
          | (go_at_call 77; first
            | (have q9 := HG4; refine (inum_at ib t2 1099511627776 nv _ _ HG4.out.ins HN3.out (by omega) (by omega)).mono ?_; rintro e3 w5 ⟨rfl, hi5, hf5⟩
               have hg5 := HG4.out.call hi5 hf5
               have z0 : w5.cell? ⟨w.heap.size + 1, 0, none⟩ = some (.slice aV n1 cV) := cell_at' hg5.arr 0 rfl
               have z1 : w5.cell? ⟨w.heap.size + 1, 1, none⟩ = some (.int .i64 0) := cell_at' hg5.arr 1 rfl
               have z2 : w5.cell? ⟨w.heap.size + 1, 2, none⟩ = some (.string ByteArray.empty) := cell_at' hg5.arr 2 rfl
               have z3 : w5.cell? ⟨w.heap.size + 1, 3, none⟩ = some (.int .i64 0) := cell_at' hg5.arr 3 rfl
               have f1 := free_at' hg5.arr 1
               have f2 := free_at' hg5.arr 2
               have f3 := free_at' hg5.arr 3
               have zl := lt_of_block hg5.arr
               have HG5 := Lib.hid hg5
               have HF := Lib.hid (HG5.out.fill av sv nv)
               clear hi5 hf5 hg5 q9)
            | (have q9 := H0X; go_loud (refine (inum_at ib t0 7 av t1 _ HG.out.ins HN1.out (by omega) (by omega)).mono ?_); rintro e1 w3 ⟨rfl, hi3, hf3⟩; clear q9 H0X; have HG3 := Lib.hid (HG.out.call hi3 hf3); clear hi3 hf3))
          | (go_at_call 83; go_loud (refine (itext_at ib t1 30 sv t2 _ HG3.out.ins HN2.out (by omega) (by omega)).mono ?_); rintro e2 w4 ⟨rfl, hi4, hf4⟩; have HG4 := Lib.hid (HG3.out.call hi4 hf4); clear hi4 hf4)
          | (go_at_call 17; go_loud (refine (bad_go ib _ _ HF.out.ins).mono ?_); rintro e6 w6 ⟨rfl, rfl⟩)
          | (go_at_call 79; obtain ⟨ax, cx, hh⟩ := HF.out.ins.heap; go_loud (refine (fail_go ib _ _ _ hh).mono ?_); rintro e8 w8 ⟨rfl, hi8, hf8⟩
             clear z0 z1 z2 z3 f1 f2 f3 zl
             have HG8 := Lib.hid (HF.out.call (show InSt w8 ib none from hi8) hf8)
             clear hi8 hf8 hh
             have y0 := cell_at' HG8.out.res 0 rfl
             have g0 := free_at' HG8.out.res 0
             have y1 := cell_at' HG8.out.res 1 rfl
             have g1 := free_at' HG8.out.res 1
             have y2 := cell_at' HG8.out.res 2 rfl
             have g2 := free_at' HG8.out.res 2
             have y3 := cell_at' HG8.out.res 3 rfl
             have g3 := free_at' HG8.out.res 3
             have yl := lt_of_block HG8.out.res))
        clear y0 g0 y1 g1 y2 g2 y3 g3 yl
        obtain ⟨y0, y1, y2, y3⟩ := four_cells HG8.out.res (.slice none 0 0) (.int .i64 0) (.string ⟨#[]⟩) (.int .i64 0) _ rfl
        exact bodyPost_ret (v := .agg #[.slice none 0 0, .int .i64 0, .string ⟨#[]⟩, .int .i64 0]) (by simp [results, Tryz.results32, go_sem, y0, y1, y2, y3]) rfl (HG8.out.outZ _ (four_set w8 _ _ _ _ _))
      | some r =>
        cases hob : opB ps av sv nv with
        | true =>
          obtain ⟨⟨rfl, rfl, rfl, rfl⟩, rfl⟩ := HC.out.det (HPG.out r rfl hob)
          rw [hob] at HOR
          clear hob
          go_wp2_with (first
          | (go_at_call 77; first
            | (have q9 := HG4; refine (inum_at ib t2 1099511627776 n _ _ HG4.out.ins HN3.out (by omega) (by omega)).mono ?_; rintro e3 w5 ⟨rfl, hi5, hf5⟩
               have hg5 := HG4.out.call hi5 hf5
               have z0 : w5.cell? ⟨w.heap.size + 1, 0, none⟩ = some (.slice aV n1 cV) := cell_at' hg5.arr 0 rfl
               have z1 : w5.cell? ⟨w.heap.size + 1, 1, none⟩ = some (.int .i64 0) := cell_at' hg5.arr 1 rfl
               have z2 : w5.cell? ⟨w.heap.size + 1, 2, none⟩ = some (.string ByteArray.empty) := cell_at' hg5.arr 2 rfl
               have z3 : w5.cell? ⟨w.heap.size + 1, 3, none⟩ = some (.int .i64 0) := cell_at' hg5.arr 3 rfl
               have f1 := free_at' hg5.arr 1
               have f2 := free_at' hg5.arr 2
               have f3 := free_at' hg5.arr 3
               have zl := lt_of_block hg5.arr
               have HG5 := Lib.hid hg5
               have HF := Lib.hid (HG5.out.fill a s n)
               clear hi5 hf5 hg5 q9)
            | (have q9 := H0X; go_loud (refine (inum_at ib t0 7 a t1 _ HG.out.ins HN1.out (by omega) (by omega)).mono ?_); rintro e1 w3 ⟨rfl, hi3, hf3⟩; clear q9 H0X; have HG3 := Lib.hid (HG.out.call hi3 hf3); clear hi3 hf3))
          | (go_at_call 83; go_loud (refine (itext_at ib t1 30 s t2 _ HG3.out.ins HN2.out (by omega) (by omega)).mono ?_); rintro e2 w4 ⟨rfl, hi4, hf4⟩; have HG4 := Lib.hid (HG3.out.call hi4 hf4); clear hi4 hf4)
          | (go_at_call 17; go_loud (refine (bad_go ib _ _ HF.out.ins).mono ?_); rintro e6 w6 ⟨rfl, rfl⟩)
          | (go_at_call 84; go_loud (refine (HOR.out _ _ (by have h := Rd.own HF.out.own; rw [hlen] at h; unfold StrsAt; rw [hlen]; exact h)).mono ?_); rintro e7 w7 ⟨rfl, hf7⟩
             clear z0 z1 z2 z3 f1 f2 f3 zl
             have HG7 := Lib.hid (HF.out.keep0 hf7)
             clear hf7
             have z0 : w7.cell? ⟨w.heap.size + 1, 0, none⟩ = some (.slice aV n1 cV) := cell_at' HG7.out.arr 0 rfl
             have z1 : w7.cell? ⟨w.heap.size + 1, 1, none⟩ = some (.int .i64 a) := cell_at' HG7.out.arr 1 rfl
             have z2 : w7.cell? ⟨w.heap.size + 1, 2, none⟩ = some (.string s) := cell_at' HG7.out.arr 2 rfl
             have z3 : w7.cell? ⟨w.heap.size + 1, 3, none⟩ = some (.int .i64 n) := cell_at' HG7.out.arr 3 rfl
             have zl := lt_of_block HG7.out.arr
             have y0 := cell_at' HG7.out.res 0 rfl
             have g0 := free_at' HG7.out.res 0
             have y1 := cell_at' HG7.out.res 1 rfl
             have g1 := free_at' HG7.out.res 1
             have y2 := cell_at' HG7.out.res 2 rfl
             have g2 := free_at' HG7.out.res 2
             have y3 := cell_at' HG7.out.res 3 rfl
             have g3 := free_at' HG7.out.res 3
             have yl := lt_of_block HG7.out.res))
          clear z0 z1 z2 z3 zl
          clear y0 g0 y1 g1 y2 g2 y3 g3 yl
          obtain ⟨y0, y1, y2, y3⟩ := four_cells HG7.out.res (.slice aV n1 cV) (.int .i64 a) (.string s) (.int .i64 n) _ rfl
          exact bodyPost_ret (v := .agg #[.slice aV n1 cV, .int .i64 a, .string s, .int .i64 n]) (by simp [results, Tryz.results32, go_sem, y0, y1, y2, y3]) rfl (HG7.out.out _ (four_set w7 _ _ _ _ _))
        | false =>
          obtain ⟨⟨rfl, rfl, rfl, rfl⟩, rfl⟩ := HC.out.det (HPB.out (.inr hob))
          rw [hob] at HOR
          clear hob
          go_wp2_with (first
          | (go_at_call 77; first
            | (have q9 := HG4; refine (inum_at ib t2 1099511627776 nv _ _ HG4.out.ins HN3.out (by omega) (by omega)).mono ?_; rintro e3 w5 ⟨rfl, hi5, hf5⟩
               have hg5 := HG4.out.call hi5 hf5
               have z0 : w5.cell? ⟨w.heap.size + 1, 0, none⟩ = some (.slice aV n1 cV) := cell_at' hg5.arr 0 rfl
               have z1 : w5.cell? ⟨w.heap.size + 1, 1, none⟩ = some (.int .i64 0) := cell_at' hg5.arr 1 rfl
               have z2 : w5.cell? ⟨w.heap.size + 1, 2, none⟩ = some (.string ByteArray.empty) := cell_at' hg5.arr 2 rfl
               have z3 : w5.cell? ⟨w.heap.size + 1, 3, none⟩ = some (.int .i64 0) := cell_at' hg5.arr 3 rfl
               have f1 := free_at' hg5.arr 1
               have f2 := free_at' hg5.arr 2
               have f3 := free_at' hg5.arr 3
               have zl := lt_of_block hg5.arr
               have HG5 := Lib.hid hg5
               have HF := Lib.hid (HG5.out.fill av sv nv)
               clear hi5 hf5 hg5 q9)
            | (have q9 := H0X; go_loud (refine (inum_at ib t0 7 av t1 _ HG.out.ins HN1.out (by omega) (by omega)).mono ?_); rintro e1 w3 ⟨rfl, hi3, hf3⟩; clear q9 H0X; have HG3 := Lib.hid (HG.out.call hi3 hf3); clear hi3 hf3))
          | (go_at_call 83; go_loud (refine (itext_at ib t1 30 sv t2 _ HG3.out.ins HN2.out (by omega) (by omega)).mono ?_); rintro e2 w4 ⟨rfl, hi4, hf4⟩; have HG4 := Lib.hid (HG3.out.call hi4 hf4); clear hi4 hf4)
          | (go_at_call 17; go_loud (refine (bad_go ib _ _ HF.out.ins).mono ?_); rintro e6 w6 ⟨rfl, rfl⟩)
          | (go_at_call 84; go_loud (refine (HOR.out _ _ (by have h := Rd.own HF.out.own; rw [hlen] at h; unfold StrsAt; rw [hlen]; exact h)).mono ?_); rintro e7 w7 ⟨rfl, hf7⟩
             clear z0 z1 z2 z3 f1 f2 f3 zl
             have HG7 := Lib.hid (HF.out.keep0 hf7)
             clear hf7)
          | (go_at_call 79; obtain ⟨ax, cx, hh⟩ := HG7.out.ins.heap; go_loud (refine (fail_go ib _ _ _ hh).mono ?_); rintro e8 w8 ⟨rfl, hi8, hf8⟩
             skip
             have HG8 := Lib.hid (HG7.out.call (show InSt w8 ib none from hi8) hf8)
             clear hi8 hf8 hh
             have y0 := cell_at' HG8.out.res 0 rfl
             have g0 := free_at' HG8.out.res 0
             have y1 := cell_at' HG8.out.res 1 rfl
             have g1 := free_at' HG8.out.res 1
             have y2 := cell_at' HG8.out.res 2 rfl
             have g2 := free_at' HG8.out.res 2
             have y3 := cell_at' HG8.out.res 3 rfl
             have g3 := free_at' HG8.out.res 3
             have yl := lt_of_block HG8.out.res))
          clear y0 g0 y1 g1 y2 g2 y3 g3 yl
          obtain ⟨y0, y1, y2, y3⟩ := four_cells HG8.out.res (.slice none 0 0) (.int .i64 0) (.string ⟨#[]⟩) (.int .i64 0) _ rfl
          exact bodyPost_ret (v := .agg #[.slice none 0 0, .int .i64 0, .string ⟨#[]⟩, .int .i64 0]) (by simp [results, Tryz.results32, go_sem, y0, y1, y2, y3]) rfl (HG8.out.outZ _ (four_set w8 _ _ _ _ _))
end Go.Proofs.YtggfoihfenlckaaGreat
/- What is put into an Out, one thing behind the other: the calculus. -/
namespace Go.Proofs.YtggfoihfenlckaaGreat
open Go.RowKit
/-- So much is put since w: cs behind bs. -/
def Put1 (w : World) (ob : Nat) (v : Value) (bs cs : List UInt8) (ww : World) : Prop :=
  ∃ v', OutAt ww ob v' (bs ++ cs) ∧ Fresh w v v' ∧ Frm (OutS ob v) w ww
variable {w ww w' : World} {ob : Nat} {v : Value} {bs cs ds : List UInt8}
theorem Put1.start (h : OutAt w ob v bs) : Put1 w ob v bs [] w := ⟨v, by rwa [List.append_nil], Fresh.refl _ _, Frm.refl _ _⟩
theorem OutAt.keep0 (h : OutAt w ob v bs) (f : Frm NoS w w') : OutAt w' ob v bs := h.keep f id fun _ _ => id
theorem Put1.keep0 (h : Put1 w ob v bs cs ww) (f : Frm NoS ww w') : Put1 w ob v bs cs w' := by
  obtain ⟨v', h1, h2, h3⟩ := h
  exact ⟨v', h1.keep0 f, h2, h3.then1 f⟩
theorem Put1.base (h : Put1 ww ob v bs cs w') (f : Frm NoS w ww) : Put1 w ob v bs cs w' := by
  obtain ⟨v', h1, h2, h3⟩ := h
  exact ⟨v', h1, Fresh.trans (Fresh.refl w v) f.size h2, (f.mono (T := OutS ob v) fun _ _ h => h.elim).trans h3 fun _ _ h => h⟩
theorem Put1.cast {cs' : List UInt8} (h : Put1 w ob v bs cs w') (e : cs = cs') : Put1 w ob v bs cs' w' := e ▸ h
theorem Put1.trans {v' : Value} (h2 : Fresh w v v') (h3 : Frm (OutS ob v) w ww) (k : Put1 ww ob v' (bs ++ cs) ds w') : Put1 w ob v bs (cs ++ ds) w' := by
  obtain ⟨v2, k1, k2, k3⟩ := k
  exact ⟨v2, by rw [← List.append_assoc]; exact k1, h2.trans h3.size k2, h3.trans k3 (outS_fresh h2)⟩
theorem Put1.call {f : FuncId} {args : Array Value} {E : Ending} (h : Put1 w ob v bs cs ww)
    (k : ∀ v', OutAt ww ob v' (bs ++ cs) → (∀ b, b < w.heap.size → OutS ob v' b → OutS ob v b) → Frm (OutS ob v) w ww → Calls Tryz.prog f args ww fun e w' => e = E ∧ Put1 ww ob v' (bs ++ cs) ds w') :
    Calls Tryz.prog f args ww fun e w' => e = E ∧ Put1 w ob v bs (cs ++ ds) w' := by
  obtain ⟨v', h1, h2, h3⟩ := h
  exact (k v' h1 (outS_fresh h2) h3).mono fun e w' ⟨he, hp⟩ => ⟨he, Put1.trans h2 h3 hp⟩
theorem outS_lt (h : OutAt w ob v bs) : ∀ b, OutS ob v b → b < w.heap.size := fun b hb => by
  rcases hb with hb | hb
  · rw [hb]; exact lt_of_block h.cell
  · exact own_lt h.own b hb
/-- A box that was made ahead of it stands. -/
theorem Put1.cell {ww' : World} {p : Addr} {u : Value} (h : Put1 ww ob v bs cs ww') (hu : ww.cell? p = some u) (hn : ¬ OutS ob v p.block) : ww'.cell? p = some u := by
  obtain ⟨_, _, _, f⟩ := h
  exact f.cell' hu hn
theorem putNum (h : Put1 w ob v bs cs ww) (x : Int) (hx : inR x) (hl : bs.length + cs.length ≤ 95000000) :
    Calls Tryz.prog 95 #[.pointer (some ⟨ob, 0, none⟩), .int .i64 x] ww fun e w' => e = .returned (.tuple #[]) ∧ Put1 w ob v bs (cs ++ numB x) w' :=
  h.call fun v' ho _ _ => num_go ob x ww v' _ ho hx.1 hx.2 (by rw [List.length_append]; omega)
theorem putText (h : Put1 w ob v bs cs ww) (s : ByteArray) (hl : bs.length + cs.length + s.size ≤ 95000000) :
    Calls Tryz.prog 116 #[.pointer (some ⟨ob, 0, none⟩), .string s] ww fun e w' => e = .returned (.tuple #[]) ∧ Put1 w ob v bs (cs ++ textB s) w' :=
  h.call fun v' ho _ _ => text_go ob s ww v' _ ho (by rw [List.length_append]; omega)
theorem RdQ.put {Q : Nat → Prop} {u : Value} {n : Nat} {xs : List Value} (h : RdQ Q w u n xs) (hq : ∀ b, OutS ob v b → ¬ Q b) (hp : Put1 w ob v bs cs ww) : Rd ww u n xs := by
  obtain ⟨_, _, _, f⟩ := hp
  exact (h.keep f fun b _ hs => hq b hs).rd
end Go.Proofs.YtggfoihfenlckaaGreat
/- pack: PutOp: the walk. -/
namespace Go.Proofs.YtggfoihfenlckaaGreat
open Go.RowKit
theorem encP_snoc {ss : List ByteArray} {k : Nat} (h : k < ss.length) : encP (ss.take (k + 1)) = encP (ss.take k) ++ textB (ss.getD k ByteArray.empty) := by
  rw [take_succ ByteArray.empty h]
  unfold encP
  rw [List.flatMap_append]
  simp
theorem encP_le {ss : List ByteArray} (h : ∀ x ∈ ss, x.size ≤ 30) (k : Nat) : (encP (ss.take k)).length ≤ 40 * k := by
  have h1 : (encP (ss.take k)).length ≤ 40 * (ss.take k).length := flat_le fun s hs => by
    have hb := h s (List.mem_of_mem_take hs)
    have := numB_le10 (v := (s.size : Int)) (by omega) (by omega)
    have h6 : s.data.toList.length = s.size := Array.length_toList
    unfold textB
    rw [List.length_append]; omega
  have := List.length_take_le k ss
  exact Nat.le_trans h1 (Nat.mul_le_mul_left _ this)
set_option maxHeartbeats 4000000 in
set_option maxRecDepth 1000000 in
theorem pPutOp_yes (Q : Nat → Prop) (ob : Nat) (w : World) (v : Value) (bs : List UInt8) (pv : Value) (ss : List ByteArray) (a n : Int) (s : ByteArray) (ho : OutAt w ob v bs) (hc : RdQ Q w pv ss.length (ss.map Value.string)) (hq : ∀ b, OutS ob v b → ¬ Q b) (hl : ss.length ≤ 100000) (hb : bs.length ≤ 80000000) (hr : opB ss a s n = true) :
    Calls Tryz.prog 57 #[.pointer (some ⟨ob, 0, none⟩), .agg #[pv, .int .i64 a, .string s, .int .i64 n]] w fun e w' => e = .returned (.tuple #[]) ∧ Put1 w ob v bs (encO ss a s n) w' := by
  obtain ⟨⟨b1, b3⟩, bx, ba, bsz, bn⟩ := opB_bd hr
  have HRT := Lib.hid (fun W (f : Frm NoS w W) => hr ▸ opRight_any ss a n s W pv (Rd.keep0 hc.rd f) hl)
  obtain ⟨aA, cA, rfl⟩ := Rd.sl hc.rd
  have hno : ¬ OutS ob v w.heap.size := fun h => by have := outS_lt ho _ h; omega
  have hal : Frm NoS w (w.alloc (.cells #[.slice aA ss.length cA, .int .i64 a, .string s, .int .i64 n] 40)) := Frm.alloc _ _ _
  have hbx := heap_alloc_new w (.cells #[.slice aA ss.length cA, .int .i64 a, .string s, .int .i64 n] 40)
  have HPS := Lib.hid (fun W (f : Frm NoS (w.alloc (.cells #[.slice aA ss.length cA, .int .i64 a, .string s, .int .i64 n] 40)) W) => (Put1.start (ho.keep0 hal)).keep0 f)
  have HCL := Lib.hid (fun cs W (hp : Put1 (w.alloc (.cells #[.slice aA ss.length cA, .int .i64 a, .string s, .int .i64 n] 40)) ob v bs cs W) => (⟨hp.cell (cell_at' hbx 0 rfl) hno, hp.cell (cell_at' hbx 1 rfl) hno, hp.cell (cell_at' hbx 2 rfl) hno, hp.cell (cell_at' hbx 3 rfl) hno⟩ :
    W.cell? ⟨w.heap.size, 0, none⟩ = some (.slice aA ss.length cA) ∧ W.cell? ⟨w.heap.size, 1, none⟩ = some (.int .i64 a) ∧ W.cell? ⟨w.heap.size, 2, none⟩ = some (.string s) ∧ W.cell? ⟨w.heap.size, 3, none⟩ = some (.int .i64 n)))
  have HRD := Lib.hid (fun cs W (hp : Put1 (w.alloc (.cells #[.slice aA ss.length cA, .int .i64 a, .string s, .int .i64 n] 40)) ob v bs cs W) => RdQ.put (hc.keep hal fun _ _ s => s.elim) hq hp)
  have HAL := Lib.hid hal; clear hal hbx hno
  have HE := Lib.hid (encP_le bx)
  have HBX := Lib.hid bx; clear bx
  have HFIN := Lib.hid (show numB ss.length ++ encP (ss.take ss.length) ++ numB a ++ textB s ++ numB n = encO ss a s n by unfold encO; rw [List.take_length]; simp only [List.append_assoc])
  have hn10 : (numB (ss.length : Int)).length ≤ 10 := numN_le (by omega)
  clear hc hq ho hr
  generalize hnn : ss.length = l at *
  have HN := Lib.hid hnn; clear hnn
  have ha10 := numB_le10 (v := a) (by omega) (by omega)
  have hs40 : (textB s).length ≤ 40 := by
    have := numB_le10 (v := (s.size : Int)) (by omega) (by omega)
    have h6 : s.data.toList.length = s.size := Array.length_toList
    unfold textB
    rw [List.length_append]; omega
  have HN10 := Lib.hid hn10; clear hn10
  have HA10 := Lib.hid ha10; clear ha10
  have HS40 := Lib.hid hs40; clear hs40
  go_enter Tryz.func57, Tryz.ntmps57
  go_wp2_with (first
    | (go_at_call 84; go_loud (refine (HRT.out _ HAL.out).mono ?_); rintro e w1 ⟨rfl, hw1⟩; have hp0 := HPS.out w1 hw1; obtain ⟨y0, y1, y2, y3⟩ := HCL.out _ w1 hp0; have yl := World.block_lt_of_cell? _ _ y0; have HP0 := Lib.hid hp0; clear hw1 hp0)
    | (go_at_call 95; go_loud (refine (putNum HP0.out l ⟨by omega, by omega⟩ (by simp only [List.length_nil]; omega)).mono ?_); rintro e w2 ⟨rfl, hp⟩; clear y0 y1 y2 y3 yl; obtain ⟨y0, y1, y2, y3⟩ := HCL.out _ w2 hp; have yl := World.block_lt_of_cell? _ _ y0; have HP := Lib.hid hp; clear hp))
  go_loopw [18] (fun i ww => ∃ k : Nat, k ≤ l ∧ i = .int .i64 k ∧ Put1 (w.alloc (.cells #[.slice aA l cA, .int .i64 a, .string s, .int .i64 n] 40)) ob v bs (numB l ++ encP (ss.take k)) ww) (fun i _ => l - (intOf i).toNat)
  case atStart => exact ⟨0, Nat.zero_le _, rfl, HP.out.cast (by simp [encP])⟩
  case round =>
    clear y0 y1 y2 y3 yl
    obtain ⟨k, hk, rfl, hp⟩ := hrel
    have HP1 := Lib.hid hp; clear hp
    by_cases hlt : k < l
    · have hlk : k < ss.length := by rw [HN.out]; exact hlt
      have hrd := HRD.out _ wr HP1.out
      rcases Rd.shape hrd with ⟨ad, he, h0⟩ | ⟨b, off, cc, he, hmax⟩
      · exfalso; omega
      · injection he with e1 e2 e3
        subst e1 e3
        clear e2
        have q0 := str_at hrd k hlk
        clear hrd
        have HST := Lib.hid (encP_snoc hlk)
        have hx := HBX.out _ (getD_mem ByteArray.empty hlk)
        have HEk := Lib.hid (HE.out k)
        generalize ss.getD k ByteArray.empty = x at *
        go_wp2_with (go_at_call 116; go_loud (refine (putText HP1.out x (by have h1 := HEk.out; have h2 := HN10.out; simp only [List.length_append]; omega)).mono ?_); rintro e w5 ⟨rfl, hp5⟩; have HP5 := Lib.hid hp5; clear hp5)
        go_roundw
        case rel => exact ⟨k + 1, by omega, by go_num, HP5.out.cast (by rw [HST.out]; simp only [List.append_assoc])⟩
        case measure => simp [intOf]; omega
    · obtain rfl : l = k := by omega
      obtain ⟨y0, y1, y2, y3⟩ := HCL.out _ wr HP1.out
      have yl := World.block_lt_of_cell? _ _ y0
      have HEk := Lib.hid (HE.out l)
      go_wp2_with (first
        | (go_at_call 116; go_loud (refine (putText HP6.out s (by have h1 := HEk.out; have h2 := HN10.out; have h3 := HA10.out; simp only [List.length_append]; omega)).mono ?_); rintro e w7 ⟨rfl, hp⟩; clear y0 y1 y2 y3 yl; obtain ⟨y0, y1, y2, y3⟩ := HCL.out _ w7 hp; have yl := World.block_lt_of_cell? _ _ y0; have HP7 := Lib.hid hp; clear hp)
        | (go_at_call 95; first
          | (have q9 := HP7; go_loud (refine (putNum HP7.out n ⟨by omega, by omega⟩ (by have h1 := HEk.out; have h2 := HN10.out; have h3 := HA10.out; have h4 := HS40.out; simp only [List.length_append]; omega)).mono ?_); rintro e w8 ⟨rfl, hp⟩; have HP8 := Lib.hid hp; clear hp q9)
          | (go_loud (refine (putNum HP1.out a ⟨by omega, by omega⟩ (by have h1 := HEk.out; have h2 := HN10.out; simp only [List.length_append]; omega)).mono ?_); rintro e w6 ⟨rfl, hp⟩; clear y0 y1 y2 y3 yl; obtain ⟨y0, y1, y2, y3⟩ := HCL.out _ w6 hp; have yl := World.block_lt_of_cell? _ _ y0; have HP6 := Lib.hid hp; clear hp)))
      go_end0
      exact ⟨rfl, (HP8.out.base HAL.out).cast HFIN.out⟩
set_option maxHeartbeats 4000000 in
set_option maxRecDepth 1000000 in
theorem pPutOp_no (Q : Nat → Prop) (ob : Nat) (w : World) (v : Value) (bs : List UInt8) (pv : Value) (ss : List ByteArray) (a n : Int) (s : ByteArray) (ho : OutAt w ob v bs) (hc : RdQ Q w pv ss.length (ss.map Value.string)) (hl : ss.length ≤ 100000) (hb : bs.length ≤ 80000000) (hr : opB ss a s n = false) :
    Calls Tryz.prog 57 #[.pointer (some ⟨ob, 0, none⟩), .agg #[pv, .int .i64 a, .string s, .int .i64 n]] w fun e w' => e = .returned (.tuple #[]) ∧ Put1 w ob v bs (encO [] 0 ByteArray.empty 0) w' := by
  have HRT := Lib.hid (fun W (f : Frm NoS w W) => hr ▸ opRight_any ss a n s W pv (Rd.keep0 hc.rd f) hl)
  obtain ⟨aA, cA, rfl⟩ := Rd.sl hc.rd
  clear hc hr
  generalize ss.length = l at *
  have hal : Frm NoS w (w.alloc (.cells #[.slice aA l cA, .int .i64 a, .string s, .int .i64 n] 40)) := Frm.alloc _ _ _
  have hbx := heap_alloc_new w (.cells #[.slice aA l cA, .int .i64 a, .string s, .int .i64 n] 40)
  have hno : ¬ OutS ob v w.heap.size := fun h => by have := outS_lt ho _ h; omega
  have HNO := Lib.hid hno; clear hno
  have HBX := Lib.hid hbx; clear hbx
  have HAL := Lib.hid hal; clear hal
  have HO := Lib.hid ho; clear ho
  have e0 : (numB 0).length = 1 := by unfold numB; rw [show zz 0 = 0 from rfl, vl_small (by omega)]; rfl
  have HE0 := Lib.hid e0; clear e0
  have HFIN := Lib.hid (show numB 0 ++ numB 0 ++ textB ByteArray.empty ++ numB 0 = encO [] 0 ByteArray.empty 0 by unfold encO encP; simp [List.append_assoc])
  have HET := Lib.hid (show (textB ByteArray.empty).length = 1 by
    unfold textB
    rw [List.length_append, show ((ByteArray.empty.size : Nat) : Int) = 0 from rfl, HE0.out]
    rfl)
  have HFC := Lib.hid (fun (W : World) (hb : W.heap[w.heap.size]? = some (.cells #[.slice none 0 0, .int .i64 0, .string ⟨#[]⟩, .int .i64 0] 40 (0, 0))) => (⟨cell_at' hb 0 rfl, cell_at' hb 1 rfl, cell_at' hb 2 rfl, cell_at' hb 3 rfl, lt_of_block hb⟩ : W.cell? ⟨w.heap.size, 0, none⟩ = some (.slice none 0 0) ∧ W.cell? ⟨w.heap.size, 1, none⟩ = some (.int .i64 0) ∧ W.cell? ⟨w.heap.size, 2, none⟩ = some (.string ⟨#[]⟩) ∧ W.cell? ⟨w.heap.size, 3, none⟩ = some (.int .i64 0) ∧ w.heap.size < W.heap.size))
  go_enter Tryz.func57, Tryz.ntmps57
  go_wp2_with (first
    | (go_at_call 84; go_loud (refine (HRT.out _ HAL.out).mono ?_); rintro e w1 ⟨rfl, hw1⟩; have hb1 := hw1.blk HBX.out id; have y0 := cell_at' hb1 0 rfl; have y1 := cell_at' hb1 1 rfl; have y2 := cell_at' hb1 2 rfl; have y3 := cell_at' hb1 3 rfl; have f0 := free_at' hb1 0; have f1 := free_at' hb1 1; have f2 := free_at' hb1 2; have f3 := free_at' hb1 3; have yl := lt_of_block hb1; have HB1 := Lib.hid hb1; have HW1 := Lib.hid (HAL.out.then1 hw1); clear hw1 hb1)
    | (go_at_call 95;
       obtain ⟨W2, hW2⟩ : ∃ W, W = (((w1.setCell ⟨w.heap.size, 0, none⟩ (.slice none 0 0)).setCell ⟨w.heap.size, 1, none⟩ (.int .i64 0)).setCell ⟨w.heap.size, 2, none⟩ (.string ⟨#[]⟩)).setCell ⟨w.heap.size, 3, none⟩ (.int .i64 0) := ⟨_, rfl⟩
       rw [← hW2]
       have hb2 : W2.heap[w.heap.size]? = some (.cells #[.slice none 0 0, .int .i64 0, .string ⟨#[]⟩, .int .i64 0] 40 (0, 0)) := by rw [hW2]; exact set_at' (set_at' (set_at' (set_at' HB1.out 0 _) 1 _) 2 _) 3 _
       have hf2 : Frm NoS w W2 := by rw [hW2]; exact HW1.out.trans (four_set w1 w.heap.size _ _ _ _) fun i hi e => by have e : i = w.heap.size := e; omega
       have HB2 := Lib.hid hb2
       have HW2 := Lib.hid hf2
       go_loud (refine (putNum (Put1.start (HO.out.keep0 hf2)) 0 ⟨by omega, by omega⟩ (by simp only [List.length_nil]; omega)).mono ?_); rintro e w2 ⟨rfl, hp⟩
       have hb3 : w2.heap[w.heap.size]? = some (.cells #[.slice none 0 0, .int .i64 0, .string ⟨#[]⟩, .int .i64 0] 40 (0, 0)) := by obtain ⟨_, _, _, f⟩ := hp; exact f.blk HB2.out HNO.out
       clear y0 y1 y2 y3 f0 f1 f2 f3 yl
       obtain ⟨y0, y1, y2, y3, yl⟩ := HFC.out w2 hb3
       have HP := Lib.hid hp; clear hp hb2 hb3 hf2 hW2))
  go_loopw [18] (fun i ww => i = .int .i64 0 ∧ ww = w2) (fun i _ => 0)
  case atStart => exact ⟨rfl, rfl⟩
  case round =>
    obtain ⟨rfl, rfl⟩ := hrel
    have HBK := Lib.hid (fun cs W (hp : Put1 W2 ob v bs cs W) => HFC.out W (by obtain ⟨_, _, _, f⟩ := hp; exact f.blk HB2.out HNO.out))
    go_wp2_with (first
      | (go_at_call 116; go_loud (refine (putText HP6.out ByteArray.empty (by have h1 := HE0.out; have h2 : ByteArray.empty.size = 0 := rfl; simp only [List.length_append, List.nil_append]; omega)).mono ?_); rintro e w7 ⟨rfl, hp⟩; clear y0 y1 y2 y3 yl; obtain ⟨y0, y1, y2, y3, yl⟩ := HBK.out _ w7 hp; have HP7 := Lib.hid hp; clear hp)
      | (go_at_call 95; first
        | (have q9 := HP7; go_loud (refine (putNum HP7.out 0 ⟨by omega, by omega⟩ (by have h1 := HE0.out; have h2 := HET.out; simp only [List.length_append, List.nil_append]; omega)).mono ?_); rintro e w8 ⟨rfl, hp⟩; have HP8 := Lib.hid hp; clear hp q9)
        | (go_loud (refine (putNum HP.out 0 ⟨by omega, by omega⟩ (by have h1 := HE0.out; simp only [List.length_append, List.nil_append]; omega)).mono ?_); rintro e w6 ⟨rfl, hp⟩; clear y0 y1 y2 y3 yl; obtain ⟨y0, y1, y2, y3, yl⟩ := HBK.out _ w6 hp; have HP6 := Lib.hid hp; clear hp)))
    go_end0
    exact ⟨rfl, (HP8.out.base HW2.out).cast (by rw [← HFIN.out]; simp only [List.nil_append])⟩
end Go.Proofs.YtggfoihfenlckaaGreat