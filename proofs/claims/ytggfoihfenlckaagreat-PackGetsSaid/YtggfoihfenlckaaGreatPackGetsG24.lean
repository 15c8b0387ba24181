/- Words for the law PackGets: Get16a, Get16k0, Get16k1, Get16k2, Get16k3, Get16k4. -/
import Derived.Test.YtggfoihfenlckaaGreatPackGetsG11
import Derived.Test.YtggfoihfenlckaaGreatPackGetsG21
import Derived.Test.YtggfoihfenlckaaGreatPackGetsG22
import Derived.Test.YtggfoihfenlckaaGreatPackGetsG23
set_option linter.unusedSimpArgs false
set_option linter.unusedVariables false
/- tributarylaw16: get: the walk. Printed by wip/get16gen.py. -/
namespace Go.Proofs.YtggfoihfenlckaaGreat
open Go.RowKit
theorem CauRes.left {st s : Option (List UInt8)} {es : List Ent} {ks : KidsL} {c : CtxL} (h : CauRes st es ks c s) : (leftOf s).length ≤ (leftOf st).length := by
  rcases h with ⟨r, rfl, _, rfl⟩ | ⟨rfl, _⟩
  · show r.length ≤ (encX es ks c ++ r).length
    rw [List.length_append]; omega
  · exact Nat.zero_le _
/-- What is taken: both Ins. -/
def Get16Post (w0 : World) (st : Option (List UInt8)) (ib : Nat) (W : World) (e : Ending) (w' : World) : Prop :=
  ∃ st' a l, e = .returned (.tuple #[.agg #[.slice a (leftOf st').length l, .bool st'.isNone], .bool true]) ∧ InSt w' ib st' ∧ RIn w0 w' (.slice a (leftOf st').length l) st' ∧ Frm (Only ib) W w' ∧ (leftOf st').length ≤ (leftOf st).length
/-- Both Ins, the reference's in block B, and the result's block. -/
structure GM (w0 W Y : World) (ib : Nat) (tp : Option (List UInt8)) (B : Nat) (v : Value) (b : Bool) (tr : Option (List UInt8)) : Prop where
  ins : InSt Y ib tp
  rin : RIn w0 Y v tr
  box : Y.heap[B]? = some (.cells #[v, .bool b] 51 (0, 0))
  res : Y.heap[W.heap.size + 1]? = some (.cells #[.slice none 0 0, .bool false] 51 (0, 0))
  frm : Frm (Only ib) W Y
  hib : ib < W.heap.size
  h0 : w0.heap.size ≤ ib
  hB : W.heap.size ≤ B
  hN : B ≠ W.heap.size + 1
section
variable {w0 W Y Y' : World} {ib B : Nat} {tp tp' tr : Option (List UInt8)} {v : Value} {b : Bool}
theorem GM.get (h : GM w0 W Y ib tp B v b tr) (hi : InSt Y' ib tp') (f : Frm (Only ib) Y Y') : GM w0 W Y' ib tp' B v b tr :=
  ⟨hi, h.rin.keep f fun k hk e => (by have e : k = ib := e; have := h.h0; omega), f.blk h.box fun e => (by have e : B = ib := e; have := h.hib; have := h.hB; omega), f.blk h.res fun e => (by have e : W.heap.size + 1 = ib := e; have := h.hib; omega), h.frm.trans f fun _ _ s => s, h.hib, h.h0, h.hB, h.hN⟩
theorem GM.keep0 (h : GM w0 W Y ib tp B v b tr) (f : Frm NoS Y Y') : GM w0 W Y' ib tp B v b tr := h.get (h.ins.keep f fun _ _ => id) (f.mono fun _ _ s => s.elim)
theorem GM.out (h : GM w0 W Y ib tp B v b tr) (x0 x1 : Value) : Frm (Only ib) W ((Y.setCell ⟨W.heap.size + 1, 0, none⟩ x0).setCell ⟨W.heap.size + 1, 1, none⟩ x1) ∧ InSt ((Y.setCell ⟨W.heap.size + 1, 0, none⟩ x0).setCell ⟨W.heap.size + 1, 1, none⟩ x1) ib tp ∧ RIn w0 ((Y.setCell ⟨W.heap.size + 1, 0, none⟩ x0).setCell ⟨W.heap.size + 1, 1, none⟩ x1) v tr ∧
    ((Y.setCell ⟨W.heap.size + 1, 0, none⟩ x0).setCell ⟨W.heap.size + 1, 1, none⟩ x1).heap[W.heap.size + 1]? = some (.cells #[x0, x1] 51 (0, 0)) := by
  have f := two_set Y (W.heap.size + 1) x0 x1
  refine ⟨h.frm.trans f fun i hi e => ?_, h.ins.keep f fun k hk e => ?_, h.rin.keep f fun k hk e => ?_, set_at' (set_at' h.res 0 x0) 1 x1⟩
  · have e : i = W.heap.size + 1 := e; omega
  · have e : k = W.heap.size + 1 := e; have := h.hib; omega
  · have e : k = W.heap.size + 1 := e; have := h.hib; have := h.h0; omega
end
/-- Behind the reference's step: its In in a new block. -/
theorem GM.of0 {w0 W WB w1 : World} {ib : Nat} {st tr : Option (List UInt8)} {v u : Value} {c : Bool} {b : Bool} (hi : InSt W ib st) (h0 : w0.heap.size ≤ ib) (hWB : WB = (W.alloc (.cells #[u, .bool c] 51)).alloc (.cells #[.slice none 0 0, .bool false] 51)) (f1 : Frm NoS WB w1) (hr : RIn w0 w1 v tr) :
    GM w0 W (w1.alloc (.cells #[v, .bool b] 51)) ib st w1.heap.size v b tr := by
  have fB : Frm NoS W WB := by rw [hWB]; exact (Frm.alloc NoS _ _).alloc1
  have hres : WB.heap[W.heap.size + 1]? = some (.cells #[.slice none 0 0, .bool false] 51 (0, 0)) := by
    rw [hWB]
    have := heap_alloc_new (W.alloc (.cells #[u, .bool c] 51)) (.cells #[.slice none 0 0, .bool false] 51)
    rwa [show (W.alloc (.cells #[u, .bool c] 51)).heap.size = W.heap.size + 1 by simp] at this
  have hsz : W.heap.size + 1 < WB.heap.size := lt_of_block hres
  have hs1 := f1.size
  have hil := hi.lt
  have f3 : Frm NoS w1 (w1.alloc (.cells #[v, .bool b] 51)) := Frm.alloc NoS _ _
  have fW := (fB.then1 f1).then1 f3
  exact ⟨hi.keep fW fun _ _ => id, hr.keep0 f3, heap_alloc_new w1 _, f3.blk (f1.blk hres id) id, fW.mono fun _ _ s => s.elim, hil, h0, by omega, by omega⟩
/-- The same, with a value's block ahead of it. -/
theorem GM.of1 {w0 W WB w1 : World} {ib : Nat} {st tr : Option (List UInt8)} {v u : Value} {c : Bool} {b : Bool} {cs : Array Value} {T : TypeId} (hi : InSt W ib st) (h0 : w0.heap.size ≤ ib) (hWB : WB = (W.alloc (.cells #[u, .bool c] 51)).alloc (.cells #[.slice none 0 0, .bool false] 51)) (f1 : Frm NoS WB w1) (hr : RIn w0 w1 v tr) :
    GM w0 W ((w1.alloc (.cells cs T)).alloc (.cells #[v, .bool b] 51)) ib st (w1.heap.size + 1) v b tr ∧ ((w1.alloc (.cells cs T)).alloc (.cells #[v, .bool b] 51)).heap[w1.heap.size]? = some (.cells cs T (0, 0)) ∧ Frm NoS w1 ((w1.alloc (.cells cs T)).alloc (.cells #[v, .bool b] 51)) := by
  have fB : Frm NoS W WB := by rw [hWB]; exact (Frm.alloc NoS _ _).alloc1
  have hres : WB.heap[W.heap.size + 1]? = some (.cells #[.slice none 0 0, .bool false] 51 (0, 0)) := by
    rw [hWB]
    have := heap_alloc_new (W.alloc (.cells #[u, .bool c] 51)) (.cells #[.slice none 0 0, .bool false] 51)
    rwa [show (W.alloc (.cells #[u, .bool c] 51)).heap.size = W.heap.size + 1 by simp] at this
  have hsz : W.heap.size + 1 < WB.heap.size := lt_of_block hres
  have hs1 := f1.size
  have hil := hi.lt
  have f3 : Frm NoS w1 ((w1.alloc (.cells cs T)).alloc (.cells #[v, .bool b] 51)) := (Frm.alloc NoS _ _).alloc1
  have hb : ((w1.alloc (.cells cs T)).alloc (.cells #[v, .bool b] 51)).heap[w1.heap.size + 1]? = some (.cells #[v, .bool b] 51 (0, 0)) := by
    have := heap_alloc_new (w1.alloc (.cells cs T)) (.cells #[v, .bool b] 51)
    rwa [show (w1.alloc (.cells cs T)).heap.size = w1.heap.size + 1 by simp] at this
  have fW := (fB.then1 f1).then1 f3
  exact ⟨⟨hi.keep fW fun _ _ => id, hr.keep0 f3, hb, f3.blk (f1.blk hres id) id, fW.mono fun _ _ s => s.elim, hil, h0, by omega, by omega⟩, (Frm.alloc NoS _ _).blk (heap_alloc_new w1 _) id, f3⟩
/-- The same, where the In's own block takes it. -/
theorem GM.of2 {w0 W WB w1 : World} {ib : Nat} {st tr : Option (List UInt8)} {v u : Value} {c : Bool} {b : Bool} {cs : Array Value} {T : TypeId} (hi : InSt W ib st) (h0 : w0.heap.size ≤ ib) (hWB : WB = (W.alloc (.cells #[u, .bool c] 51)).alloc (.cells #[.slice none 0 0, .bool false] 51)) (f1 : Frm NoS WB w1) (hr : RIn w0 w1 v tr) :
    GM w0 W (((w1.setCell ⟨W.heap.size, 0, none⟩ v).setCell ⟨W.heap.size, 1, none⟩ (.bool b)).alloc (.cells cs T)) ib st W.heap.size v b tr ∧ (((w1.setCell ⟨W.heap.size, 0, none⟩ v).setCell ⟨W.heap.size, 1, none⟩ (.bool b)).alloc (.cells cs T)).heap[w1.heap.size]? = some (.cells cs T (0, 0)) := by
  have fB : Frm NoS W WB := by rw [hWB]; exact (Frm.alloc NoS _ _).alloc1
  have hres : WB.heap[W.heap.size + 1]? = some (.cells #[.slice none 0 0, .bool false] 51 (0, 0)) := by
    rw [hWB]
    have := heap_alloc_new (W.alloc (.cells #[u, .bool c] 51)) (.cells #[.slice none 0 0, .bool false] 51)
    rwa [show (W.alloc (.cells #[u, .bool c] 51)).heap.size = W.heap.size + 1 by simp] at this
  have hbx : WB.heap[W.heap.size]? = some (.cells #[u, .bool c] 51 (0, 0)) := by rw [hWB]; exact (Frm.alloc NoS _ _).blk (heap_alloc_new W _) id
  have hsz : W.heap.size + 1 < WB.heap.size := lt_of_block hres
  have hs1 := f1.size
  have hil := hi.lt
  have f2 := two_set w1 W.heap.size v (.bool b)
  have fY := fB.then1 f1
  have nI : ∀ k, k ≤ ib → ¬ Only W.heap.size k := fun k hk e => by have e : k = W.heap.size := e; omega
  have f3 := Frm.alloc NoS ((w1.setCell ⟨W.heap.size, 0, none⟩ v).setCell ⟨W.heap.size, 1, none⟩ (.bool b)) (.cells cs T)
  have hx := heap_alloc_new ((w1.setCell ⟨W.heap.size, 0, none⟩ v).setCell ⟨W.heap.size, 1, none⟩ (.bool b)) (.cells cs T)
  rw [show ((w1.setCell ⟨W.heap.size, 0, none⟩ v).setCell ⟨W.heap.size, 1, none⟩ (.bool b)).heap.size = w1.heap.size by simp] at hx
  exact ⟨⟨((hi.keep fY fun _ _ => id).keep f2 nI).keep f3 fun _ _ => id, (hr.keep f2 fun k hk => nI k (by omega)).keep0 f3, f3.blk (set_at' (set_at' (f1.blk hbx id) 0 v) 1 (.bool b)) id, f3.blk (f2.blk (f1.blk hres id) fun e => (by have e : W.heap.size + 1 = W.heap.size := e; omega)) id, ((fY.mono (T := Only ib) fun _ _ s => s.elim).trans f2 fun i hi' e => (by have e : i = W.heap.size := e; omega)).then1 f3, hil, h0, Nat.le_refl _, by omega⟩, hx⟩
end Go.Proofs.YtggfoihfenlckaaGreat
/- tributarylaw16: get: kind 0. Printed by wip/get16gen.py. -/
namespace Go.Proofs.YtggfoihfenlckaaGreat
open Go.RowKit
set_option maxHeartbeats 8000000 in
set_option maxRecDepth 1000000 in
theorem get16_0 (w0 W : World) {st : Option (List UInt8)} {c : CtxL} {s1 : Option (List UInt8)} (k : Int) (ib : Nat) (wv : Value) (hib : w0.heap.size ≤ ib) (hi : InSt W ib st) (hr : RIn w0 W wv st) (hl : (leftOf st).length ≤ 6000) (hc : CtxRes st c s1) (hk : k = 0) :
    Calls Tryz.prog 16 #[.pointer (some ⟨ib, 0, none⟩), .agg #[wv, .bool st.isNone], .int .u8 k] W (Get16Post w0 st ib W) := by
  subst hk
  obtain ⟨a0, c0, rfl⟩ := hr.shape
  obtain ⟨WB, hWB⟩ : ∃ X, X = (W.alloc (.cells #[.slice a0 (leftOf st).length c0, .bool st.isNone] 51)).alloc (.cells #[.slice none 0 0, .bool false] 51) := ⟨_, rfl⟩
  have fB : Frm NoS W WB := by rw [hWB]; exact (Frm.alloc NoS _ _).alloc1
  have h0W : w0.heap.size ≤ W.heap.size := by have := hi.lt; omega
  have HT := Lib.hid (r16ToCtx_at WB (hr.keep0 fB) (Nat.le_trans h0W fB.size) hc (Nat.le_trans hl (by decide)))
  unfold ToCtxPost at HT
  have HGET := Lib.hid (fun Y (h : InSt Y ib st) => ctx_at hc ib Y h (Nat.le_trans hl (by decide)))
  have HLF := Lib.hid (by have := hc.sizes; omega)
  have HSZ := Lib.hid (show c.length ≤ 100000 by have := hc.sizes; omega)
  have hsW : W.heap.size + 1 < WB.heap.size := by rw [hWB]; simp
  have HSW := Lib.hid hsW; clear hsW
  have HI := Lib.hid hi; clear hi
  have HIB := Lib.hid hib; clear hib
  clear hr hc fB h0W hl
  generalize hbd : st.isNone = bd at *
  generalize hLL : (leftOf st).length = L0 at *
  generalize hL1 : (leftOf s1).length = L1 at *
  generalize hb1 : s1.isNone = b1 at *
  have HWB := Lib.hid hWB; clear hWB
  have HL0 := Lib.hid hLL; clear hLL hbd
  have HL1 := Lib.hid hL1; clear hL1
  have HB1 := Lib.hid hb1; clear hb1
  go_enter Tryz.func16, Tryz.ntmps16
  go_wp2_with (go_at_call 62; rw [show (W.alloc (.cells #[.slice a0 L0 c0, .bool bd] 51)).alloc (.cells #[.slice none 0 0, .bool false] 51) = WB from HWB.out.symm]; go_loud (refine HT.out.mono ?_); rintro e w1 ⟨cv, a1, l1, rfl, hx1, hr1, hf1⟩; obtain ⟨a2, c2, rfl⟩ := hx1.rd.sl; replace hx1 : CtxQ (fun b => WB.heap.size ≤ b) w1 (.slice a2 c.length c2) c := hx1; go_loud (have HG3 := Lib.hid (GM.of0 (b := b1) HI.out HIB.out HWB.out hf1 hr1); have HX1 := Lib.hid hx1; have HW1 := Lib.hid (show WB.heap.size ≤ w1.heap.size from hf1.size); have HFA := Lib.hid (Frm.alloc NoS w1 (.cells #[.slice a1 L1 l1, .bool b1] 51))); clear hr1 hf1 hx1)
  refine wp_region_G (S := fun w' => w'.cell? ⟨w1.heap.size, 0, none⟩ = some (.slice a1 L1 l1) ∧ w'.cell? ⟨w1.heap.size, 1, none⟩ = some (.bool b1)) 6 (by kernel_rfl) ⟨(Frm.drew NoS _).cell' (cell_at' HG3.out.box 0 rfl) id, (Frm.drew NoS _).cell' (cell_at' HG3.out.box 1 rfl) id⟩ ?_
  intro hS
  have HGD := Lib.hid (HG3.out.keep0 (Frm.drew NoS _))
  have HFD := Lib.hid (HFA.out.then1 (Frm.drew NoS _))
  generalize hY0 : World.drew _ = Y0 at *
  clear hY0 HG3 HFA
  refine take_opG 0 25 (v := ?_) rfl rfl (by kernel_rfl) (by kernel_rfl) (by decide) (by kernel_rfl) (by kernel_rfl) (fun _ _ _ h => h) (Or.inl ⟨by rfl, ?_⟩) (by assumption) ?_
  rotate_left 1
  · (intro w hSw; (try dsimp only at hSw); go_simp; (try with_reducible rfl))
  try simp only [Act.put, List.setIfInBounds_toArray, List.set_cons_zero, List.set_cons_succ]
  refine take_opG 1 26 (v := ?_) rfl rfl (by kernel_rfl) (by kernel_rfl) (by decide) (by kernel_rfl) (by kernel_rfl) (fun _ _ _ h => h) (Or.inl ⟨by rfl, ?_⟩) (by assumption) ?_
  rotate_left 1
  · (intro w hSw; (try dsimp only at hSw); go_simp; (try with_reducible rfl))
  try simp only [Act.put, List.setIfInBounds_toArray, List.set_cons_zero, List.set_cons_succ]
  refine take_opG 3 28 (v := ?_) rfl rfl (by kernel_rfl) (by kernel_rfl) (by decide) (by kernel_rfl) (by kernel_rfl) (fun _ _ _ h => h) (Or.inl ⟨by rfl, ?_⟩) (by assumption) ?_
  rotate_left 1
  · (intro w hSw; (try dsimp only at hSw); go_simp; (try with_reducible rfl))
  try simp only [Act.put, List.setIfInBounds_toArray, List.set_cons_zero, List.set_cons_succ]
  refine one_opG (i := 2) (by kernel_rfl) rfl (fun K hK => ?_)
  go_simp
  refine (HGET.out _ HGD.out.ins).mono ?_
  rintro e4 Y4 ⟨cv4, rfl, hx4, hi4, hf4⟩
  obtain ⟨a5, c5, rfl⟩ := hx4.rd.sl
  have HG4 := Lib.hid (HGD.out.get hi4 hf4)
  have HX4 := Lib.hid (show CtxAt Y4 _ c from ((RdQ.keep HX1.out HFD.out fun _ _ e => e.elim).keep hf4 (fun i hi e hQ => (by have e : i = ib := e; have hQ : WB.heap.size ≤ i := hQ; have := HGD.out.hib; have := HSW.out; omega))).rd)
  have HSM := Lib.hid (r7Same_any Y4 _ _ c c hx4.rd HX4.out HSZ.out HSZ.out)
  rw [show decide (c = c) = true by simp] at HSM
  have hS4 := (⟨cell_at' HG4.out.box 0 rfl, cell_at' HG4.out.box 1 rfl⟩ : Y4.cell? ⟨w1.heap.size, 0, none⟩ = some (.slice a1 L1 l1) ∧ Y4.cell? ⟨w1.heap.size, 1, none⟩ = some (.bool b1))
  refine hK.out _ _ hS4 ?_
  clear hK K hS hi4 hf4 hx4
  try simp only [Act.put, List.setIfInBounds_toArray, List.set_cons_zero, List.set_cons_succ]
  refine one_opG (i := 4) (by kernel_rfl) rfl (fun K hK => ?_)
  go_simp
  refine HSM.out.mono ?_
  rintro e5 Y5 ⟨rfl, hf5⟩
  have HG5 := Lib.hid (HG4.out.keep0 hf5)
  have hS5 := (⟨cell_at' HG5.out.box 0 rfl, cell_at' HG5.out.box 1 rfl⟩ : Y5.cell? ⟨w1.heap.size, 0, none⟩ = some (.slice a1 L1 l1) ∧ Y5.cell? ⟨w1.heap.size, 1, none⟩ = some (.bool b1))
  have r0 := cell_at' HG5.out.res 0 rfl
  have r1 := cell_at' HG5.out.res 1 rfl
  have r2 := free_at' HG5.out.res 0
  have r3 := free_at' HG5.out.res 1
  have r4 := lt_of_block HG5.out.res
  refine hK.out _ _ hS5 ?_
  clear hK K hS4 hf5
  try simp only [Act.put, List.setIfInBounds_toArray, List.set_cons_zero, List.set_cons_succ]
  refine one_opG (i := 5) (by kernel_rfl) rfl (fun K hK => ?_)
  go_simp
  have hS6 := (⟨(two_set Y5 (W.heap.size + 1) (.slice a1 L1 l1) (.bool b1)).cell' (cell_at' HG5.out.box 0 rfl) (fun e => by have e : w1.heap.size = W.heap.size + 1 := e; exact HG5.out.hN e), (two_set Y5 (W.heap.size + 1) (.slice a1 L1 l1) (.bool b1)).cell' (cell_at' HG5.out.box 1 rfl) (fun e => by have e : w1.heap.size = W.heap.size + 1 := e; exact HG5.out.hN e)⟩ : ((Y5.setCell ⟨W.heap.size + 1, 0, none⟩ (.slice a1 L1 l1)).setCell ⟨W.heap.size + 1, 1, none⟩ (.bool b1)).cell? ⟨w1.heap.size, 0, none⟩ = some (.slice a1 L1 l1) ∧ ((Y5.setCell ⟨W.heap.size + 1, 0, none⟩ (.slice a1 L1 l1)).setCell ⟨W.heap.size + 1, 1, none⟩ (.bool b1)).cell? ⟨w1.heap.size, 1, none⟩ = some (.bool b1))
  refine hK.out _ _ hS6 ?_
  clear hK K hS5 r0 r1 r2 r3 r4
  try simp only [Act.put, List.setIfInBounds_toArray, List.set_cons_zero, List.set_cons_succ]
  refine last_opG (by kernel_rfl) (by kernel_rfl) rfl (fun K hK => ?_)
  go_simp
  refine hK.out _ _ ?_
  clear hK K hS6
  obtain ⟨z1, z2, z3, z4⟩ := HG5.out.out (.slice a1 L1 l1) (.bool b1)
  have y0 := cell_at' z4 0 rfl
  have y1 := cell_at' z4 1 rfl
  go_wp2
  have e1 := HL1.out
  have e2 := HB1.out
  have e3 := HLF.out
  have e4 := HL0.out
  subst e1 e2
  exact bodyPost_ret (v := .tuple #[.agg #[.slice a1 (leftOf s1).length l1, .bool s1.isNone], .bool true]) (by simp [results, Tryz.results16, go_sem, y0, y1]) rfl ⟨s1, a1, l1, rfl, z2, z3, z1, by omega⟩
end Go.Proofs.YtggfoihfenlckaaGreat
/- tributarylaw16: get: kind 1. Printed by wip/get16gen.py. -/
namespace Go.Proofs.YtggfoihfenlckaaGreat
open Go.RowKit
set_option maxHeartbeats 8000000 in
set_option maxRecDepth 1000000 in
theorem get16_1 (w0 W : World) {st : Option (List UInt8)} {es : List Ent} {ks : KidsL} {s1 : Option (List UInt8)} (k : Int) (ib : Nat) (wv : Value) (hib : w0.heap.size ≤ ib) (hi : InSt W ib st) (hr : RIn w0 W wv st) (hl : (leftOf st).length ≤ 6000) (hc : TreeRes st es ks s1) (hk : k = 1) :
    Calls Tryz.prog 16 #[.pointer (some ⟨ib, 0, none⟩), .agg #[wv, .bool st.isNone], .int .u8 k] W (Get16Post w0 st ib W) := by
  subst hk
  obtain ⟨a0, c0, rfl⟩ := hr.shape
  obtain ⟨WB, hWB⟩ : ∃ X, X = (W.alloc (.cells #[.slice a0 (leftOf st).length c0, .bool st.isNone] 51)).alloc (.cells #[.slice none 0 0, .bool false] 51) := ⟨_, rfl⟩
  have fB : Frm NoS W WB := by rw [hWB]; exact (Frm.alloc NoS _ _).alloc1
  have h0W : w0.heap.size ≤ W.heap.size := by have := hi.lt; omega
  have HT := Lib.hid (r16ToTree_at WB (hr.keep0 fB) (Nat.le_trans h0W fB.size) hc (Nat.le_trans hl (by decide)))
  unfold ToTreePost at HT
  have HGET := Lib.hid (fun Y (h : InSt Y ib st) => tree_at hc ib Y h (Nat.le_trans hl (by decide)))
  have HLF := Lib.hid (by have := hc.sizes; omega)
  have HSZ := Lib.hid (show sizeT es ks ≤ 100000 by have := hc.sizes; omega)
  have hsW : W.heap.size + 1 < WB.heap.size := by rw [hWB]; simp
  have HSW := Lib.hid hsW; clear hsW
  have HI := Lib.hid hi; clear hi
  have HIB := Lib.hid hib; clear hib
  clear hr hc fB h0W hl
  generalize hbd : st.isNone = bd at *
  generalize hLL : (leftOf st).length = L0 at *
  generalize hL1 : (leftOf s1).length = L1 at *
  generalize hb1 : s1.isNone = b1 at *
  have HWB := Lib.hid hWB; clear hWB
  have HL0 := Lib.hid hLL; clear hLL hbd
  have HL1 := Lib.hid hL1; clear hL1
  have HB1 := Lib.hid hb1; clear hb1
  go_enter Tryz.func16, Tryz.ntmps16
  go_wp2_with (go_at_call 63; rw [show (W.alloc (.cells #[.slice a0 L0 c0, .bool bd] 51)).alloc (.cells #[.slice none 0 0, .bool false] 51) = WB from HWB.out.symm]; go_loud (refine HT.out.mono ?_); rintro e w1 ⟨ev, kv, a1, l1, rfl, hx1, hr1, hf1⟩; obtain ⟨a2, c2, rfl⟩ := hx1.ents.rd.sl; obtain ⟨os3, hkr3, -⟩ := hx1.kids; obtain ⟨a3, c3, rfl⟩ := hkr3.rd.sl; clear hkr3; go_loud (have hm3 := GM.of1 (b := b1) (cs := #[.slice a2 es.length c2, .slice a3 ks.len c3]) (T := 35) HI.out HIB.out HWB.out hf1 hr1; have HG3 := Lib.hid hm3.1; have HB8 := Lib.hid hm3.2.1; have HFA := Lib.hid hm3.2.2; clear hm3; have HX1 := Lib.hid hx1; have HW1 := Lib.hid (show WB.heap.size ≤ w1.heap.size from hf1.size)); clear hr1 hf1 hx1)
  refine wp_region_G (S := fun w' => w'.cell? ⟨w1.heap.size + 1, 0, none⟩ = some (.slice a1 L1 l1) ∧ w'.cell? ⟨w1.heap.size + 1, 1, none⟩ = some (.bool b1) ∧ w'.cell? ⟨w1.heap.size, 0, none⟩ = some (.slice a2 es.length c2) ∧ w'.cell? ⟨w1.heap.size, 1, none⟩ = some (.slice a3 ks.len c3)) 6 (by kernel_rfl) ⟨(Frm.drew NoS _).cell' (cell_at' HG3.out.box 0 rfl) id, (Frm.drew NoS _).cell' (cell_at' HG3.out.box 1 rfl) id, (Frm.drew NoS _).cell' (cell_at' HB8.out 0 rfl) id, (Frm.drew NoS _).cell' (cell_at' HB8.out 1 rfl) id⟩ ?_
  intro hS
  have HGD := Lib.hid (HG3.out.keep0 (Frm.drew NoS _))
  have HBD := Lib.hid ((Frm.drew NoS _).blk HB8.out id)
  have HFD := Lib.hid (HFA.out.then1 (Frm.drew NoS _))
  generalize hY0 : World.drew _ = Y0 at *
  clear hY0 HG3 HB8 HFA
  refine take_opG 0 37 (v := ?_) rfl rfl (by kernel_rfl) (by kernel_rfl) (by decide) (by kernel_rfl) (by kernel_rfl) (fun _ _ _ h => h) (Or.inl ⟨by rfl, ?_⟩) (by assumption) ?_
  rotate_left 1
  · (intro w hSw; (try dsimp only at hSw); go_simp; (try with_reducible rfl))
  try simp only [Act.put, List.setIfInBounds_toArray, List.set_cons_zero, List.set_cons_succ]
  refine take_opG 1 38 (v := ?_) rfl rfl (by kernel_rfl) (by kernel_rfl) (by decide) (by kernel_rfl) (by kernel_rfl) (fun _ _ _ h => h) (Or.inl ⟨by rfl, ?_⟩) (by assumption) ?_
  rotate_left 1
  · (intro w hSw; (try dsimp only at hSw); go_simp; (try with_reducible rfl))
  try simp only [Act.put, List.setIfInBounds_toArray, List.set_cons_zero, List.set_cons_succ]
  refine take_opG 3 40 (v := ?_) rfl rfl (by kernel_rfl) (by kernel_rfl) (by decide) (by kernel_rfl) (by kernel_rfl) (fun _ _ _ h => h) (Or.inl ⟨by rfl, ?_⟩) (by assumption) ?_
  rotate_left 1
  · (intro w hSw; (try dsimp only at hSw); go_simp; (try with_reducible rfl))
  try simp only [Act.put, List.setIfInBounds_toArray, List.set_cons_zero, List.set_cons_succ]
  refine one_opG (i := 2) (by kernel_rfl) rfl (fun K hK => ?_)
  go_simp
  refine (HGET.out _ HGD.out.ins).mono ?_
  rintro e4 Y4 ⟨ev4, kv4, rfl, hx4, hi4, hf4⟩
  obtain ⟨a5, c5, rfl⟩ := hx4.ents.rd.sl
  obtain ⟨os5, hkr5, -⟩ := hx4.kids
  obtain ⟨a6, c6, rfl⟩ := hkr5.rd.sl
  clear hkr5
  have HG4 := Lib.hid (HGD.out.get hi4 hf4)
  have HB4 := Lib.hid (hf4.blk HBD.out fun e => (by have e : w1.heap.size = ib := e; have := HGD.out.hib; have := HW1.out; have := HSW.out; omega))
  have HX4 := Lib.hid ((HX1.out.keep HFD.out fun _ _ e => e.elim).keep hf4 (fun i hi e hQ => (by have e : i = ib := e; have hQ : WB.heap.size ≤ i := hQ; have := HGD.out.hib; have := HSW.out; omega)))
  have HSM := Lib.hid (r8Same_any _ _ (sizeK ks + 1) es ks es ks Y4 _ _ _ _ (Nat.lt_succ_self _) hx4 HX4.out HSZ.out HSZ.out)
  rw [tf_true ⟨rfl, rfl⟩] at HSM
  have hS4 := (⟨cell_at' HG4.out.box 0 rfl, cell_at' HG4.out.box 1 rfl, cell_at' HB4.out 0 rfl, cell_at' HB4.out 1 rfl⟩ : Y4.cell? ⟨w1.heap.size + 1, 0, none⟩ = some (.slice a1 L1 l1) ∧ Y4.cell? ⟨w1.heap.size + 1, 1, none⟩ = some (.bool b1) ∧ Y4.cell? ⟨w1.heap.size, 0, none⟩ = some (.slice a2 es.length c2) ∧ Y4.cell? ⟨w1.heap.size, 1, none⟩ = some (.slice a3 ks.len c3))
  refine hK.out _ _ hS4 ?_
  clear hK K hS hi4 hf4 hx4
  try simp only [Act.put, List.setIfInBounds_toArray, List.set_cons_zero, List.set_cons_succ]
  refine one_opG (i := 4) (by kernel_rfl) rfl (fun K hK => ?_)
  go_simp
  refine HSM.out.mono ?_
  rintro e5 Y5 ⟨rfl, hf5⟩
  have HG5 := Lib.hid (HG4.out.keep0 hf5)
  have HB5 := Lib.hid (hf5.blk HB4.out id)
  have hS5 := (⟨cell_at' HG5.out.box 0 rfl, cell_at' HG5.out.box 1 rfl, cell_at' HB5.out 0 rfl, cell_at' HB5.out 1 rfl⟩ : Y5.cell? ⟨w1.heap.size + 1, 0, none⟩ = some (.slice a1 L1 l1) ∧ Y5.cell? ⟨w1.heap.size + 1, 1, none⟩ = some (.bool b1) ∧ Y5.cell? ⟨w1.heap.size, 0, none⟩ = some (.slice a2 es.length c2) ∧ Y5.cell? ⟨w1.heap.size, 1, none⟩ = some (.slice a3 ks.len c3))
  have r0 := cell_at' HG5.out.res 0 rfl
  have r1 := cell_at' HG5.out.res 1 rfl
  have r2 := free_at' HG5.out.res 0
  have r3 := free_at' HG5.out.res 1
  have r4 := lt_of_block HG5.out.res
  refine hK.out _ _ hS5 ?_
  clear hK K hS4 hf5
  try simp only [Act.put, List.setIfInBounds_toArray, List.set_cons_zero, List.set_cons_succ]
  refine one_opG (i := 5) (by kernel_rfl) rfl (fun K hK => ?_)
  go_simp
  have hS6 := (⟨(two_set Y5 (W.heap.size + 1) (.slice a1 L1 l1) (.bool b1)).cell' (cell_at' HG5.out.box 0 rfl) (fun e => by have e : w1.heap.size + 1 = W.heap.size + 1 := e; exact HG5.out.hN e), (two_set Y5 (W.heap.size + 1) (.slice a1 L1 l1) (.bool b1)).cell' (cell_at' HG5.out.box 1 rfl) (fun e => by have e : w1.heap.size + 1 = W.heap.size + 1 := e; exact HG5.out.hN e), (two_set Y5 (W.heap.size + 1) (.slice a1 L1 l1) (.bool b1)).cell' (cell_at' HB5.out 0 rfl) (fun e => by have e : w1.heap.size = W.heap.size + 1 := e; have := HW1.out; have := HSW.out; omega), (two_set Y5 (W.heap.size + 1) (.slice a1 L1 l1) (.bool b1)).cell' (cell_at' HB5.out 1 rfl) (fun e => by have e : w1.heap.size = W.heap.size + 1 := e; have := HW1.out; have := HSW.out; omega)⟩ : ((Y5.setCell ⟨W.heap.size + 1, 0, none⟩ (.slice a1 L1 l1)).setCell ⟨W.heap.size + 1, 1, none⟩ (.bool b1)).cell? ⟨w1.heap.size + 1, 0, none⟩ = some (.slice a1 L1 l1) ∧ ((Y5.setCell ⟨W.heap.size + 1, 0, none⟩ (.slice a1 L1 l1)).setCell ⟨W.heap.size + 1, 1, none⟩ (.bool b1)).cell? ⟨w1.heap.size + 1, 1, none⟩ = some (.bool b1) ∧ ((Y5.setCell ⟨W.heap.size + 1, 0, none⟩ (.slice a1 L1 l1)).setCell ⟨W.heap.size + 1, 1, none⟩ (.bool b1)).cell? ⟨w1.heap.size, 0, none⟩ = some (.slice a2 es.length c2) ∧ ((Y5.setCell ⟨W.heap.size + 1, 0, none⟩ (.slice a1 L1 l1)).setCell ⟨W.heap.size + 1, 1, none⟩ (.bool b1)).cell? ⟨w1.heap.size, 1, none⟩ = some (.slice a3 ks.len c3))
  refine hK.out _ _ hS6 ?_
  clear hK K hS5 r0 r1 r2 r3 r4
  try simp only [Act.put, List.setIfInBounds_toArray, List.set_cons_zero, List.set_cons_succ]
  refine last_opG (by kernel_rfl) (by kernel_rfl) rfl (fun K hK => ?_)
  go_simp
  refine hK.out _ _ ?_
  clear hK K hS6
  obtain ⟨z1, z2, z3, z4⟩ := HG5.out.out (.slice a1 L1 l1) (.bool b1)
  have y0 := cell_at' z4 0 rfl
  have y1 := cell_at' z4 1 rfl
  go_wp2
  have e1 := HL1.out
  have e2 := HB1.out
  have e3 := HLF.out
  have e4 := HL0.out
  subst e1 e2
  exact bodyPost_ret (v := .tuple #[.agg #[.slice a1 (leftOf s1).length l1, .bool s1.isNone], .bool true]) (by simp [results, Tryz.results16, go_sem, y0, y1]) rfl ⟨s1, a1, l1, rfl, z2, z3, z1, by omega⟩
end Go.Proofs.YtggfoihfenlckaaGreat
/- tributarylaw16: get: kind 2. Printed by wip/get16gen.py. -/
namespace Go.Proofs.YtggfoihfenlckaaGreat
open Go.RowKit
set_option maxHeartbeats 8000000 in
set_option maxRecDepth 1000000 in
theorem get16_2 (w0 W : World) {st : Option (List UInt8)} {es : List Ent} {ks : KidsL} {c : CtxL} {s1 : Option (List UInt8)} (k : Int) (ib : Nat) (wv : Value) (hib : w0.heap.size ≤ ib) (hi : InSt W ib st) (hr : RIn w0 W wv st) (hl : (leftOf st).length ≤ 6000) (hc : CauRes st es ks c s1) (hk : k = 2) :
    Calls Tryz.prog 16 #[.pointer (some ⟨ib, 0, none⟩), .agg #[wv, .bool st.isNone], .int .u8 k] W (Get16Post w0 st ib W) := by
  subst hk
  obtain ⟨a0, c0, rfl⟩ := hr.shape
  obtain ⟨WB, hWB⟩ : ∃ X, X = (W.alloc (.cells #[.slice a0 (leftOf st).length c0, .bool st.isNone] 51)).alloc (.cells #[.slice none 0 0, .bool false] 51) := ⟨_, rfl⟩
  have fB : Frm NoS W WB := by rw [hWB]; exact (Frm.alloc NoS _ _).alloc1
  have h0W : w0.heap.size ≤ W.heap.size := by have := hi.lt; omega
  have HT := Lib.hid (r16ToCausal_at WB (hr.keep0 fB) (Nat.le_trans h0W fB.size) hc hl)
  unfold ToCauPost at HT
  have HGET := Lib.hid (fun Y (h : InSt Y ib st) => pGetCausal_at ib st s1 es ks c Y hc h hl)
  unfold CauTk at HGET
  have HLF := Lib.hid hc.left
  have HOK := Lib.hid (hc.ok hl)
  have hsW : W.heap.size + 1 < WB.heap.size := by rw [hWB]; simp
  have HSW := Lib.hid hsW; clear hsW
  have HI := Lib.hid hi; clear hi
  have HIB := Lib.hid hib; clear hib
  clear hr hc fB h0W hl
  generalize hbd : st.isNone = bd at *
  generalize hLL : (leftOf st).length = L0 at *
  generalize hL1 : (leftOf s1).length = L1 at *
  generalize hb1 : s1.isNone = b1 at *
  have HWB := Lib.hid hWB; clear hWB
  have HL0 := Lib.hid hLL; clear hLL hbd
  have HL1 := Lib.hid hL1; clear hL1
  have HB1 := Lib.hid hb1; clear hb1
  go_enter Tryz.func16, Tryz.ntmps16
  go_wp2_with (go_at_call 64; rw [show (W.alloc (.cells #[.slice a0 L0 c0, .bool bd] 51)).alloc (.cells #[.slice none 0 0, .bool false] 51) = WB from HWB.out.symm]; go_loud (refine HT.out.mono ?_); rintro e w1 ⟨ev, kv, cv, a1, l1, rfl, hx1, hy1, hr1, hf1⟩; obtain ⟨a2, c2, rfl⟩ := hx1.ents.rd.sl; obtain ⟨os3, hkr3, -⟩ := hx1.kids; obtain ⟨a3, c3, rfl⟩ := hkr3.rd.sl; clear hkr3; obtain ⟨a4, c4, rfl⟩ := hy1.rd.sl; go_loud (have hm3 := GM.of1 (b := b1) (cs := #[.slice a2 es.length c2, .slice a3 ks.len c3, .slice a4 c.length c4]) (T := 37) HI.out HIB.out HWB.out hf1 hr1; have HG3 := Lib.hid hm3.1; have HB8 := Lib.hid hm3.2.1; have HFA := Lib.hid hm3.2.2; clear hm3; have HX1 := Lib.hid hx1; have HY1 := Lib.hid hy1; have HW1 := Lib.hid (show WB.heap.size ≤ w1.heap.size from hf1.size)); clear hr1 hf1 hx1 hy1)
  refine wp_region_G (S := fun w' => w'.cell? ⟨w1.heap.size + 1, 0, none⟩ = some (.slice a1 L1 l1) ∧ w'.cell? ⟨w1.heap.size + 1, 1, none⟩ = some (.bool b1) ∧ w'.cell? ⟨w1.heap.size, 0, none⟩ = some (.slice a2 es.length c2) ∧ w'.cell? ⟨w1.heap.size, 1, none⟩ = some (.slice a3 ks.len c3) ∧ w'.cell? ⟨w1.heap.size, 2, none⟩ = some (.slice a4 c.length c4)) 6 (by kernel_rfl) ⟨(Frm.drew NoS _).cell' (cell_at' HG3.out.box 0 rfl) id, (Frm.drew NoS _).cell' (cell_at' HG3.out.box 1 rfl) id, (Frm.drew NoS _).cell' (cell_at' HB8.out 0 rfl) id, (Frm.drew NoS _).cell' (cell_at' HB8.out 1 rfl) id, (Frm.drew NoS _).cell' (cell_at' HB8.out 2 rfl) id⟩ ?_
  intro hS
  have HGD := Lib.hid (HG3.out.keep0 (Frm.drew NoS _))
  have HBD := Lib.hid ((Frm.drew NoS _).blk HB8.out id)
  have HFD := Lib.hid (HFA.out.then1 (Frm.drew NoS _))
  generalize hY0 : World.drew _ = Y0 at *
  clear hY0 HG3 HB8 HFA
  refine take_opG 0 49 (v := ?_) rfl rfl (by kernel_rfl) (by kernel_rfl) (by decide) (by kernel_rfl) (by kernel_rfl) (fun _ _ _ h => h) (Or.inl ⟨by rfl, ?_⟩) (by assumption) ?_
  rotate_left 1
  · (intro w hSw; (try dsimp only at hSw); go_simp; (try with_reducible rfl))
  try simp only [Act.put, List.setIfInBounds_toArray, List.set_cons_zero, List.set_cons_succ]
  refine take_opG 1 50 (v := ?_) rfl rfl (by kernel_rfl) (by kernel_rfl) (by decide) (by kernel_rfl) (by kernel_rfl) (fun _ _ _ h => h) (Or.inl ⟨by rfl, ?_⟩) (by assumption) ?_
  rotate_left 1
  · (intro w hSw; (try dsimp only at hSw); go_simp; (try with_reducible rfl))
  try simp only [Act.put, List.setIfInBounds_toArray, List.set_cons_zero, List.set_cons_succ]
  refine take_opG 3 52 (v := ?_) rfl rfl (by kernel_rfl) (by kernel_rfl) (by decide) (by kernel_rfl) (by kernel_rfl) (fun _ _ _ h => h) (Or.inl ⟨by rfl, ?_⟩) (by assumption) ?_
  rotate_left 1
  · (intro w hSw; (try dsimp only at hSw); go_simp; (try with_reducible rfl))
  try simp only [Act.put, List.setIfInBounds_toArray, List.set_cons_zero, List.set_cons_succ]
  refine one_opG (i := 2) (by kernel_rfl) rfl (fun K hK => ?_)
  go_simp
  refine (HGET.out _ HGD.out.ins).mono ?_
  rintro e4 Y4 ⟨ev4, kv4, cv4, rfl, hx4, hy4, hi4, hf4⟩
  obtain ⟨a5, c5, rfl⟩ := hx4.ents.rd.sl
  obtain ⟨os5, hkr5, -⟩ := hx4.kids
  obtain ⟨a6, c6, rfl⟩ := hkr5.rd.sl
  clear hkr5
  obtain ⟨a7, c7, rfl⟩ := hy4.rd.sl
  have HG4 := Lib.hid (HGD.out.get hi4 hf4)
  have HB4 := Lib.hid (hf4.blk HBD.out fun e => (by have e : w1.heap.size = ib := e; have := HGD.out.hib; have := HW1.out; have := HSW.out; omega))
  have HX4 := Lib.hid (⟨(HX1.out.keep HFD.out fun _ _ e => e.elim).keep hf4 (fun i hi e hQ => (by have e : i = ib := e; have hQ : WB.heap.size ≤ i := hQ; have := HGD.out.hib; have := HSW.out; omega)), ((RdQ.keep HY1.out HFD.out fun _ _ e => e.elim).keep hf4 (fun i hi e hQ => (by have e : i = ib := e; have hQ : WB.heap.size ≤ i := hQ; have := HGD.out.hib; have := HSW.out; omega))).rd⟩ : CauAt _ Y4 _ _ _ es ks c)
  have HSM := Lib.hid (r9Same_any _ _ es ks c es ks c Y4 _ _ _ _ _ _ ⟨hx4, hy4.at_⟩ HOK.out HX4.out HOK.out)
  rw [tf_true ⟨⟨rfl, rfl⟩, rfl⟩] at HSM
  have hS4 := (⟨cell_at' HG4.out.box 0 rfl, cell_at' HG4.out.box 1 rfl, cell_at' HB4.out 0 rfl, cell_at' HB4.out 1 rfl, cell_at' HB4.out 2 rfl⟩ : Y4.cell? ⟨w1.heap.size + 1, 0, none⟩ = some (.slice a1 L1 l1) ∧ Y4.cell? ⟨w1.heap.size + 1, 1, none⟩ = some (.bool b1) ∧ Y4.cell? ⟨w1.heap.size, 0, none⟩ = some (.slice a2 es.length c2) ∧ Y4.cell? ⟨w1.heap.size, 1, none⟩ = some (.slice a3 ks.len c3) ∧ Y4.cell? ⟨w1.heap.size, 2, none⟩ = some (.slice a4 c.length c4))
  refine hK.out _ _ hS4 ?_
  clear hK K hS hi4 hf4 hx4 hy4
  try simp only [Act.put, List.setIfInBounds_toArray, List.set_cons_zero, List.set_cons_succ]
  refine one_opG (i := 4) (by kernel_rfl) rfl (fun K hK => ?_)
  go_simp
  refine HSM.out.mono ?_
  rintro e5 Y5 ⟨rfl, hf5⟩
  have HG5 := Lib.hid (HG4.out.keep0 hf5)
  have HB5 := Lib.hid (hf5.blk HB4.out id)
  have hS5 := (⟨cell_at' HG5.out.box 0 rfl, cell_at' HG5.out.box 1 rfl, cell_at' HB5.out 0 rfl, cell_at' HB5.out 1 rfl, cell_at' HB5.out 2 rfl⟩ : Y5.cell? ⟨w1.heap.size + 1, 0, none⟩ = some (.slice a1 L1 l1) ∧ Y5.cell? ⟨w1.heap.size + 1, 1, none⟩ = some (.bool b1) ∧ Y5.cell? ⟨w1.heap.size, 0, none⟩ = some (.slice a2 es.length c2) ∧ Y5.cell? ⟨w1.heap.size, 1, none⟩ = some (.slice a3 ks.len c3) ∧ Y5.cell? ⟨w1.heap.size, 2, none⟩ = some (.slice a4 c.length c4))
  have r0 := cell_at' HG5.out.res 0 rfl
  have r1 := cell_at' HG5.out.res 1 rfl
  have r2 := free_at' HG5.out.res 0
  have r3 := free_at' HG5.out.res 1
  have r4 := lt_of_block HG5.out.res
  refine hK.out _ _ hS5 ?_
  clear hK K hS4 hf5
  try simp only [Act.put, List.setIfInBounds_toArray, List.set_cons_zero, List.set_cons_succ]
  refine one_opG (i := 5) (by kernel_rfl) rfl (fun K hK => ?_)
  go_simp
  have hS6 := (⟨(two_set Y5 (W.heap.size + 1) (.slice a1 L1 l1) (.bool b1)).cell' (cell_at' HG5.out.box 0 rfl) (fun e => by have e : w1.heap.size + 1 = W.heap.size + 1 := e; exact HG5.out.hN e), (two_set Y5 (W.heap.size + 1) (.slice a1 L1 l1) (.bool b1)).cell' (cell_at' HG5.out.box 1 rfl) (fun e => by have e : w1.heap.size + 1 = W.heap.size + 1 := e; exact HG5.out.hN e), (two_set Y5 (W.heap.size + 1) (.slice a1 L1 l1) (.bool b1)).cell' (cell_at' HB5.out 0 rfl) (fun e => by have e : w1.heap.size = W.heap.size + 1 := e; have := HW1.out; have := HSW.out; omega), (two_set Y5 (W.heap.size + 1) (.slice a1 L1 l1) (.bool b1)).cell' (cell_at' HB5.out 1 rfl) (fun e => by have e : w1.heap.size = W.heap.size + 1 := e; have := HW1.out; have := HSW.out; omega), (two_set Y5 (W.heap.size + 1) (.slice a1 L1 l1) (.bool b1)).cell' (cell_at' HB5.out 2 rfl) (fun e => by have e : w1.heap.size = W.heap.size + 1 := e; have := HW1.out; have := HSW.out; omega)⟩ : ((Y5.setCell ⟨W.heap.size + 1, 0, none⟩ (.slice a1 L1 l1)).setCell ⟨W.heap.size + 1, 1, none⟩ (.bool b1)).cell? ⟨w1.heap.size + 1, 0, none⟩ = some (.slice a1 L1 l1) ∧ ((Y5.setCell ⟨W.heap.size + 1, 0, none⟩ (.slice a1 L1 l1)).setCell ⟨W.heap.size + 1, 1, none⟩ (.bool b1)).cell? ⟨w1.heap.size + 1, 1, none⟩ = some (.bool b1) ∧ ((Y5.setCell ⟨W.heap.size + 1, 0, none⟩ (.slice a1 L1 l1)).setCell ⟨W.heap.size + 1, 1, none⟩ (.bool b1)).cell? ⟨w1.heap.size, 0, none⟩ = some (.slice a2 es.length c2) ∧ ((Y5.setCell ⟨W.heap.size + 1, 0, none⟩ (.slice a1 L1 l1)).setCell ⟨W.heap.size + 1, 1, none⟩ (.bool b1)).cell? ⟨w1.heap.size, 1, none⟩ = some (.slice a3 ks.len c3) ∧ ((Y5.setCell ⟨W.heap.size + 1, 0, none⟩ (.slice a1 L1 l1)).setCell ⟨W.heap.size + 1, 1, none⟩ (.bool b1)).cell? ⟨w1.heap.size, 2, none⟩ = some (.slice a4 c.length c4))
  refine hK.out _ _ hS6 ?_
  clear hK K hS5 r0 r1 r2 r3 r4
  try simp only [Act.put, List.setIfInBounds_toArray, List.set_cons_zero, List.set_cons_succ]
  refine last_opG (by kernel_rfl) (by kernel_rfl) rfl (fun K hK => ?_)
  go_simp
  refine hK.out _ _ ?_
  clear hK K hS6
  obtain ⟨z1, z2, z3, z4⟩ := HG5.out.out (.slice a1 L1 l1) (.bool b1)
  have y0 := cell_at' z4 0 rfl
  have y1 := cell_at' z4 1 rfl
  go_wp2
  have e1 := HL1.out
  have e2 := HB1.out
  have e3 := HLF.out
  have e4 := HL0.out
  subst e1 e2
  exact bodyPost_ret (v := .tuple #[.agg #[.slice a1 (leftOf s1).length l1, .bool s1.isNone], .bool true]) (by simp [results, Tryz.results16, go_sem, y0, y1]) rfl ⟨s1, a1, l1, rfl, z2, z3, z1, by omega⟩
end Go.Proofs.YtggfoihfenlckaaGreat
/- tributarylaw16: get: kind 3. Printed by wip/get16gen.py. -/
namespace Go.Proofs.YtggfoihfenlckaaGreat
open Go.RowKit
set_option maxHeartbeats 8000000 in
set_option maxRecDepth 1000000 in
theorem get16_3 (w0 W : World) {st : Option (List UInt8)} {ss : List ByteArray} {a n : Int} {s : ByteArray} {s1 : Option (List UInt8)} (k : Int) (ib : Nat) (wv : Value) (hib : w0.heap.size ≤ ib) (hi : InSt W ib st) (hr : RIn w0 W wv st) (hl : (leftOf st).length ≤ 6000) (hc : OpRes st ss a s n s1) (hk : k = 3) :
    Calls Tryz.prog 16 #[.pointer (some ⟨ib, 0, none⟩), .agg #[wv, .bool st.isNone], .int .u8 k] W (Get16Post w0 st ib W) := by
  subst hk
  obtain ⟨a0, c0, rfl⟩ := hr.shape
  obtain ⟨WB, hWB⟩ : ∃ X, X = (W.alloc (.cells #[.slice a0 (leftOf st).length c0, .bool st.isNone] 51)).alloc (.cells #[.slice none 0 0, .bool false] 51) := ⟨_, rfl⟩
  have fB : Frm NoS W WB := by rw [hWB]; exact (Frm.alloc NoS _ _).alloc1
  have h0W : w0.heap.size ≤ W.heap.size := by have := hi.lt; omega
  have HT := Lib.hid (r16ToOp_at WB (hr.keep0 fB) (Nat.le_trans h0W fB.size) hc (Nat.le_trans hl (by decide)))
  unfold ToOpPost at HT
  have HGET := Lib.hid (fun Y (h : InSt Y ib st) => pGetOp_at ib st s1 ss a n s Y hc h (Nat.le_trans hl (by decide)))
  unfold OpTk at HGET
  have HLF := Lib.hid hc.left
  have HSZ := Lib.hid (show ss.length ≤ 100000 by have := hc.len; omega)
  have hsW : W.heap.size + 1 < WB.heap.size := by rw [hWB]; simp
  have HSW := Lib.hid hsW; clear hsW
  have HI := Lib.hid hi; clear hi
  have HIB := Lib.hid hib; clear hib
  clear hr hc fB h0W hl
  generalize hbd : st.isNone = bd at *
  generalize hLL : (leftOf st).length = L0 at *
  generalize hL1 : (leftOf s1).length = L1 at *
  generalize hb1 : s1.isNone = b1 at *
  have HWB := Lib.hid hWB; clear hWB
  have HL0 := Lib.hid hLL; clear hLL hbd
  have HL1 := Lib.hid hL1; clear hL1
  have HB1 := Lib.hid hb1; clear hb1
  go_enter Tryz.func16, Tryz.ntmps16
  go_wp2_with (go_at_call 65; rw [show (W.alloc (.cells #[.slice a0 L0 c0, .bool bd] 51)).alloc (.cells #[.slice none 0 0, .bool false] 51) = WB from HWB.out.symm]; go_loud (refine HT.out.mono ?_); rintro e w1 ⟨pv, a1, l1, rfl, hx1, hr1, hf1⟩; obtain ⟨a2, c2, rfl⟩ := hx1.rd.sl; go_loud (have hm3 := GM.of1 (b := b1) (cs := #[.slice a2 ss.length c2, .int .i64 a, .string s, .int .i64 n]) (T := 40) HI.out HIB.out HWB.out hf1 hr1; have HG3 := Lib.hid hm3.1; have HB8 := Lib.hid hm3.2.1; have HFA := Lib.hid hm3.2.2; clear hm3; have HX1 := Lib.hid hx1; have HW1 := Lib.hid (show WB.heap.size ≤ w1.heap.size from hf1.size)); clear hr1 hf1 hx1)
  refine wp_region_G (S := fun w' => w'.cell? ⟨w1.heap.size + 1, 0, none⟩ = some (.slice a1 L1 l1) ∧ w'.cell? ⟨w1.heap.size + 1, 1, none⟩ = some (.bool b1) ∧ w'.cell? ⟨w1.heap.size, 0, none⟩ = some (.slice a2 ss.length c2) ∧ w'.cell? ⟨w1.heap.size, 1, none⟩ = some (.int .i64 a) ∧ w'.cell? ⟨w1.heap.size, 2, none⟩ = some (.string s) ∧ w'.cell? ⟨w1.heap.size, 3, none⟩ = some (.int .i64 n)) 6 (by kernel_rfl) ⟨(Frm.drew NoS _).cell' (cell_at' HG3.out.box 0 rfl) id, (Frm.drew NoS _).cell' (cell_at' HG3.out.box 1 rfl) id, (Frm.drew NoS _).cell' (cell_at' HB8.out 0 rfl) id, (Frm.drew NoS _).cell' (cell_at' HB8.out 1 rfl) id, (Frm.drew NoS _).cell' (cell_at' HB8.out 2 rfl) id, (Frm.drew NoS _).cell' (cell_at' HB8.out 3 rfl) id⟩ ?_
  intro hS
  have HGD := Lib.hid (HG3.out.keep0 (Frm.drew NoS _))
  have HBD := Lib.hid ((Frm.drew NoS _).blk HB8.out id)
  have HFD := Lib.hid (HFA.out.then1 (Frm.drew NoS _))
  generalize hY0 : World.drew _ = Y0 at *
  clear hY0 HG3 HB8 HFA
  refine take_opG 0 61 (v := ?_) rfl rfl (by kernel_rfl) (by kernel_rfl) (by decide) (by kernel_rfl) (by kernel_rfl) (fun _ _ _ h => h) (Or.inl ⟨by rfl, ?_⟩) (by assumption) ?_
  rotate_left 1
  · (intro w hSw; (try dsimp only at hSw); go_simp; (try with_reducible rfl))
  try simp only [Act.put, List.setIfInBounds_toArray, List.set_cons_zero, List.set_cons_succ]
  refine take_opG 1 62 (v := ?_) rfl rfl (by kernel_rfl) (by kernel_rfl) (by decide) (by kernel_rfl) (by kernel_rfl) (fun _ _ _ h => h) (Or.inl ⟨by rfl, ?_⟩) (by assumption) ?_
  rotate_left 1
  · (intro w hSw; (try dsimp only at hSw); go_simp; (try with_reducible rfl))
  try simp only [Act.put, List.setIfInBounds_toArray, List.set_cons_zero, List.set_cons_succ]
  refine take_opG 3 64 (v := ?_) rfl rfl (by kernel_rfl) (by kernel_rfl) (by decide) (by kernel_rfl) (by kernel_rfl) (fun _ _ _ h => h) (Or.inl ⟨by rfl, ?_⟩) (by assumption) ?_
  rotate_left 1
  · (intro w hSw; (try dsimp only at hSw); go_simp; (try with_reducible rfl))
  try simp only [Act.put, List.setIfInBounds_toArray, List.set_cons_zero, List.set_cons_succ]
  refine one_opG (i := 2) (by kernel_rfl) rfl (fun K hK => ?_)
  go_simp
  refine (HGET.out _ HGD.out.ins).mono ?_
  rintro e4 Y4 ⟨pv4, rfl, hx4, hi4, hf4⟩
  obtain ⟨a5, c5, rfl⟩ := hx4.rd.sl
  have HG4 := Lib.hid (HGD.out.get hi4 hf4)
  have HB4 := Lib.hid (hf4.blk HBD.out fun e => (by have e : w1.heap.size = ib := e; have := HGD.out.hib; have := HW1.out; have := HSW.out; omega))
  have HX4 := Lib.hid (show StrsAt Y4 _ ss from ((RdQ.keep HX1.out HFD.out fun _ _ e => e.elim).keep hf4 (fun i hi e hQ => (by have e : i = ib := e; have hQ : WB.heap.size ≤ i := hQ; have := HGD.out.hib; have := HSW.out; omega))).rd)
  have HSM := Lib.hid (r16SameOp_same ss a n s Y4 _ _ hx4.rd HX4.out HSZ.out)
  have hS4 := (⟨cell_at' HG4.out.box 0 rfl, cell_at' HG4.out.box 1 rfl, cell_at' HB4.out 0 rfl, cell_at' HB4.out 1 rfl, cell_at' HB4.out 2 rfl, cell_at' HB4.out 3 rfl⟩ : Y4.cell? ⟨w1.heap.size + 1, 0, none⟩ = some (.slice a1 L1 l1) ∧ Y4.cell? ⟨w1.heap.size + 1, 1, none⟩ = some (.bool b1) ∧ Y4.cell? ⟨w1.heap.size, 0, none⟩ = some (.slice a2 ss.length c2) ∧ Y4.cell? ⟨w1.heap.size, 1, none⟩ = some (.int .i64 a) ∧ Y4.cell? ⟨w1.heap.size, 2, none⟩ = some (.string s) ∧ Y4.cell? ⟨w1.heap.size, 3, none⟩ = some (.int .i64 n))
  refine hK.out _ _ hS4 ?_
  clear hK K hS hi4 hf4 hx4
  try simp only [Act.put, List.setIfInBounds_toArray, List.set_cons_zero, List.set_cons_succ]
  refine one_opG (i := 4) (by kernel_rfl) rfl (fun K hK => ?_)
  go_simp
  refine HSM.out.mono ?_
  rintro e5 Y5 ⟨rfl, hf5⟩
  have HG5 := Lib.hid (HG4.out.keep0 hf5)
  have HB5 := Lib.hid (hf5.blk HB4.out id)
  have hS5 := (⟨cell_at' HG5.out.box 0 rfl, cell_at' HG5.out.box 1 rfl, cell_at' HB5.out 0 rfl, cell_at' HB5.out 1 rfl, cell_at' HB5.out 2 rfl, cell_at' HB5.out 3 rfl⟩ : Y5.cell? ⟨w1.heap.size + 1, 0, none⟩ = some (.slice a1 L1 l1) ∧ Y5.cell? ⟨w1.heap.size + 1, 1, none⟩ = some (.bool b1) ∧ Y5.cell? ⟨w1.heap.size, 0, none⟩ = some (.slice a2 ss.length c2) ∧ Y5.cell? ⟨w1.heap.size, 1, none⟩ = some (.int .i64 a) ∧ Y5.cell? ⟨w1.heap.size, 2, none⟩ = some (.string s) ∧ Y5.cell? ⟨w1.heap.size, 3, none⟩ = some (.int .i64 n))
  have r0 := cell_at' HG5.out.res 0 rfl
  have r1 := cell_at' HG5.out.res 1 rfl
  have r2 := free_at' HG5.out.res 0
  have r3 := free_at' HG5.out.res 1
  have r4 := lt_of_block HG5.out.res
  refine hK.out _ _ hS5 ?_
  clear hK K hS4 hf5
  try simp only [Act.put, List.setIfInBounds_toArray, List.set_cons_zero, List.set_cons_succ]
  refine one_opG (i := 5) (by kernel_rfl) rfl (fun K hK => ?_)
  go_simp
  have hS6 := (⟨(two_set Y5 (W.heap.size + 1) (.slice a1 L1 l1) (.bool b1)).cell' (cell_at' HG5.out.box 0 rfl) (fun e => by have e : w1.heap.size + 1 = W.heap.size + 1 := e; exact HG5.out.hN e), (two_set Y5 (W.heap.size + 1) (.slice a1 L1 l1) (.bool b1)).cell' (cell_at' HG5.out.box 1 rfl) (fun e => by have e : w1.heap.size + 1 = W.heap.size + 1 := e; exact HG5.out.hN e), (two_set Y5 (W.heap.size + 1) (.slice a1 L1 l1) (.bool b1)).cell' (cell_at' HB5.out 0 rfl) (fun e => by have e : w1.heap.size = W.heap.size + 1 := e; have := HW1.out; have := HSW.out; omega), (two_set Y5 (W.heap.size + 1) (.slice a1 L1 l1) (.bool b1)).cell' (cell_at' HB5.out 1 rfl) (fun e => by have e : w1.heap.size = W.heap.size + 1 := e; have := HW1.out; have := HSW.out; omega), (two_set Y5 (W.heap.size + 1) (.slice a1 L1 l1) (.bool b1)).cell' (cell_at' HB5.out 2 rfl) (fun e => by have e : w1.heap.size = W.heap.size + 1 := e; have := HW1.out; have := HSW.out; omega), (two_set Y5 (W.heap.size + 1) (.slice a1 L1 l1) (.bool b1)).cell' (cell_at' HB5.out 3 rfl) (fun e => by have e : w1.heap.size = W.heap.size + 1 := e; have := HW1.out; have := HSW.out; omega)⟩ : ((Y5.setCell ⟨W.heap.size + 1, 0, none⟩ (.slice a1 L1 l1)).setCell ⟨W.heap.size + 1, 1, none⟩ (.bool b1)).cell? ⟨w1.heap.size + 1, 0, none⟩ = some (.slice a1 L1 l1) ∧ ((Y5.setCell ⟨W.heap.size + 1, 0, none⟩ (.slice a1 L1 l1)).setCell ⟨W.heap.size + 1, 1, none⟩ (.bool b1)).cell? ⟨w1.heap.size + 1, 1, none⟩ = some (.bool b1) ∧ ((Y5.setCell ⟨W.heap.size + 1, 0, none⟩ (.slice a1 L1 l1)).setCell ⟨W.heap.size + 1, 1, none⟩ (.bool b1)).cell? ⟨w1.heap.size, 0, none⟩ = some (.slice a2 ss.length c2) ∧ ((Y5.setCell ⟨W.heap.size + 1, 0, none⟩ (.slice a1 L1 l1)).setCell ⟨W.heap.size + 1, 1, none⟩ (.bool b1)).cell? ⟨w1.heap.size, 1, none⟩ = some (.int .i64 a) ∧ ((Y5.setCell ⟨W.heap.size + 1, 0, none⟩ (.slice a1 L1 l1)).setCell ⟨W.heap.size + 1, 1, none⟩ (.bool b1)).cell? ⟨w1.heap.size, 2, none⟩ = some (.string s) ∧ ((Y5.setCell ⟨W.heap.size + 1, 0, none⟩ (.slice a1 L1 l1)).setCell ⟨W.heap.size + 1, 1, none⟩ (.bool b1)).cell? ⟨w1.heap.size, 3, none⟩ = some (.int .i64 n))
  refine hK.out _ _ hS6 ?_
  clear hK K hS5 r0 r1 r2 r3 r4
  try simp only [Act.put, List.setIfInBounds_toArray, List.set_cons_zero, List.set_cons_succ]
  refine last_opG (by kernel_rfl) (by kernel_rfl) rfl (fun K hK => ?_)
  go_simp
  refine hK.out _ _ ?_
  clear hK K hS6
  obtain ⟨z1, z2, z3, z4⟩ := HG5.out.out (.slice a1 L1 l1) (.bool b1)
  have y0 := cell_at' z4 0 rfl
  have y1 := cell_at' z4 1 rfl
  go_wp2
  have e1 := HL1.out
  have e2 := HB1.out
  have e3 := HLF.out
  have e4 := HL0.out
  subst e1 e2
  exact bodyPost_ret (v := .tuple #[.agg #[.slice a1 (leftOf s1).length l1, .bool s1.isNone], .bool true]) (by simp [results, Tryz.results16, go_sem, y0, y1]) rfl ⟨s1, a1, l1, rfl, z2, z3, z1, by omega⟩
end Go.Proofs.YtggfoihfenlckaaGreat
/- tributarylaw16: get: kind 4. Printed by wip/get16gen.py. -/
namespace Go.Proofs.YtggfoihfenlckaaGreat
open Go.RowKit
set_option maxHeartbeats 8000000 in
set_option maxRecDepth 1000000 in
theorem get16_4 (w0 W : World) {st : Option (List UInt8)} {u0 u1 u2 u3 : Int} {s1 : Option (List UInt8)} (k : Int) (ib : Nat) (wv : Value) (hib : w0.heap.size ≤ ib) (hi : InSt W ib st) (hr : RIn w0 W wv st) (hl : (leftOf st).length ≤ 6000) (hc : VecRes st u0 u1 u2 u3 s1) (h0' : k ≠ 0) (h1' : k ≠ 1) (h2' : k ≠ 2) (h3' : k ≠ 3) :
    Calls Tryz.prog 16 #[.pointer (some ⟨ib, 0, none⟩), .agg #[wv, .bool st.isNone], .int .u8 k] W (Get16Post w0 st ib W) := by
  have b0 : ((k : Int) == 0) = false := beq_false_of_ne h0'
  have b1 : ((k : Int) == 1) = false := beq_false_of_ne h1'
  have b2 : ((k : Int) == 2) = false := beq_false_of_ne h2'
  have b3 : ((k : Int) == 3) = false := beq_false_of_ne h3'
  have hve := vec_same u0 u1 u2 u3
  obtain ⟨a0, c0, rfl⟩ := hr.shape
  obtain ⟨WB, hWB⟩ : ∃ X, X = (W.alloc (.cells #[.slice a0 (leftOf st).length c0, .bool st.isNone] 51)).alloc (.cells #[.slice none 0 0, .bool false] 51) := ⟨_, rfl⟩
  have fB : Frm NoS W WB := by rw [hWB]; exact (Frm.alloc NoS _ _).alloc1
  have h0W : w0.heap.size ≤ W.heap.size := by have := hi.lt; omega
  have HT := Lib.hid (r16ToVector_at WB (hr.keep0 fB) (Nat.le_trans h0W fB.size) hc)
  unfold ToVecPost at HT
  have HGET := Lib.hid (fun Y (h : InSt Y ib st) => pGetVector_at ib st s1 u0 u1 u2 u3 Y hc h)
  unfold VecTk at HGET
  have HLF := Lib.hid hc.left
  have hbx0 : WB.heap[W.heap.size]? = some (.cells #[.slice a0 (leftOf st).length c0, .bool st.isNone] 51 (0, 0)) := by rw [hWB]; exact (Frm.alloc NoS _ _).blk (heap_alloc_new W _) id
  have HBX := Lib.hid hbx0; clear hbx0
  have hsW : W.heap.size + 1 < WB.heap.size := by rw [hWB]; simp
  have HSW := Lib.hid hsW; clear hsW
  have HI := Lib.hid hi; clear hi
  have HIB := Lib.hid hib; clear hib
  clear hr hc fB h0W hl
  generalize hbd : st.isNone = bd at *
  generalize hLL : (leftOf st).length = L0 at *
  generalize hL1 : (leftOf s1).length = L1 at *
  generalize hb1 : s1.isNone = b1 at *
  have HWB := Lib.hid hWB; clear hWB
  have HL0 := Lib.hid hLL; clear hLL hbd
  have HL1 := Lib.hid hL1; clear hL1
  have HB1 := Lib.hid hb1; clear hb1
  go_enter Tryz.func16, Tryz.ntmps16
  go_wp2_with (go_at_call 66; rw [show (W.alloc (.cells #[.slice a0 L0 c0, .bool bd] 51)).alloc (.cells #[.slice none 0 0, .bool false] 51) = WB from HWB.out.symm]; go_loud (refine HT.out.mono ?_); rintro e w1 ⟨a1, l1, rfl, hr1, hf1⟩; obtain ⟨p0, p1, p2, p3, p4⟩ := (⟨cell_at' (hf1.blk HBX.out id) 0 rfl, cell_at' (hf1.blk HBX.out id) 1 rfl, free_at' (hf1.blk HBX.out id) 0, free_at' (hf1.blk HBX.out id) 1, lt_of_block (hf1.blk HBX.out id)⟩ : _ ∧ _ ∧ _ ∧ _ ∧ _); have p5 : ¬ w1.heap.size = W.heap.size := (by omega); have p6 : ¬ W.heap.size = w1.heap.size := (by omega); go_loud (have hm3 := GM.of2 (b := b1) (cs := #[.int .i64 u0, .int .i64 u1, .int .i64 u2, .int .i64 u3]) (T := 42) HI.out HIB.out HWB.out hf1 hr1; have HG3 := Lib.hid hm3.1; have HB8 := Lib.hid hm3.2; have HW1 := Lib.hid (show WB.heap.size ≤ w1.heap.size from hf1.size); clear hm3); clear hr1 hf1 )
  clear p0 p1 p2 p3 p4 p5 p6
  refine wp_region_G (S := fun w' => w'.cell? ⟨W.heap.size, 0, none⟩ = some (.slice a1 L1 l1) ∧ w'.cell? ⟨W.heap.size, 1, none⟩ = some (.bool b1) ∧ w'.cell? ⟨w1.heap.size, 0, none⟩ = some (.int .i64 u0) ∧ w'.cell? ⟨w1.heap.size, 1, none⟩ = some (.int .i64 u1) ∧ w'.cell? ⟨w1.heap.size, 2, none⟩ = some (.int .i64 u2) ∧ w'.cell? ⟨w1.heap.size, 3, none⟩ = some (.int .i64 u3)) 6 (by kernel_rfl) ⟨(Frm.drew NoS _).cell' (cell_at' HG3.out.box 0 rfl) id, (Frm.drew NoS _).cell' (cell_at' HG3.out.box 1 rfl) id, (Frm.drew NoS _).cell' (cell_at' HB8.out 0 rfl) id, (Frm.drew NoS _).cell' (cell_at' HB8.out 1 rfl) id, (Frm.drew NoS _).cell' (cell_at' HB8.out 2 rfl) id, (Frm.drew NoS _).cell' (cell_at' HB8.out 3 rfl) id⟩ ?_
  intro hS
  have HGD := Lib.hid (HG3.out.keep0 (Frm.drew NoS _))
  have HBD := Lib.hid ((Frm.drew NoS _).blk HB8.out id)
  generalize hY0 : World.drew _ = Y0 at *
  clear hY0 HG3 HB8
  refine take_opG 0 71 (v := ?_) rfl rfl (by kernel_rfl) (by kernel_rfl) (by decide) (by kernel_rfl) (by kernel_rfl) (fun _ _ _ h => h) (Or.inl ⟨by rfl, ?_⟩) (by assumption) ?_
  rotate_left 1
  · (intro w hSw; (try dsimp only at hSw); go_simp; (try with_reducible rfl))
  try simp only [Act.put, List.setIfInBounds_toArray, List.set_cons_zero, List.set_cons_succ]
  refine take_opG 1 72 (v := ?_) rfl rfl (by kernel_rfl) (by kernel_rfl) (by decide) (by kernel_rfl) (by kernel_rfl) (fun _ _ _ h => h) (Or.inl ⟨by rfl, ?_⟩) (by assumption) ?_
  rotate_left 1
  · (intro w hSw; (try dsimp only at hSw); go_simp; (try with_reducible rfl))
  try simp only [Act.put, List.setIfInBounds_toArray, List.set_cons_zero, List.set_cons_succ]
  refine take_opG 3 74 (v := ?_) rfl rfl (by kernel_rfl) (by kernel_rfl) (by decide) (by kernel_rfl) (by kernel_rfl) (fun _ _ _ h => h) (Or.inl ⟨by rfl, ?_⟩) (by assumption) ?_
  rotate_left 1
  · (intro w hSw; (try dsimp only at hSw); go_simp; (try with_reducible rfl))
  try simp only [Act.put, List.setIfInBounds_toArray, List.set_cons_zero, List.set_cons_succ]
  refine one_opG (i := 2) (by kernel_rfl) rfl (fun K hK => ?_)
  go_simp
  refine (HGET.out _ HGD.out.ins).mono ?_
  rintro e4 Y4 ⟨rfl, hi4, hf4⟩
  have HG4 := Lib.hid (HGD.out.get hi4 hf4)
  have HB4 := Lib.hid (hf4.blk HBD.out fun e => (by have e : w1.heap.size = ib := e; have := HGD.out.hib; have := HW1.out; have := HSW.out; omega))
  have hS4 := (⟨cell_at' HG4.out.box 0 rfl, cell_at' HG4.out.box 1 rfl, cell_at' HB4.out 0 rfl, cell_at' HB4.out 1 rfl, cell_at' HB4.out 2 rfl, cell_at' HB4.out 3 rfl⟩ : Y4.cell? ⟨W.heap.size, 0, none⟩ = some (.slice a1 L1 l1) ∧ Y4.cell? ⟨W.heap.size, 1, none⟩ = some (.bool b1) ∧ Y4.cell? ⟨w1.heap.size, 0, none⟩ = some (.int .i64 u0) ∧ Y4.cell? ⟨w1.heap.size, 1, none⟩ = some (.int .i64 u1) ∧ Y4.cell? ⟨w1.heap.size, 2, none⟩ = some (.int .i64 u2) ∧ Y4.cell? ⟨w1.heap.size, 3, none⟩ = some (.int .i64 u3))
  have r0 := cell_at' HG4.out.res 0 rfl
  have r1 := cell_at' HG4.out.res 1 rfl
  have r2 := free_at' HG4.out.res 0
  have r3 := free_at' HG4.out.res 1
  have r4 := lt_of_block HG4.out.res
  refine hK.out _ _ hS4 ?_
  clear hK K hS hi4 hf4
  try simp only [Act.put, List.setIfInBounds_toArray, List.set_cons_zero, List.set_cons_succ]
  refine take_opG 4 75 (v := ?_) rfl rfl (by kernel_rfl) (by kernel_rfl) (by decide) (by kernel_rfl) (by kernel_rfl) (fun _ _ _ h => h) (Or.inl ⟨by rfl, ?_⟩) (by assumption) ?_
  rotate_left 1
  · (intro w hSw; (try dsimp only at hSw); go_simp; (try with_reducible rfl))
  try simp only [Act.put, List.setIfInBounds_toArray, List.set_cons_zero, List.set_cons_succ]
  refine one_opG (i := 5) (by kernel_rfl) rfl (fun K hK => ?_)
  go_simp
  have hS6 := (⟨(two_set Y4 (W.heap.size + 1) (.slice a1 L1 l1) (.bool b1)).cell' (cell_at' HG4.out.box 0 rfl) (fun e => by have e : W.heap.size = W.heap.size + 1 := e; exact HG4.out.hN e), (two_set Y4 (W.heap.size + 1) (.slice a1 L1 l1) (.bool b1)).cell' (cell_at' HG4.out.box 1 rfl) (fun e => by have e : W.heap.size = W.heap.size + 1 := e; exact HG4.out.hN e), (two_set Y4 (W.heap.size + 1) (.slice a1 L1 l1) (.bool b1)).cell' (cell_at' HB4.out 0 rfl) (fun e => by have e : w1.heap.size = W.heap.size + 1 := e; have := HW1.out; have := HSW.out; omega), (two_set Y4 (W.heap.size + 1) (.slice a1 L1 l1) (.bool b1)).cell' (cell_at' HB4.out 1 rfl) (fun e => by have e : w1.heap.size = W.heap.size + 1 := e; have := HW1.out; have := HSW.out; omega), (two_set Y4 (W.heap.size + 1) (.slice a1 L1 l1) (.bool b1)).cell' (cell_at' HB4.out 2 rfl) (fun e => by have e : w1.heap.size = W.heap.size + 1 := e; have := HW1.out; have := HSW.out; omega), (two_set Y4 (W.heap.size + 1) (.slice a1 L1 l1) (.bool b1)).cell' (cell_at' HB4.out 3 rfl) (fun e => by have e : w1.heap.size = W.heap.size + 1 := e; have := HW1.out; have := HSW.out; omega)⟩ : ((Y4.setCell ⟨W.heap.size + 1, 0, none⟩ (.slice a1 L1 l1)).setCell ⟨W.heap.size + 1, 1, none⟩ (.bool b1)).cell? ⟨W.heap.size, 0, none⟩ = some (.slice a1 L1 l1) ∧ ((Y4.setCell ⟨W.heap.size + 1, 0, none⟩ (.slice a1 L1 l1)).setCell ⟨W.heap.size + 1, 1, none⟩ (.bool b1)).cell? ⟨W.heap.size, 1, none⟩ = some (.bool b1) ∧ ((Y4.setCell ⟨W.heap.size + 1, 0, none⟩ (.slice a1 L1 l1)).setCell ⟨W.heap.size + 1, 1, none⟩ (.bool b1)).cell? ⟨w1.heap.size, 0, none⟩ = some (.int .i64 u0) ∧ ((Y4.setCell ⟨W.heap.size + 1, 0, none⟩ (.slice a1 L1 l1)).setCell ⟨W.heap.size + 1, 1, none⟩ (.bool b1)).cell? ⟨w1.heap.size, 1, none⟩ = some (.int .i64 u1) ∧ ((Y4.setCell ⟨W.heap.size + 1, 0, none⟩ (.slice a1 L1 l1)).setCell ⟨W.heap.size + 1, 1, none⟩ (.bool b1)).cell? ⟨w1.heap.size, 2, none⟩ = some (.int .i64 u2) ∧ ((Y4.setCell ⟨W.heap.size + 1, 0, none⟩ (.slice a1 L1 l1)).setCell ⟨W.heap.size + 1, 1, none⟩ (.bool b1)).cell? ⟨w1.heap.size, 3, none⟩ = some (.int .i64 u3))
  refine hK.out _ _ hS6 ?_
  clear hK K hS4 r0 r1 r2 r3 r4
  try simp only [Act.put, List.setIfInBounds_toArray, List.set_cons_zero, List.set_cons_succ]
  refine last_opG (by kernel_rfl) (by kernel_rfl) rfl (fun K hK => ?_)
  go_simp
  refine hK.out _ _ ?_
  clear hK K hS6
  obtain ⟨z1, z2, z3, z4⟩ := HG4.out.out (.slice a1 L1 l1) (.bool b1)
  have y0 := cell_at' z4 0 rfl
  have y1 := cell_at' z4 1 rfl
  go_wp2
  have e1 := HL1.out
  have e2 := HB1.out
  have e3 := HLF.out
  have e4 := HL0.out
  subst e1 e2
  exact bodyPost_ret (v := .tuple #[.agg #[.slice a1 (leftOf s1).length l1, .bool s1.isNone], .bool true]) (by simp [results, Tryz.results16, go_sem, y0, y1]) rfl ⟨s1, a1, l1, rfl, z2, z3, z1, by omega⟩
end Go.Proofs.YtggfoihfenlckaaGreat