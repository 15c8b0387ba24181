/- Words for the law BundleGets: R16h, R16v. -/
import Derived.Test.YtafdclkpeomomaaGreatBundleGetsG22
import Derived.Test.YtafdclkpeomomaaGreatBundleGetsG24
import Derived.Test.YtafdclkpeomomaaGreatBundleGetsG28
set_option linter.unusedSimpArgs false
set_option linter.unusedVariables false
/- tributaryref16: ToCausal: the walk. Printed by wip/r16caugen.py. -/
namespace Go.Proofs.YtafdclkpeomomaaGreat
open Go.RowKit

section
variable {w0 w wr W W1 : World} {B : Nat} {T : TypeId} {cs : Array Value} {v v' : Value} {t t' : Option (List UInt8)} {b : Bool}
theorem Stg.nextA (h : Stg w0 w wr W B T cs v t) (f : Frm NoS W W1) (hr : RIn w0 W1 v' t') (hb : t'.isNone = b) (i j : Nat) (x y : Value) :
    Stg w0 w wr ((((W1.setCell ⟨B, i, none⟩ x).setCell ⟨B, j, none⟩ y).setCell ⟨w.heap.size, 0, none⟩ v').setCell ⟨w.heap.size, 1, none⟩ (.bool b)) B T ((cs.setIfInBounds i x).setIfInBounds j y) v' t' := by
  subst hb
  have g : ∀ (W : World) (j : Nat) (u : Value), RIn w0 W v' t' → RIn w0 (W.setCell ⟨B, j, none⟩ u) v' t' := fun W j u hr => hr.keep (only_set W B j u) fun k hk hs => (by have hs : k = B := hs; have := h.h0; have := h.new; have := h.old; omega)
  exact (((h.call f).fld i x).fld j y).put (g _ j y (g _ i x hr))
end
def ToCauPost (w0 w : World) (es : List Ent) (ks : KidsL) (c : CtxL) (s : Option (List UInt8)) (e : Ending) (w' : World) : Prop :=
  ∃ ev kv cv a l, e = .returned (.tuple #[.agg #[ev, kv, cv], .agg #[.slice a (leftOf s).length l, .bool s.isNone]]) ∧ TreeAt (fun b => w.heap.size ≤ b) w' ev kv es ks ∧ CtxQ (fun b => w.heap.size ≤ b) w' cv c ∧ RIn w0 w' (.slice a (leftOf s).length l) s ∧ Frm NoS w w'
theorem caFin {w0 w W W' : World} {es : List Ent} {ks : KidsL} {c : CtxL} {ev kv cv : Value} {a : Option Addr} {l : Nat} {s : Option (List UInt8)} (ht : TreeAt (fun b => w.heap.size + 1 + 1 + 1 ≤ b) W ev kv es ks) (hx : CtxQ (fun b => w.heap.size + 1 + 1 + 1 ≤ b) W cv c) (hr : RIn w0 W (.slice a (leftOf s).length l) s) (h0 : w0.heap.size ≤ w.heap.size) (hf : Frm NoS w W) (f : Frm (XT w) W W') :
    ToCauPost w0 w es ks c s (.returned (.tuple #[.agg #[ev, kv, cv], .agg #[.slice a (leftOf s).length l, .bool s.isNone]])) W' := by
  have turn : ∀ b, b < W.heap.size → w.heap.size + 1 + 1 + 1 ≤ b → W'.heap[b]? = W.heap[b]? ∧ w.heap.size ≤ b := fun b hb hQ => ⟨f.block b hb fun hs => (by rcases hs with hs | hs | hs <;> omega), by omega⟩
  refine ⟨ev, kv, cv, a, l, rfl, ht.turn turn, RdQ.turn hx turn, hr.keep f fun k hk hs => ?_, hf.trans f fun i hi hs => ?_⟩
  · rcases hs with hs | hs | hs <;> omega
  · rcases hs with hs | hs | hs <;> omega
theorem stores5 (w W : World) (x0 x1 x2 y0 y1 : Value) : Frm (XT w) W (((((W.setCell ⟨w.heap.size + 1, 0, none⟩ x0).setCell ⟨w.heap.size + 1, 1, none⟩ x1).setCell ⟨w.heap.size + 1, 2, none⟩ x2).setCell ⟨w.heap.size + 1 + 1, 0, none⟩ y0).setCell ⟨w.heap.size + 1 + 1, 1, none⟩ y1) :=
  (((three_set W (w.heap.size + 1) x0 x1 x2).mono fun k _ hk => .inr (.inl hk)).trans ((two_set _ (w.heap.size + 1 + 1) y0 y1).mono fun k _ hk => .inr (.inr hk)) fun _ _ h => h)
theorem stores5_at {w W : World} {x0 x1 x2 y0 y1 : Value} {a b b2 c d : Value} (h1 : W.heap[w.heap.size + 1]? = some (.cells #[a, b, b2] 29 (0, 0))) (h2 : W.heap[w.heap.size + 1 + 1]? = some (.cells #[c, d] 42 (0, 0))) (W' : World)
    (hW : W' = ((((W.setCell ⟨w.heap.size + 1, 0, none⟩ x0).setCell ⟨w.heap.size + 1, 1, none⟩ x1).setCell ⟨w.heap.size + 1, 2, none⟩ x2).setCell ⟨w.heap.size + 1 + 1, 0, none⟩ y0).setCell ⟨w.heap.size + 1 + 1, 1, none⟩ y1) :
    W'.cell? ⟨w.heap.size + 1, 0, none⟩ = some x0 ∧ W'.cell? ⟨w.heap.size + 1, 1, none⟩ = some x1 ∧ W'.cell? ⟨w.heap.size + 1, 2, none⟩ = some x2 ∧ W'.cell? ⟨w.heap.size + 1 + 1, 0, none⟩ = some y0 ∧ W'.cell? ⟨w.heap.size + 1 + 1, 1, none⟩ = some y1 := by
  subst hW
  have g1 := set_at' (set_at' (set_at' h1 0 x0) 1 x1) 2 x2
  have f1 := three_set W (w.heap.size + 1) x0 x1 x2
  have f2 := two_set (((W.setCell ⟨w.heap.size + 1, 0, none⟩ x0).setCell ⟨w.heap.size + 1, 1, none⟩ x1).setCell ⟨w.heap.size + 1, 2, none⟩ x2) (w.heap.size + 1 + 1) y0 y1
  have g2 := f1.blk h2 fun e => by have e : w.heap.size + 1 + 1 = w.heap.size + 1 := e; omega
  have g3 := f2.blk g1 fun e => by have e : w.heap.size + 1 = w.heap.size + 1 + 1 := e; omega
  have g4 := set_at' (set_at' g2 0 y0) 1 y1
  exact ⟨cell_at' g3 0 rfl, cell_at' g3 1 rfl, cell_at' g3 2 rfl, cell_at' g4 0 rfl, cell_at' g4 1 rfl⟩
theorem Stg.start4 {w0 w W : World} {a : Option Addr} {l : Nat} {st : Option (List UInt8)} (h : RIn w0 w (.slice a (leftOf st).length l) st) (h0 : w0.heap.size ≤ w.heap.size) (T1 T3 : TypeId) (c1 c3 : Array Value)
    (hW : W = (((w.alloc (.cells #[.slice a (leftOf st).length l, .bool st.isNone] 42)).alloc (.cells c1 T1)).alloc (.cells #[.slice none 0 0, .bool false] 42)).alloc (.cells c3 T3)) :
    ∃ wr, Stg w0 w wr W (w.heap.size + 1 + 1 + 1) T3 c3 (.slice a (leftOf st).length l) st ∧ wr.heap[w.heap.size + 1]? = some (.cells c1 T1 (0, 0)) ∧ wr.heap[w.heap.size + 1 + 1]? = some (.cells #[.slice none 0 0, .bool false] 42 (0, 0)) ∧ Frm NoS w wr ∧ W.heap.size = w.heap.size + 1 + 1 + 1 + 1 ∧ wr.heap.size = w.heap.size + 1 + 1 + 1 := by
  obtain ⟨g0, g1, g2, g3, gf⟩ := four_blocks w _ _ _ _ _ _ _ _ W hW
  have sz : ∀ (u : World) (o : Obj), (u.alloc o).heap.size = u.heap.size + 1 := fun u o => by simp
  obtain ⟨k0, k1, k2, kf⟩ : (((w.alloc (.cells #[.slice a (leftOf st).length l, .bool st.isNone] 42)).alloc (.cells c1 T1)).alloc (.cells #[.slice none 0 0, .bool false] 42)).heap[w.heap.size]? = some (.cells #[.slice a (leftOf st).length l, .bool st.isNone] 42 (0, 0)) ∧
      (((w.alloc (.cells #[.slice a (leftOf st).length l, .bool st.isNone] 42)).alloc (.cells c1 T1)).alloc (.cells #[.slice none 0 0, .bool false] 42)).heap[w.heap.size + 1]? = some (.cells c1 T1 (0, 0)) ∧
      (((w.alloc (.cells #[.slice a (leftOf st).length l, .bool st.isNone] 42)).alloc (.cells c1 T1)).alloc (.cells #[.slice none 0 0, .bool false] 42)).heap[w.heap.size + 1 + 1]? = some (.cells #[.slice none 0 0, .bool false] 42 (0, 0)) ∧
      Frm NoS w (((w.alloc (.cells #[.slice a (leftOf st).length l, .bool st.isNone] 42)).alloc (.cells c1 T1)).alloc (.cells #[.slice none 0 0, .bool false] 42)) := by
    have h1 := heap_alloc_new (w.alloc (.cells #[.slice a (leftOf st).length l, .bool st.isNone] 42)) (.cells c1 T1)
    have h2 := heap_alloc_new ((w.alloc (.cells #[.slice a (leftOf st).length l, .bool st.isNone] 42)).alloc (.cells c1 T1)) (.cells #[.slice none 0 0, .bool false] 42)
    simp only [sz] at h1 h2
    exact ⟨((Frm.alloc NoS _ _).alloc1).blk (heap_alloc_new w _) id, (Frm.alloc NoS _ _).blk h1 id, h2, ((Frm.alloc NoS _ _).alloc1).alloc1⟩
  refine ⟨_, ⟨h.keep0 gf, g0, g3, ?_, ?_, lt_of_block k0, h0⟩, k1, k2, kf, by rw [hW]; simp only [sz], by simp only [sz]⟩
  · rw [hW]; exact (Frm.alloc NoS _ _).mono fun _ _ s => s.elim
  · simp only [sz]; exact Nat.le_refl _
set_option maxHeartbeats 8000000 in
set_option maxRecDepth 1000000 in
theorem r16ToCausal_at {w0 : World} {v : Value} {st s : Option (List UInt8)} {es : List Ent} {ks : KidsL} {c : CtxL} (w : World) (h : RIn w0 w v st) (h0 : w0.heap.size ≤ w.heap.size) (hc : CauRes st es ks c s) (hl : (leftOf st).length ≤ 6000) :
    Calls Tryz.prog 18 #[.agg #[v, .bool st.isNone]] w (ToCauPost w0 w es ks c s) := by
  obtain ⟨a0, c0, rfl⟩ := h.shape
  obtain ⟨es1, ks1, s1, ht1⟩ := TreeRes.total st
  obtain ⟨c1, s2, hc1⟩ := CtxRes.total s1
  have hok := both_ok ht1 hc1 hl
  have hl1 := ht1.sizes
  have HT := Lib.hid (fun W v (hr : RIn w0 W v st) (f : w0.heap.size ≤ W.heap.size) => r16ToTree_at W hr f ht1 (by omega))
  have HC := Lib.hid (fun W v (hr : RIn w0 W v s1) (f : w0.heap.size ≤ W.heap.size) => r16ToCtx_at W hr f hc1 (by omega))
  have HRT := Lib.hid (fun W Q ev kv cv (h : CauAt Q W ev kv cv es1 ks1 c1) => r9Right_any Q es1 ks1 c1 W ev kv cv h hok)
  unfold ToTreePost at HT
  unfold ToCtxPost at HC
  obtain ⟨WB, hWB⟩ : ∃ W, W = (((w.alloc (.cells #[.slice a0 (leftOf st).length c0, .bool st.isNone] 42)).alloc (.cells #[.slice none 0 0, .slice none 0 0, .slice none 0 0] 29)).alloc (.cells #[.slice none 0 0, .bool false] 42)).alloc (.cells #[.slice none 0 0, .slice none 0 0, .slice none 0 0] 29) := ⟨_, rfl⟩
  obtain ⟨wr, hst, hk1, hk2, hkf, hsz, hsr⟩ := Stg.start4 h h0 _ _ _ _ hWB
  have HST := Lib.hid hst; clear hst
  have HK1 := Lib.hid hk1; clear hk1
  have HK2 := Lib.hid hk2; clear hk2
  have HKF := Lib.hid hkf; clear hkf
  have HSZ := Lib.hid hsz; clear hsz
  have HSR := Lib.hid hsr; clear hsr
  have HH0 := Lib.hid h0; clear h0
  clear h hok hl1 hl
  have HRS := Lib.hid (fun (W : World) (f : Frm (Only w.heap.size) wr W) => (⟨f.blk HK1.out fun e => (by have e : w.heap.size + 1 = w.heap.size := e; omega), f.blk HK2.out fun e => (by have e : w.heap.size + 1 + 1 = w.heap.size := e; omega), HKF.out.trans f fun i hi e => (by have e : i = w.heap.size := e; omega)⟩ :
    W.heap[w.heap.size + 1]? = some (.cells #[.slice none 0 0, .slice none 0 0, .slice none 0 0] 29 (0, 0)) ∧ W.heap[w.heap.size + 1 + 1]? = some (.cells #[.slice none 0 0, .bool false] 42 (0, 0)) ∧ Frm NoS w W))
  cases s2 with
  | some r =>
    simp only [show (leftOf (some r)).length = r.length from rfl, show (some r).isNone = false from rfl] at HC
    by_cases hr : CauRight es1 ks1 c1
    · rw [tf_true hr] at HRT
      obtain ⟨⟨⟨rfl, rfl⟩, rfl⟩, rfl⟩ := hc.det (cau_good ht1 hc1 hr)
      clear hc hr ht1 hc1
      generalize hbd : st.isNone = bd at *
      generalize hll : (leftOf st).length = L0 at *
      have HBD := Lib.hid hbd; clear hbd
      have HLL := Lib.hid hll; clear hll
      generalize hb1 : s1.isNone = b1 at *
      generalize hm1 : (leftOf s1).length = L1 at *
      have HB1 := Lib.hid hb1; clear hb1
      have HM1 := Lib.hid hm1; clear hm1
      have HWB := Lib.hid hWB; clear hWB
      go_enter Tryz.func18, Tryz.ntmps18
      go_wp2_with (first
          | (go_at_call 59; rw [← HWB.out]; go_loud (refine (HT.out WB _ HST.out.rin (Nat.le_trans HST.out.h0 (Nat.le_of_lt (lt_of_block HST.out.box)))).mono ?_); rintro e w1 ⟨ev, kv, a3, l3, rfl, hta, hr1, hf1⟩; obtain ⟨a4, c4, rfl⟩ := hta.ents.rd.sl; obtain ⟨os5, hkr5, -⟩ := hta.kids; obtain ⟨a5, c5, rfl⟩ := hkr5.rd.sl; clear hkr5
             obtain ⟨y0, y1, y2, y3, y4, y5, y6, y7⟩ := (HST.out.call hf1).facts1 HBD.out
             have z8 := (HST.out.call hf1).free 0
             have z9 := (HST.out.call hf1).free 1
             have z10 := (HST.out.call hf1).cell 0 rfl
             have z11 := (HST.out.call hf1).cell 1 rfl
             have HS1 := Lib.hid (HST.out.nextA hf1 hr1 HB1.out 0 1 (.slice a4 es.length c4) (.slice a5 ks.len c5))
             have hft : Frm (fun k => k = w.heap.size + 1 + 1 + 1 ∨ k = w.heap.size) w1 ((((w1.setCell ⟨w.heap.size + 1 + 1 + 1, 0, none⟩ (.slice a4 es.length c4)).setCell ⟨w.heap.size + 1 + 1 + 1, 1, none⟩ (.slice a5 ks.len c5)).setCell ⟨w.heap.size, 0, none⟩ (.slice a3 L1 l3)).setCell ⟨w.heap.size, 1, none⟩ (.bool b1)) :=
               ((two_set w1 (w.heap.size + 1 + 1 + 1) _ _).mono fun k _ hk => .inl hk).trans ((two_set _ w.heap.size _ _).mono fun k _ hk => .inr hk) fun _ _ h => h
             have HTA := Lib.hid (hta.turn (Q' := fun b => w.heap.size + 1 + 1 + 1 + 1 ≤ b) fun b hb hQ => ⟨hft.block b hb (fun hs => by have hQ : WB.heap.size ≤ b := hQ; have := HSZ.out; rcases hs with hs | hs <;> omega), by have hQ : WB.heap.size ≤ b := hQ; have := HSZ.out; omega⟩)
             clear hft hta hr1 hf1)
          | (go_at_call 60; go_loud (refine (HC.out _ _ HS1.out.rin (Nat.le_trans HS1.out.h0 (Nat.le_of_lt (lt_of_block HS1.out.box)))).mono ?_); rintro e w2 ⟨cv, a6, l6, rfl, hrc, hr2, hf2⟩; obtain ⟨a7, c7, rfl⟩ := hrc.rd.sl; clear y0 y1 y2 y3 y4 y5 y6 y7 z8 z9 z10 z11
             obtain ⟨y0, y1, y2, y3, y4, y5, y6, y7⟩ := (HS1.out.call hf2).facts1 HB1.out
             have z8 := (HS1.out.call hf2).free 2
             have z9 := (HS1.out.call hf2).cell 2 rfl
             have q0 : w2.cell? ⟨w.heap.size + 1 + 1 + 1, 0, none⟩ = some (.slice a4 es.length c4) := (HS1.out.call hf2).cell 0 rfl
             have q1 : w2.cell? ⟨w.heap.size + 1 + 1 + 1, 1, none⟩ = some (.slice a5 ks.len c5) := (HS1.out.call hf2).cell 1 rfl
             have HS2 := Lib.hid (HS1.out.next1 hf2 hr2 (b := false) rfl 2 (.slice a7 c.length c7))
             have hsz1 : w.heap.size + 1 + 1 + 1 < ((((w1.setCell ⟨w.heap.size + 1 + 1 + 1, 0, none⟩ (.slice a4 es.length c4)).setCell ⟨w.heap.size + 1 + 1 + 1, 1, none⟩ (.slice a5 ks.len c5)).setCell ⟨w.heap.size, 0, none⟩ (.slice a3 L1 l3)).setCell ⟨w.heap.size, 1, none⟩ (.bool b1)).heap.size := lt_of_block HS1.out.blk
             have hft : Frm (fun k => k = w.heap.size + 1 + 1 + 1 ∨ k = w.heap.size) w2 (((w2.setCell ⟨w.heap.size + 1 + 1 + 1, 2, none⟩ (.slice a7 c.length c7)).setCell ⟨w.heap.size, 0, none⟩ (.slice a6 r.length l6)).setCell ⟨w.heap.size, 1, none⟩ (.bool false)) :=
               ((only_set w2 (w.heap.size + 1 + 1 + 1) 2 _).mono fun k _ hk => .inl hk).trans ((two_set _ w.heap.size _ _).mono fun k _ hk => .inr hk) fun _ _ h => h
             have HTA2 := Lib.hid ((HTA.out.keep0 hf2).turn (Q' := fun b => w.heap.size + 1 + 1 + 1 ≤ b) fun b hb hQ => ⟨hft.block b hb (fun hs => by have hQ : w.heap.size + 1 + 1 + 1 + 1 ≤ b := hQ; rcases hs with hs | hs <;> omega), by have hQ : w.heap.size + 1 + 1 + 1 + 1 ≤ b := hQ; omega⟩)
             have HRC := Lib.hid (show CtxQ (fun b => w.heap.size + 1 + 1 + 1 ≤ b) _ (.slice a7 c.length c7) c from RdQ.turn hrc fun b hb hQ => ⟨hft.block b hb (fun hs => by have hQ := Nat.lt_of_lt_of_le hsz1 hQ; rcases hs with hs | hs <;> omega), Nat.le_of_lt (Nat.lt_of_lt_of_le hsz1 hQ)⟩)
             clear hft hrc hr2 hf2 hsz1
             generalize es.length = n at *
             generalize ks.len = m at *
             generalize c.length = k at *)
          | (go_at_call 14; go_loud (refine (HRT.out _ _ _ _ _ ⟨HTA2.out, HRC.out.at_⟩).mono ?_); rintro e w3 ⟨rfl, hf3⟩
             clear y0 y1 y2 y3 y4 y5 y6 y7 z8 z9 q0 q1
             obtain ⟨g1, g2, hfw⟩ := HRS.out w3 ((HS2.out.call hf3).frm)
             have x0 := cell_at' g1 0 rfl
             have x1 := cell_at' g1 1 rfl
             have x2 := cell_at' g1 2 rfl
             have f0 := free_at' g1 0
             have f1 := free_at' g1 1
             have f2 := free_at' g1 2
             have hl1 := lt_of_block g1
             have x3 := cell_at' g2 0 rfl
             have x4 := cell_at' g2 1 rfl
             have f3 := free_at' g2 0
             have f4 := free_at' g2 1
             have hl2 := lt_of_block g2
             have G1 := Lib.hid g1; clear g1
             have G2 := Lib.hid g2; clear g2
             obtain ⟨y0, y1, y2, y3, y4, y5, y6, y7⟩ := (HS2.out.call hf3).facts1 (b := false) rfl
             have q0 : w3.cell? ⟨w.heap.size + 1 + 1 + 1, 0, none⟩ = some (.slice a4 n c4) := (HS2.out.call hf3).cell 0 rfl
             have q1 : w3.cell? ⟨w.heap.size + 1 + 1 + 1, 1, none⟩ = some (.slice a5 m c5) := (HS2.out.call hf3).cell 1 rfl
             have q2 : w3.cell? ⟨w.heap.size + 1 + 1 + 1, 2, none⟩ = some (.slice a7 k c7) := (HS2.out.call hf3).cell 2 rfl
             have HFW := Lib.hid hfw
             have HF3 := Lib.hid hf3
             clear hf3 hfw))
      go_region
      all_goals
        clear x0 x1 x2 x3 x4 f0 f1 f2 f3 f4 hl1 hl2
        clear y0 y1 y2 y3 y4 y5 y6 y7 q0 q1 q2
        obtain ⟨y0, y1, y2, y3, y4⟩ := stores5_at (x0 := .slice a4 n c4) (x1 := .slice a5 m c5) (x2 := .slice a7 k c7) (y0 := .slice a6 r.length l6) (y1 := .bool false) G1.out G2.out _ rfl
        go_wp2
        exact bodyPost_ret (v := .tuple #[.agg #[.slice a4 n c4, .slice a5 m c5, .slice a7 k c7], .agg #[.slice a6 r.length l6, .bool false]]) (by simp [results, Tryz.results18, go_sem, y0, y1, y2, y3, y4]) rfl (caFin (s := some r) (HTA2.out.keep0 HF3.out) (HRC.out.keep0 HF3.out) (HS2.out.call HF3.out).rin HH0.out HFW.out ((stores5 w w3 _ _ _ _ _).then1 (Frm.drew NoS _)))
    · rw [tf_false hr] at HRT
      obtain ⟨⟨⟨rfl, rfl⟩, rfl⟩, rfl⟩ := hc.det (cau_bad ht1 hc1 (.inr hr))
      clear hc hr ht1 hc1
      generalize hbd : st.isNone = bd at *
      generalize hll : (leftOf st).length = L0 at *
      have HBD := Lib.hid hbd; clear hbd
      have HLL := Lib.hid hll; clear hll
      generalize hb1 : s1.isNone = b1 at *
      generalize hm1 : (leftOf s1).length = L1 at *
      have HB1 := Lib.hid hb1; clear hb1
      have HM1 := Lib.hid hm1; clear hm1
      have HWB := Lib.hid hWB; clear hWB
      go_enter Tryz.func18, Tryz.ntmps18
      go_wp2_with (first
          | (go_at_call 59; rw [← HWB.out]; go_loud (refine (HT.out WB _ HST.out.rin (Nat.le_trans HST.out.h0 (Nat.le_of_lt (lt_of_block HST.out.box)))).mono ?_); rintro e w1 ⟨ev, kv, a3, l3, rfl, hta, hr1, hf1⟩; obtain ⟨a4, c4, rfl⟩ := hta.ents.rd.sl; obtain ⟨os5, hkr5, -⟩ := hta.kids; obtain ⟨a5, c5, rfl⟩ := hkr5.rd.sl; clear hkr5
             obtain ⟨y0, y1, y2, y3, y4, y5, y6, y7⟩ := (HST.out.call hf1).facts1 HBD.out
             have z8 := (HST.out.call hf1).free 0
             have z9 := (HST.out.call hf1).free 1
             have z10 := (HST.out.call hf1).cell 0 rfl
             have z11 := (HST.out.call hf1).cell 1 rfl
             have HS1 := Lib.hid (HST.out.nextA hf1 hr1 HB1.out 0 1 (.slice a4 es1.length c4) (.slice a5 ks1.len c5))
             have hft : Frm (fun k => k = w.heap.size + 1 + 1 + 1 ∨ k = w.heap.size) w1 ((((w1.setCell ⟨w.heap.size + 1 + 1 + 1, 0, none⟩ (.slice a4 es1.length c4)).setCell ⟨w.heap.size + 1 + 1 + 1, 1, none⟩ (.slice a5 ks1.len c5)).setCell ⟨w.heap.size, 0, none⟩ (.slice a3 L1 l3)).setCell ⟨w.heap.size, 1, none⟩ (.bool b1)) :=
               ((two_set w1 (w.heap.size + 1 + 1 + 1) _ _).mono fun k _ hk => .inl hk).trans ((two_set _ w.heap.size _ _).mono fun k _ hk => .inr hk) fun _ _ h => h
             have HTA := Lib.hid (hta.turn (Q' := fun b => w.heap.size + 1 + 1 + 1 + 1 ≤ b) fun b hb hQ => ⟨hft.block b hb (fun hs => by have hQ : WB.heap.size ≤ b := hQ; have := HSZ.out; rcases hs with hs | hs <;> omega), by have hQ : WB.heap.size ≤ b := hQ; have := HSZ.out; omega⟩)
             clear hft hta hr1 hf1)
          | (go_at_call 60; go_loud (refine (HC.out _ _ HS1.out.rin (Nat.le_trans HS1.out.h0 (Nat.le_of_lt (lt_of_block HS1.out.box)))).mono ?_); rintro e w2 ⟨cv, a6, l6, rfl, hrc, hr2, hf2⟩; obtain ⟨a7, c7, rfl⟩ := hrc.rd.sl; clear y0 y1 y2 y3 y4 y5 y6 y7 z8 z9 z10 z11
             obtain ⟨y0, y1, y2, y3, y4, y5, y6, y7⟩ := (HS1.out.call hf2).facts1 HB1.out
             have z8 := (HS1.out.call hf2).free 2
             have z9 := (HS1.out.call hf2).cell 2 rfl
             have q0 : w2.cell? ⟨w.heap.size + 1 + 1 + 1, 0, none⟩ = some (.slice a4 es1.length c4) := (HS1.out.call hf2).cell 0 rfl
             have q1 : w2.cell? ⟨w.heap.size + 1 + 1 + 1, 1, none⟩ = some (.slice a5 ks1.len c5) := (HS1.out.call hf2).cell 1 rfl
             have HS2 := Lib.hid (HS1.out.next1 hf2 hr2 (b := false) rfl 2 (.slice a7 c1.length c7))
             have hsz1 : w.heap.size + 1 + 1 + 1 < ((((w1.setCell ⟨w.heap.size + 1 + 1 + 1, 0, none⟩ (.slice a4 es1.length c4)).setCell ⟨w.heap.size + 1 + 1 + 1, 1, none⟩ (.slice a5 ks1.len c5)).setCell ⟨w.heap.size, 0, none⟩ (.slice a3 L1 l3)).setCell ⟨w.heap.size, 1, none⟩ (.bool b1)).heap.size := lt_of_block HS1.out.blk
             have hft : Frm (fun k => k = w.heap.size + 1 + 1 + 1 ∨ k = w.heap.size) w2 (((w2.setCell ⟨w.heap.size + 1 + 1 + 1, 2, none⟩ (.slice a7 c1.length c7)).setCell ⟨w.heap.size, 0, none⟩ (.slice a6 r.length l6)).setCell ⟨w.heap.size, 1, none⟩ (.bool false)) :=
               ((only_set w2 (w.heap.size + 1 + 1 + 1) 2 _).mono fun k _ hk => .inl hk).trans ((two_set _ w.heap.size _ _).mono fun k _ hk => .inr hk) fun _ _ h => h
             have HTA2 := Lib.hid ((HTA.out.keep0 hf2).turn (Q' := fun b => w.heap.size + 1 + 1 + 1 ≤ b) fun b hb hQ => ⟨hft.block b hb (fun hs => by have hQ : w.heap.size + 1 + 1 + 1 + 1 ≤ b := hQ; rcases hs with hs | hs <;> omega), by have hQ : w.heap.size + 1 + 1 + 1 + 1 ≤ b := hQ; omega⟩)
             have HRC := Lib.hid (show CtxQ (fun b => w.heap.size + 1 + 1 + 1 ≤ b) _ (.slice a7 c1.length c7) c1 from RdQ.turn hrc fun b hb hQ => ⟨hft.block b hb (fun hs => by have hQ := Nat.lt_of_lt_of_le hsz1 hQ; rcases hs with hs | hs <;> omega), Nat.le_of_lt (Nat.lt_of_lt_of_le hsz1 hQ)⟩)
             clear hft hrc hr2 hf2 hsz1
             generalize es1.length = n at *
             generalize ks1.len = m at *
             generalize c1.length = k at *)
          | (go_at_call 14; go_loud (refine (HRT.out _ _ _ _ _ ⟨HTA2.out, HRC.out.at_⟩).mono ?_); rintro e w3 ⟨rfl, hf3⟩
             clear y0 y1 y2 y3 y4 y5 y6 y7 z8 z9 q0 q1
             have HF3 := Lib.hid hf3
             clear hf3)
          | (go_at_call 61; go_loud (refine (rbad_any _).mono ?_); rintro e w9 ⟨rfl, hf9⟩
             obtain ⟨g1, g2, hfw⟩ := HRS.out w9 ((HS2.out.call (HF3.out.then1 hf9)).frm)
             have x0 := cell_at' g1 0 rfl
             have x1 := cell_at' g1 1 rfl
             have x2 := cell_at' g1 2 rfl
             have f0 := free_at' g1 0
             have f1 := free_at' g1 1
             have f2 := free_at' g1 2
             have hl1 := lt_of_block g1
             have x3 := cell_at' g2 0 rfl
             have x4 := cell_at' g2 1 rfl
             have f3 := free_at' g2 0
             have f4 := free_at' g2 1
             have hl2 := lt_of_block g2
             have G1 := Lib.hid g1; clear g1
             have G2 := Lib.hid g2; clear g2
             have HF9 := Lib.hid hfw
             clear hf9 hfw))
      clear x0 x1 x2 x3 x4 f0 f1 f2 f3 f4 hl1 hl2
      obtain ⟨y0, y1, y2, y3, y4⟩ := stores5_at (x0 := .slice none 0 0) (x1 := .slice none 0 0) (x2 := .slice none 0 0) (y0 := .slice none 0 0) (y1 := .bool true) G1.out G2.out _ rfl
      exact bodyPost_ret (v := .tuple #[.agg #[.slice none 0 0, .slice none 0 0, .slice none 0 0], .agg #[.slice none 0 0, .bool true]]) (by simp [results, Tryz.results18, go_sem, y0, y1, y2, y3, y4]) rfl (caFin (a := none) (l := 0) (s := none) (c := []) (tree_nilQ _ _) (rdq_nil _ _) (RIn.bad w0 _) HH0.out HF9.out (stores5 w w9 _ _ _ _ _))
  | none =>
    simp only [show (leftOf (none : Option (List UInt8))).length = 0 from rfl, show (none : Option (List UInt8)).isNone = true from rfl] at HC
    · obtain ⟨⟨⟨rfl, rfl⟩, rfl⟩, rfl⟩ := hc.det (cau_bad ht1 hc1 (.inl rfl))
      clear hc ht1 hc1 HRT
      generalize hbd : st.isNone = bd at *
      generalize hll : (leftOf st).length = L0 at *
      have HBD := Lib.hid hbd; clear hbd
      have HLL := Lib.hid hll; clear hll
      generalize hb1 : s1.isNone = b1 at *
      generalize hm1 : (leftOf s1).length = L1 at *
      have HB1 := Lib.hid hb1; clear hb1
      have HM1 := Lib.hid hm1; clear hm1
      have HWB := Lib.hid hWB; clear hWB
      go_enter Tryz.func18, Tryz.ntmps18
      go_wp2_with (first
          | (go_at_call 59; rw [← HWB.out]; go_loud (refine (HT.out WB _ HST.out.rin (Nat.le_trans HST.out.h0 (Nat.le_of_lt (lt_of_block HST.out.box)))).mono ?_); rintro e w1 ⟨ev, kv, a3, l3, rfl, hta, hr1, hf1⟩; obtain ⟨a4, c4, rfl⟩ := hta.ents.rd.sl; obtain ⟨os5, hkr5, -⟩ := hta.kids; obtain ⟨a5, c5, rfl⟩ := hkr5.rd.sl; clear hkr5
             obtain ⟨y0, y1, y2, y3, y4, y5, y6, y7⟩ := (HST.out.call hf1).facts1 HBD.out
             have z8 := (HST.out.call hf1).free 0
             have z9 := (HST.out.call hf1).free 1
             have z10 := (HST.out.call hf1).cell 0 rfl
             have z11 := (HST.out.call hf1).cell 1 rfl
             have HS1 := Lib.hid (HST.out.nextA hf1 hr1 HB1.out 0 1 (.slice a4 es1.length c4) (.slice a5 ks1.len c5))
             have hft : Frm (fun k => k = w.heap.size + 1 + 1 + 1 ∨ k = w.heap.size) w1 ((((w1.setCell ⟨w.heap.size + 1 + 1 + 1, 0, none⟩ (.slice a4 es1.length c4)).setCell ⟨w.heap.size + 1 + 1 + 1, 1, none⟩ (.slice a5 ks1.len c5)).setCell ⟨w.heap.size, 0, none⟩ (.slice a3 L1 l3)).setCell ⟨w.heap.size, 1, none⟩ (.bool b1)) :=
               ((two_set w1 (w.heap.size + 1 + 1 + 1) _ _).mono fun k _ hk => .inl hk).trans ((two_set _ w.heap.size _ _).mono fun k _ hk => .inr hk) fun _ _ h => h
             have HTA := Lib.hid (hta.turn (Q' := fun b => w.heap.size + 1 + 1 + 1 + 1 ≤ b) fun b hb hQ => ⟨hft.block b hb (fun hs => by have hQ : WB.heap.size ≤ b := hQ; have := HSZ.out; rcases hs with hs | hs <;> omega), by have hQ : WB.heap.size ≤ b := hQ; have := HSZ.out; omega⟩)
             clear hft hta hr1 hf1)
          | (go_at_call 60; go_loud (refine (HC.out _ _ HS1.out.rin (Nat.le_trans HS1.out.h0 (Nat.le_of_lt (lt_of_block HS1.out.box)))).mono ?_); rintro e w2 ⟨cv, a6, l6, rfl, hrc, hr2, hf2⟩; obtain ⟨a7, c7, rfl⟩ := hrc.rd.sl; clear y0 y1 y2 y3 y4 y5 y6 y7 z8 z9 z10 z11
             obtain ⟨y0, y1, y2, y3, y4, y5, y6, y7⟩ := (HS1.out.call hf2).facts1 HB1.out
             have z8 := (HS1.out.call hf2).free 2
             have z9 := (HS1.out.call hf2).cell 2 rfl
             have q0 : w2.cell? ⟨w.heap.size + 1 + 1 + 1, 0, none⟩ = some (.slice a4 es1.length c4) := (HS1.out.call hf2).cell 0 rfl
             have q1 : w2.cell? ⟨w.heap.size + 1 + 1 + 1, 1, none⟩ = some (.slice a5 ks1.len c5) := (HS1.out.call hf2).cell 1 rfl
             have HS2 := Lib.hid (HS1.out.next1 hf2 hr2 (b := true) rfl 2 (.slice a7 c1.length c7))
             have hsz1 : w.heap.size + 1 + 1 + 1 < ((((w1.setCell ⟨w.heap.size + 1 + 1 + 1, 0, none⟩ (.slice a4 es1.length c4)).setCell ⟨w.heap.size + 1 + 1 + 1, 1, none⟩ (.slice a5 ks1.len c5)).setCell ⟨w.heap.size, 0, none⟩ (.slice a3 L1 l3)).setCell ⟨w.heap.size, 1, none⟩ (.bool b1)).heap.size := lt_of_block HS1.out.blk
             have hft : Frm (fun k => k = w.heap.size + 1 + 1 + 1 ∨ k = w.heap.size) w2 (((w2.setCell ⟨w.heap.size + 1 + 1 + 1, 2, none⟩ (.slice a7 c1.length c7)).setCell ⟨w.heap.size, 0, none⟩ (.slice a6 0 l6)).setCell ⟨w.heap.size, 1, none⟩ (.bool true)) :=
               ((only_set w2 (w.heap.size + 1 + 1 + 1) 2 _).mono fun k _ hk => .inl hk).trans ((two_set _ w.heap.size _ _).mono fun k _ hk => .inr hk) fun _ _ h => h
             have HTA2 := Lib.hid ((HTA.out.keep0 hf2).turn (Q' := fun b => w.heap.size + 1 + 1 + 1 ≤ b) fun b hb hQ => ⟨hft.block b hb (fun hs => by have hQ : w.heap.size + 1 + 1 + 1 + 1 ≤ b := hQ; rcases hs with hs | hs <;> omega), by have hQ : w.heap.size + 1 + 1 + 1 + 1 ≤ b := hQ; omega⟩)
             have HRC := Lib.hid (show CtxQ (fun b => w.heap.size + 1 + 1 + 1 ≤ b) _ (.slice a7 c1.length c7) c1 from RdQ.turn hrc fun b hb hQ => ⟨hft.block b hb (fun hs => by have hQ := Nat.lt_of_lt_of_le hsz1 hQ; rcases hs with hs | hs <;> omega), Nat.le_of_lt (Nat.lt_of_lt_of_le hsz1 hQ)⟩)
             clear hft hrc hr2 hf2 hsz1
             generalize es1.length = n at *
             generalize ks1.len = m at *
             generalize c1.length = k at *)
          | (go_at_call 61; go_loud (refine (rbad_any _).mono ?_); rintro e w9 ⟨rfl, hf9⟩
             clear y0 y1 y2 y3 y4 y5 y6 y7 z8 z9 q0 q1
             obtain ⟨g1, g2, hfw⟩ := HRS.out w9 ((HS2.out.call hf9).frm)
             have x0 := cell_at' g1 0 rfl
             have x1 := cell_at' g1 1 rfl
             have x2 := cell_at' g1 2 rfl
             have f0 := free_at' g1 0
             have f1 := free_at' g1 1
             have f2 := free_at' g1 2
             have hl1 := lt_of_block g1
             have x3 := cell_at' g2 0 rfl
             have x4 := cell_at' g2 1 rfl
             have f3 := free_at' g2 0
             have f4 := free_at' g2 1
             have hl2 := lt_of_block g2
             have G1 := Lib.hid g1; clear g1
             have G2 := Lib.hid g2; clear g2
             have HF9 := Lib.hid hfw
             clear hf9 hfw))
      clear x0 x1 x2 x3 x4 f0 f1 f2 f3 f4 hl1 hl2
      obtain ⟨y0, y1, y2, y3, y4⟩ := stores5_at (x0 := .slice none 0 0) (x1 := .slice none 0 0) (x2 := .slice none 0 0) (y0 := .slice none 0 0) (y1 := .bool true) G1.out G2.out _ rfl
      exact bodyPost_ret (v := .tuple #[.agg #[.slice none 0 0, .slice none 0 0, .slice none 0 0], .agg #[.slice none 0 0, .bool true]]) (by simp [results, Tryz.results18, go_sem, y0, y1, y2, y3, y4]) rfl (caFin (a := none) (l := 0) (s := none) (c := []) (tree_nilQ _ _) (rdq_nil _ _) (RIn.bad w0 _) HH0.out HF9.out (stores5 w w9 _ _ _ _ _))
end Go.Proofs.YtafdclkpeomomaaGreat

/- tributaryref16: ToVector: the walk. Printed by wip/vecgen.py. -/
namespace Go.Proofs.YtafdclkpeomomaaGreat
open Go.RowKit

def ToVecPost (w0 w : World) (v0 v1 v2 v3 : Int) (s : Option (List UInt8)) (e : Ending) (w' : World) : Prop :=
  ∃ a l, e = .returned (.tuple #[.agg #[.int .i64 v0, .int .i64 v1, .int .i64 v2, .int .i64 v3], .agg #[.slice a (leftOf s).length l, .bool s.isNone]]) ∧ RIn w0 w' (.slice a (leftOf s).length l) s ∧ Frm NoS w w'
theorem vecFin {w0 w W W' : World} {v0 v1 v2 v3 : Int} {a : Option Addr} {l : Nat} {s : Option (List UInt8)} (hr : RIn w0 W (.slice a (leftOf s).length l) s) (h0 : w0.heap.size ≤ w.heap.size) (hf : Frm NoS w W) (f : Frm (XT w) W W') :
    ToVecPost w0 w v0 v1 v2 v3 s (.returned (.tuple #[.agg #[.int .i64 v0, .int .i64 v1, .int .i64 v2, .int .i64 v3], .agg #[.slice a (leftOf s).length l, .bool s.isNone]])) W' := by
  refine ⟨a, l, rfl, hr.keep f fun k hk hs => ?_, hf.trans f fun i hi hs => ?_⟩
  · rcases hs with hs | hs | hs <;> omega
  · rcases hs with hs | hs | hs <;> omega
theorem stores6 (w W : World) (x0 x1 x2 x3 y0 y1 : Value) : Frm (XT w) W ((((((W.setCell ⟨w.heap.size + 1, 0, none⟩ x0).setCell ⟨w.heap.size + 1, 1, none⟩ x1).setCell ⟨w.heap.size + 1, 2, none⟩ x2).setCell ⟨w.heap.size + 1, 3, none⟩ x3).setCell ⟨w.heap.size + 1 + 1, 0, none⟩ y0).setCell ⟨w.heap.size + 1 + 1, 1, none⟩ y1) :=
  (((four_set W (w.heap.size + 1) x0 x1 x2 x3).mono fun k _ hk => .inr (.inl hk)).trans ((two_set _ (w.heap.size + 1 + 1) y0 y1).mono fun k _ hk => .inr (.inr hk)) fun _ _ h => h)
theorem stores6_at {w W : World} {x0 x1 x2 x3 y0 y1 : Value} {a b b2 b3 c d : Value} (h1 : W.heap[w.heap.size + 1]? = some (.cells #[a, b, b2, b3] 49 (0, 0))) (h2 : W.heap[w.heap.size + 1 + 1]? = some (.cells #[c, d] 42 (0, 0))) (W' : World)
    (hW : W' = (((((W.setCell ⟨w.heap.size + 1, 0, none⟩ x0).setCell ⟨w.heap.size + 1, 1, none⟩ x1).setCell ⟨w.heap.size + 1, 2, none⟩ x2).setCell ⟨w.heap.size + 1, 3, none⟩ x3).setCell ⟨w.heap.size + 1 + 1, 0, none⟩ y0).setCell ⟨w.heap.size + 1 + 1, 1, none⟩ y1) :
    W'.cell? ⟨w.heap.size + 1, 0, none⟩ = some x0 ∧ W'.cell? ⟨w.heap.size + 1, 1, none⟩ = some x1 ∧ W'.cell? ⟨w.heap.size + 1, 2, none⟩ = some x2 ∧ W'.cell? ⟨w.heap.size + 1, 3, none⟩ = some x3 ∧ W'.cell? ⟨w.heap.size + 1 + 1, 0, none⟩ = some y0 ∧ W'.cell? ⟨w.heap.size + 1 + 1, 1, none⟩ = some y1 := by
  subst hW
  have g1 := set_at' (set_at' (set_at' (set_at' h1 0 x0) 1 x1) 2 x2) 3 x3
  have f1 := four_set W (w.heap.size + 1) x0 x1 x2 x3
  have f2 := two_set ((((W.setCell ⟨w.heap.size + 1, 0, none⟩ x0).setCell ⟨w.heap.size + 1, 1, none⟩ x1).setCell ⟨w.heap.size + 1, 2, none⟩ x2).setCell ⟨w.heap.size + 1, 3, none⟩ x3) (w.heap.size + 1 + 1) y0 y1
  have g2 := f1.blk h2 fun e => by have e : w.heap.size + 1 + 1 = w.heap.size + 1 := e; omega
  have g3 := f2.blk g1 fun e => by have e : w.heap.size + 1 = w.heap.size + 1 + 1 := e; omega
  have g4 := set_at' (set_at' g2 0 y0) 1 y1
  exact ⟨cell_at' g3 0 rfl, cell_at' g3 1 rfl, cell_at' g3 2 rfl, cell_at' g3 3 rfl, cell_at' g4 0 rfl, cell_at' g4 1 rfl⟩
set_option maxHeartbeats 8000000 in
set_option maxRecDepth 1000000 in
theorem r16ToVector_at {w0 : World} {v : Value} {st s : Option (List UInt8)} {u0 u1 u2 u3 : Int} (w : World) (h : RIn w0 w v st) (h0 : w0.heap.size ≤ w.heap.size) (hc : VecRes st u0 u1 u2 u3 s) :
    Calls Tryz.prog 69 #[.agg #[v, .bool st.isNone]] w (ToVecPost w0 w u0 u1 u2 u3 s) := by
  obtain ⟨a0, c0, rfl⟩ := h.shape
  obtain ⟨v0, v1, v2, v3, t1, t2, t3, t4, g0, g1, g2, g3⟩ := V4.total 9223372036854775807 st
  have HV4 := Lib.hid (show V4 9223372036854775807 st v0 v1 v2 v3 t4 from ⟨t1, t2, t3, g0, g1, g2, g3⟩)
  have HC := Lib.hid hc; clear hc
  have HG0 := Lib.hid (fun W v (hs : RIn w0 W v st) => rnum_at hs g0 (by decide) (by decide))
  have HG1 := Lib.hid (fun W v (hs : RIn w0 W v t1) => rnum_at hs g1 (by decide) (by decide))
  have HG2 := Lib.hid (fun W v (hs : RIn w0 W v t2) => rnum_at hs g2 (by decide) (by decide))
  have HG3 := Lib.hid (fun W v (hs : RIn w0 W v t3) => rnum_at hs g3 (by decide) (by decide))
  unfold RPost at HG0 HG1 HG2 HG3
  have HMY := Lib.hid (fun W => r7May_any W v0 v1 v2 v3)
  unfold vecV at HMY
  clear g0 g1 g2 g3
  obtain ⟨WB, hWB⟩ : ∃ W, W = (((w.alloc (.cells #[.slice a0 (leftOf st).length c0, .bool st.isNone] 42)).alloc (.cells #[.int .i64 0, .int .i64 0, .int .i64 0, .int .i64 0] 49)).alloc (.cells #[.slice none 0 0, .bool false] 42)).alloc (.cells #[.int .i64 0, .int .i64 0, .int .i64 0, .int .i64 0] 49) := ⟨_, rfl⟩
  obtain ⟨wR, hst, hk1, hk2, hkf, hsz, hsr⟩ := Stg.start4 h h0 _ _ _ _ hWB
  have HST := Lib.hid hst; clear hst
  have HK1 := Lib.hid hk1; clear hk1
  have HK2 := Lib.hid hk2; clear hk2
  have HKF := Lib.hid hkf; clear hkf hsz hsr
  have HH0 := Lib.hid h0; clear h0
  clear h
  have HRS := Lib.hid (fun (W : World) (f : Frm (Only w.heap.size) wR W) => (⟨f.blk HK1.out fun e => (by have e : w.heap.size + 1 = w.heap.size := e; omega), f.blk HK2.out fun e => (by have e : w.heap.size + 1 + 1 = w.heap.size := e; omega), HKF.out.trans f fun i hi e => (by have e : i = w.heap.size := e; omega)⟩ :
    W.heap[w.heap.size + 1]? = some (.cells #[.int .i64 0, .int .i64 0, .int .i64 0, .int .i64 0] 49 (0, 0)) ∧ W.heap[w.heap.size + 1 + 1]? = some (.cells #[.slice none 0 0, .bool false] 42 (0, 0)) ∧ Frm NoS w W))
  have HWB := Lib.hid (show ∀ bd L0, st.isNone = bd → (leftOf st).length = L0 → WB = (((w.alloc (.cells #[.slice a0 L0 c0, .bool bd] 42)).alloc (.cells #[.int .i64 0, .int .i64 0, .int .i64 0, .int .i64 0] 49)).alloc (.cells #[.slice none 0 0, .bool false] 42)).alloc (.cells #[.int .i64 0, .int .i64 0, .int .i64 0, .int .i64 0] 49) from fun _ _ h1 h2 => by subst h1 h2; exact hWB)
  clear hWB
  obtain ⟨bd, hbd⟩ : ∃ b, st.isNone = b := ⟨_, rfl⟩
  obtain ⟨L0, hL0⟩ : ∃ l, (leftOf st).length = l := ⟨_, rfl⟩
  have hwb := HWB.out bd L0 hbd hL0
  rw [hbd, hL0]
  have HWB2 := Lib.hid hwb; clear hwb HWB
  clear hbd hL0
  go_enter Tryz.func69, Tryz.ntmps69
  go_wp2_with fail
  rw [← HWB2.out]
  clear HWB2
  go_loopw [6] (fun j W => ∃ (J : Nat) (x0 x1 x2 x3 : Int) (t : Option (List UInt8)) (al : Option Addr) (cl : Nat), ((J = 0 ∧ x0 = 0 ∧ x1 = 0 ∧ x2 = 0 ∧ x3 = 0 ∧ t = st) ∨ (J = 1 ∧ x0 = v0 ∧ x1 = 0 ∧ x2 = 0 ∧ x3 = 0 ∧ t = t1) ∨ (J = 2 ∧ x0 = v0 ∧ x1 = v1 ∧ x2 = 0 ∧ x3 = 0 ∧ t = t2) ∨ (J = 3 ∧ x0 = v0 ∧ x1 = v1 ∧ x2 = v2 ∧ x3 = 0 ∧ t = t3) ∨ (J = 4 ∧ x0 = v0 ∧ x1 = v1 ∧ x2 = v2 ∧ x3 = v3 ∧ t = t4)) ∧ j = .int .i64 J ∧ Stg w0 w wR W (w.heap.size + 1 + 1 + 1) 49 #[.int .i64 x0, .int .i64 x1, .int .i64 x2, .int .i64 x3] (.slice al (leftOf t).length cl) t) (fun j _ => 4 - (intOf j).toNat)
  case atStart => exact ⟨0, 0, 0, 0, 0, st, a0, c0, .inl ⟨rfl, rfl, rfl, rfl, rfl, rfl⟩, rfl, HST.out⟩
  case round =>
    obtain ⟨J, x0, x1, x2, x3, t, al, cl, hcase, rfl, hs⟩ := hrel
    rcases hcase with ⟨rfl, rfl, rfl, rfl, rfl, rfl⟩ | ⟨rfl, rfl, rfl, rfl, rfl, rfl⟩ | ⟨rfl, rfl, rfl, rfl, rfl, rfl⟩ | ⟨rfl, rfl, rfl, rfl, rfl, rfl⟩ | ⟨rfl, rfl, rfl, rfl, rfl, rfl⟩
    · have HC1 := Lib.hid (HG0.out wr _ hs.rin)
      obtain ⟨y0, y1, -⟩ := hs.facts
      have HS := Lib.hid hs; clear hs HG0 HG1 HG2 HG3
      generalize (leftOf t).length = Lx at *
      generalize t.isNone = bx at *
      generalize hly : (leftOf t1).length = Ly at *
      generalize hby : t1.isNone = by' at *
      have HLY := Lib.hid hly; clear hly
      have HBY := Lib.hid hby; clear hby
      go_wp2_with (go_at_call 68; refine HC1.out.mono ?_; rintro e W1 ⟨a5, c5, rfl, hr5, hf5⟩; clear y0 y1; obtain ⟨z0, z1, z2, z3, z4, z5, z6, z7⟩ := (HS.out.call hf5).facts; have z8 := (HS.out.call hf5).free 0; have z9 := (HS.out.call hf5).cell 0 rfl; have HF5 := Lib.hid hf5; have HR5 := Lib.hid hr5; clear hf5 hr5)
      go_roundw
      case rel =>
        have e1 := HLY.out
        have e2 := HBY.out
        subst e1 e2
        exact ⟨1, _, _, _, _, t1, a5, c5, .inr (.inl ⟨rfl, rfl, rfl, rfl, rfl, rfl⟩), by go_num, HS.out.next HF5.out HR5.out 0 _⟩
      case measure => simp [intOf]
    · have HC1 := Lib.hid (HG1.out wr _ hs.rin)
      obtain ⟨y0, y1, -⟩ := hs.facts
      have HS := Lib.hid hs; clear hs HG0 HG1 HG2 HG3
      generalize (leftOf t).length = Lx at *
      generalize t.isNone = bx at *
      generalize hly : (leftOf t2).length = Ly at *
      generalize hby : t2.isNone = by' at *
      have HLY := Lib.hid hly; clear hly
      have HBY := Lib.hid hby; clear hby
      go_wp2_with (go_at_call 68; refine HC1.out.mono ?_; rintro e W1 ⟨a5, c5, rfl, hr5, hf5⟩; clear y0 y1; obtain ⟨z0, z1, z2, z3, z4, z5, z6, z7⟩ := (HS.out.call hf5).facts; have z8 := (HS.out.call hf5).free 1; have z9 := (HS.out.call hf5).cell 1 rfl; have HF5 := Lib.hid hf5; have HR5 := Lib.hid hr5; clear hf5 hr5)
      go_roundw
      case rel =>
        have e1 := HLY.out
        have e2 := HBY.out
        subst e1 e2
        exact ⟨2, _, _, _, _, t2, a5, c5, .inr (.inr (.inl ⟨rfl, rfl, rfl, rfl, rfl, rfl⟩)), by go_num, HS.out.next HF5.out HR5.out 1 _⟩
      case measure => simp [intOf]
    · have HC1 := Lib.hid (HG2.out wr _ hs.rin)
      obtain ⟨y0, y1, -⟩ := hs.facts
      have HS := Lib.hid hs; clear hs HG0 HG1 HG2 HG3
      generalize (leftOf t).length = Lx at *
      generalize t.isNone = bx at *
      generalize hly : (leftOf t3).length = Ly at *
      generalize hby : t3.isNone = by' at *
      have HLY := Lib.hid hly; clear hly
      have HBY := Lib.hid hby; clear hby
      go_wp2_with (go_at_call 68; refine HC1.out.mono ?_; rintro e W1 ⟨a5, c5, rfl, hr5, hf5⟩; clear y0 y1; obtain ⟨z0, z1, z2, z3, z4, z5, z6, z7⟩ := (HS.out.call hf5).facts; have z8 := (HS.out.call hf5).free 2; have z9 := (HS.out.call hf5).cell 2 rfl; have HF5 := Lib.hid hf5; have HR5 := Lib.hid hr5; clear hf5 hr5)
      go_roundw
      case rel =>
        have e1 := HLY.out
        have e2 := HBY.out
        subst e1 e2
        exact ⟨3, _, _, _, _, t3, a5, c5, .inr (.inr (.inr (.inl ⟨rfl, rfl, rfl, rfl, rfl, rfl⟩))), by go_num, HS.out.next HF5.out HR5.out 2 _⟩
      case measure => simp [intOf]
    · have HC1 := Lib.hid (HG3.out wr _ hs.rin)
      obtain ⟨y0, y1, -⟩ := hs.facts
      have HS := Lib.hid hs; clear hs HG0 HG1 HG2 HG3
      generalize (leftOf t).length = Lx at *
      generalize t.isNone = bx at *
      generalize hly : (leftOf t4).length = Ly at *
      generalize hby : t4.isNone = by' at *
      have HLY := Lib.hid hly; clear hly
      have HBY := Lib.hid hby; clear hby
      go_wp2_with (go_at_call 68; refine HC1.out.mono ?_; rintro e W1 ⟨a5, c5, rfl, hr5, hf5⟩; clear y0 y1; obtain ⟨z0, z1, z2, z3, z4, z5, z6, z7⟩ := (HS.out.call hf5).facts; have z8 := (HS.out.call hf5).free 3; have z9 := (HS.out.call hf5).cell 3 rfl; have HF5 := Lib.hid hf5; have HR5 := Lib.hid hr5; clear hf5 hr5)
      go_roundw
      case rel =>
        have e1 := HLY.out
        have e2 := HBY.out
        subst e1 e2
        exact ⟨4, _, _, _, _, t4, a5, c5, .inr (.inr (.inr (.inr (⟨rfl, rfl, rfl, rfl, rfl, rfl⟩)))), by go_num, HS.out.next HF5.out HR5.out 3 _⟩
      case measure => simp [intOf]
    · clear HG0 HG1 HG2 HG3
      cases t with
      | none =>
        obtain ⟨⟨rfl, rfl, rfl, rfl⟩, rfl⟩ := HC.out.det (vec_bad (by decide) (by decide) HV4.out (.inl rfl))
        obtain ⟨y0, y1, y2, y3, y4, y5, y6, y7⟩ := hs.facts1 (rfl : (none : Option (List UInt8)).isNone = true)
        have HS := Lib.hid hs; clear hs
        have q0 : wr.cell? ⟨w.heap.size + 1 + 1 + 1, 0, none⟩ = some (.int .i64 x0) := HS.out.cell 0 rfl
        have q1 : wr.cell? ⟨w.heap.size + 1 + 1 + 1, 1, none⟩ = some (.int .i64 x1) := HS.out.cell 1 rfl
        have q2 : wr.cell? ⟨w.heap.size + 1 + 1 + 1, 2, none⟩ = some (.int .i64 x2) := HS.out.cell 2 rfl
        have q3 : wr.cell? ⟨w.heap.size + 1 + 1 + 1, 3, none⟩ = some (.int .i64 x3) := HS.out.cell 3 rfl
        go_wp2_with (go_at_call 61; go_loud (refine (rbad_any _).mono ?_); rintro e w9 ⟨rfl, hf9⟩
                     clear y0 y1 y2 y3 y4 y5 y6 y7 q0 q1 q2 q3
                     obtain ⟨g1, g2, hfw⟩ := HRS.out w9 ((HS.out.call hf9).frm)
                     have x10 := cell_at' g1 0 rfl
                     have x11 := cell_at' g1 1 rfl
                     have x12 := cell_at' g1 2 rfl
                     have x13 := cell_at' g1 3 rfl
                     have f0 := free_at' g1 0
                     have f1 := free_at' g1 1
                     have f2 := free_at' g1 2
                     have f3 := free_at' g1 3
                     have hl1 := lt_of_block g1
                     have x14 := cell_at' g2 0 rfl
                     have x15 := cell_at' g2 1 rfl
                     have f4 := free_at' g2 0
                     have f5 := free_at' g2 1
                     have hl2 := lt_of_block g2
                     have G1 := Lib.hid g1; clear g1
                     have G2 := Lib.hid g2; clear g2
                     have HF9 := Lib.hid hfw
                     clear hf9 hfw)
        clear x10 x11 x12 x13 x14 x15 f0 f1 f2 f3 f4 f5 hl1 hl2
        obtain ⟨y0, y1, y2, y3, y4, y5⟩ := stores6_at (x0 := .int .i64 0) (x1 := .int .i64 0) (x2 := .int .i64 0) (x3 := .int .i64 0) (y0 := .slice none 0 0) (y1 := .bool true) G1.out G2.out _ rfl
        exact bodyPost_ret (v := .tuple #[.agg #[.int .i64 0, .int .i64 0, .int .i64 0, .int .i64 0], .agg #[.slice none 0 0, .bool true]]) (by simp [results, Tryz.results69, go_sem, y0, y1, y2, y3, y4, y5]) rfl (vecFin (a := none) (l := 0) (s := none) (RIn.bad w0 _) HH0.out HF9.out (stores6 w w9 _ _ _ _ _ _))
      | some r =>
        by_cases hmay : MayV (vecF x0 x1 x2 x3)
        · rw [tf_true hmay] at HMY
          obtain ⟨⟨rfl, rfl, rfl, rfl⟩, rfl⟩ := HC.out.det (vec_good HV4.out hmay)
          obtain ⟨y0, y1, y2, y3, y4, y5, y6, y7⟩ := hs.facts1 (rfl : (some r).isNone = false)
          have HS := Lib.hid hs; clear hs hmay
          simp only [show (leftOf (some r)).length = r.length from rfl] at y0
          have q0 : wr.cell? ⟨w.heap.size + 1 + 1 + 1, 0, none⟩ = some (.int .i64 u0) := HS.out.cell 0 rfl
          have q1 : wr.cell? ⟨w.heap.size + 1 + 1 + 1, 1, none⟩ = some (.int .i64 u1) := HS.out.cell 1 rfl
          have q2 : wr.cell? ⟨w.heap.size + 1 + 1 + 1, 2, none⟩ = some (.int .i64 u2) := HS.out.cell 2 rfl
          have q3 : wr.cell? ⟨w.heap.size + 1 + 1 + 1, 3, none⟩ = some (.int .i64 u3) := HS.out.cell 3 rfl
          go_wp2_with (go_at_call 34; go_loud (refine (HMY.out _).mono ?_); rintro e w3 ⟨rfl, hf3⟩
                       clear y0 y1 y2 y3 y4 y5 y6 y7 q0 q1 q2 q3
                       obtain ⟨y0, y1, y2, y3, y4, y5, y6, y7⟩ := (HS.out.call hf3).facts1 (rfl : (some r).isNone = false)
                       simp only [show (leftOf (some r)).length = r.length from rfl] at y0
                       have q0 : w3.cell? ⟨w.heap.size + 1 + 1 + 1, 0, none⟩ = some (.int .i64 u0) := (HS.out.call hf3).cell 0 rfl
                       have q1 : w3.cell? ⟨w.heap.size + 1 + 1 + 1, 1, none⟩ = some (.int .i64 u1) := (HS.out.call hf3).cell 1 rfl
                       have q2 : w3.cell? ⟨w.heap.size + 1 + 1 + 1, 2, none⟩ = some (.int .i64 u2) := (HS.out.call hf3).cell 2 rfl
                       have q3 : w3.cell? ⟨w.heap.size + 1 + 1 + 1, 3, none⟩ = some (.int .i64 u3) := (HS.out.call hf3).cell 3 rfl
                       obtain ⟨g1, g2, hfw⟩ := HRS.out w3 ((HS.out.call hf3).frm)
                       have x10 := cell_at' g1 0 rfl
                       have x11 := cell_at' g1 1 rfl
                       have x12 := cell_at' g1 2 rfl
                       have x13 := cell_at' g1 3 rfl
                       have f0 := free_at' g1 0
                       have f1 := free_at' g1 1
                       have f2 := free_at' g1 2
                       have f3 := free_at' g1 3
                       have hl1 := lt_of_block g1
                       have x14 := cell_at' g2 0 rfl
                       have x15 := cell_at' g2 1 rfl
                       have f4 := free_at' g2 0
                       have f5 := free_at' g2 1
                       have hl2 := lt_of_block g2
                       have G1 := Lib.hid g1; clear g1
                       have G2 := Lib.hid g2; clear g2
                       have HFW := Lib.hid hfw
                       have HS3 := Lib.hid (HS.out.call hf3)
                       clear hf3 hfw)
          go_region
          all_goals
            clear x10 x11 x12 x13 x14 x15 f0 f1 f2 f3 f4 f5 hl1 hl2
            clear y0 y1 y2 y3 y4 y5 y6 y7 q0 q1 q2 q3
            obtain ⟨y0, y1, y2, y3, y4, y5⟩ := stores6_at (x0 := .int .i64 u0) (x1 := .int .i64 u1) (x2 := .int .i64 u2) (x3 := .int .i64 u3) (y0 := .slice al r.length cl) (y1 := .bool false) G1.out G2.out _ rfl
            go_wp2
            exact bodyPost_ret (v := .tuple #[.agg #[.int .i64 u0, .int .i64 u1, .int .i64 u2, .int .i64 u3], .agg #[.slice al r.length cl, .bool false]]) (by simp [results, Tryz.results69, go_sem, y0, y1, y2, y3, y4, y5]) rfl (vecFin (s := some r) HS3.out.rin HH0.out HFW.out ((stores6 w w3 _ _ _ _ _ _).then1 (Frm.drew NoS _)))
        · rw [tf_false hmay] at HMY
          obtain ⟨⟨rfl, rfl, rfl, rfl⟩, rfl⟩ := HC.out.det (vec_bad (by decide) (by decide) HV4.out (.inr hmay))
          obtain ⟨y0, y1, y2, y3, y4, y5, y6, y7⟩ := hs.facts1 (rfl : (some r).isNone = false)
          have HS := Lib.hid hs; clear hs hmay
          have q0 : wr.cell? ⟨w.heap.size + 1 + 1 + 1, 0, none⟩ = some (.int .i64 x0) := HS.out.cell 0 rfl
          have q1 : wr.cell? ⟨w.heap.size + 1 + 1 + 1, 1, none⟩ = some (.int .i64 x1) := HS.out.cell 1 rfl
          have q2 : wr.cell? ⟨w.heap.size + 1 + 1 + 1, 2, none⟩ = some (.int .i64 x2) := HS.out.cell 2 rfl
          have q3 : wr.cell? ⟨w.heap.size + 1 + 1 + 1, 3, none⟩ = some (.int .i64 x3) := HS.out.cell 3 rfl
          go_wp2_with (first
            | (go_at_call 34; go_loud (refine (HMY.out _).mono ?_); rintro e w3 ⟨rfl, hf3⟩; have HF3 := Lib.hid hf3; clear hf3)
            | (go_at_call 61; go_loud (refine (rbad_any _).mono ?_); rintro e w9 ⟨rfl, hf9⟩
               clear y0 y1 y2 y3 y4 y5 y6 y7 q0 q1 q2 q3
               obtain ⟨g1, g2, hfw⟩ := HRS.out w9 (((HS.out.call HF3.out).call hf9).frm)
               have x10 := cell_at' g1 0 rfl
               have x11 := cell_at' g1 1 rfl
               have x12 := cell_at' g1 2 rfl
               have x13 := cell_at' g1 3 rfl
               have f0 := free_at' g1 0
               have f1 := free_at' g1 1
               have f2 := free_at' g1 2
               have f3 := free_at' g1 3
               have hl1 := lt_of_block g1
               have x14 := cell_at' g2 0 rfl
               have x15 := cell_at' g2 1 rfl
               have f4 := free_at' g2 0
               have f5 := free_at' g2 1
               have hl2 := lt_of_block g2
               have G1 := Lib.hid g1; clear g1
               have G2 := Lib.hid g2; clear g2
               have HF9 := Lib.hid hfw
               clear hf9 hfw))
          clear x10 x11 x12 x13 x14 x15 f0 f1 f2 f3 f4 f5 hl1 hl2
          obtain ⟨y0, y1, y2, y3, y4, y5⟩ := stores6_at (x0 := .int .i64 0) (x1 := .int .i64 0) (x2 := .int .i64 0) (x3 := .int .i64 0) (y0 := .slice none 0 0) (y1 := .bool true) G1.out G2.out _ rfl
          exact bodyPost_ret (v := .tuple #[.agg #[.int .i64 0, .int .i64 0, .int .i64 0, .int .i64 0], .agg #[.slice none 0 0, .bool true]]) (by simp [results, Tryz.results69, go_sem, y0, y1, y2, y3, y4, y5]) rfl (vecFin (a := none) (l := 0) (s := none) (RIn.bad w0 _) HH0.out HF9.out (stores6 w w9 _ _ _ _ _ _))
end Go.Proofs.YtafdclkpeomomaaGreat
