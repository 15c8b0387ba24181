/- Words for the law PackGets: R16h, Op1, Op2, Bun0. -/
import Derived.Test.YtggfoihfenlckaaGreatPackGetsG2
import Derived.Test.YtggfoihfenlckaaGreatPackGetsG11
import Derived.Test.YtggfoihfenlckaaGreatPackGetsG17
import Derived.Test.YtggfoihfenlckaaGreatPackGetsG18
import Derived.Shelf.Abstract
set_option linter.unusedSimpArgs false
set_option linter.unusedVariables false
/- tributaryref16: ToCausal: the walk. Printed by wip/r16caugen.py. -/
namespace Go.Proofs.YtggfoihfenlckaaGreat
open Go.RowKit
section
variable {w0 w wr W W1 : World} {B : Nat} {T : TypeId} {cs : Array Value} {v v' : Value} {t t' : Option (List UInt8)} {b : Bool}
theorem Stg.nextA (h : Stg w0 w wr W B T cs v t) (f : Frm NoS W W1) (hr : RIn w0 W1 v' t') (hb : t'.isNone = b) (i j : Nat) (x y : Value) :
    Stg w0 w wr ((((W1.setCell ⟨B, i, none⟩ x).setCell ⟨B, j, none⟩ y).setCell ⟨w.heap.size, 0, none⟩ v').setCell ⟨w.heap.size, 1, none⟩ (.bool b)) B T ((cs.setIfInBounds i x).setIfInBounds j y) v' t' := by
  subst hb
  have g : ∀ (W : World) (j : Nat) (u : Value), RIn w0 W v' t' → RIn w0 (W.setCell ⟨B, j, none⟩ u) v' t' := fun W j u hr => hr.keep (only_set W B j u) fun k hk hs => (by have hs : k = B := hs; have := h.h0; have := h.new; have := h.old; omega)
  exact (((h.call f).fld i x).fld j y).put (g _ j y (g _ i x hr))
end
def ToCauPost (w0 w : World) (es : List Ent) (ks : KidsL) (c : CtxL) (s : Option (List UInt8)) (e : Ending) (w' : World) : Prop :=
  ∃ ev kv cv a l, e = .returned (.tuple #[.agg #[ev, kv, cv], .agg #[.slice a (leftOf s).length l, .bool s.isNone]]) ∧ TreeAt (fun b => w.heap.size ≤ b) w' ev kv es ks ∧ CtxQ (fun b => w.heap.size ≤ b) w' cv c ∧ RIn w0 w' (.slice a (leftOf s).length l) s ∧ Frm NoS w w'
theorem caFin {w0 w W W' : World} {es : List Ent} {ks : KidsL} {c : CtxL} {ev kv cv : Value} {a : Option Addr} {l : Nat} {s : Option (List UInt8)} (ht : TreeAt (fun b => w.heap.size + 1 + 1 + 1 ≤ b) W ev kv es ks) (hx : CtxQ (fun b => w.heap.size + 1 + 1 + 1 ≤ b) W cv c) (hr : RIn w0 W (.slice a (leftOf s).length l) s) (h0 : w0.heap.size ≤ w.heap.size) (hf : Frm NoS w W) (f : Frm (XT w) W W') :
    ToCauPost w0 w es ks c s (.returned (.tuple #[.agg #[ev, kv, cv], .agg #[.slice a (leftOf s).length l, .bool s.isNone]])) W' := by
  have turn : ∀ b, b < W.heap.size → w.heap.size + 1 + 1 + 1 ≤ b → W'.heap[b]? = W.heap[b]? ∧ w.heap.size ≤ b := fun b hb hQ => ⟨f.block b hb fun hs => (by rcases hs with hs | hs | hs <;> omega), by omega⟩
  refine ⟨ev, kv, cv, a, l, rfl, ht.turn turn, RdQ.turn hx turn, hr.keep f fun k hk hs => ?_, hf.trans f fun i hi hs => ?_⟩
  · rcases hs with hs | hs | hs <;> omega
  · rcases hs with hs | hs | hs <;> omega
theorem stores5 (w W : World) (x0 x1 x2 y0 y1 : Value) : Frm (XT w) W (((((W.setCell ⟨w.heap.size + 1, 0, none⟩ x0).setCell ⟨w.heap.size + 1, 1, none⟩ x1).setCell ⟨w.heap.size + 1, 2, none⟩ x2).setCell ⟨w.heap.size + 1 + 1, 0, none⟩ y0).setCell ⟨w.heap.size + 1 + 1, 1, none⟩ y1) :=
  (((three_set W (w.heap.size + 1) x0 x1 x2).mono fun k _ hk => .inr (.inl hk)).trans ((two_set _ (w.heap.size + 1 + 1) y0 y1).mono fun k _ hk => .inr (.inr hk)) fun _ _ h => h)
theorem stores5_at {w W : World} {x0 x1 x2 y0 y1 : Value} {a b b2 c d : Value} (h1 : W.heap[w.heap.size + 1]? = some (.cells #[a, b, b2] 37 (0, 0))) (h2 : W.heap[w.heap.size + 1 + 1]? = some (.cells #[c, d] 51 (0, 0))) (W' : World)
    (hW : W' = ((((W.setCell ⟨w.heap.size + 1, 0, none⟩ x0).setCell ⟨w.heap.size + 1, 1, none⟩ x1).setCell ⟨w.heap.size + 1, 2, none⟩ x2).setCell ⟨w.heap.size + 1 + 1, 0, none⟩ y0).setCell ⟨w.heap.size + 1 + 1, 1, none⟩ y1) :
    W'.cell? ⟨w.heap.size + 1, 0, none⟩ = some x0 ∧ W'.cell? ⟨w.heap.size + 1, 1, none⟩ = some x1 ∧ W'.cell? ⟨w.heap.size + 1, 2, none⟩ = some x2 ∧ W'.cell? ⟨w.heap.size + 1 + 1, 0, none⟩ = some y0 ∧ W'.cell? ⟨w.heap.size + 1 + 1, 1, none⟩ = some y1 := by
  subst hW
  have g1 := set_at' (set_at' (set_at' h1 0 x0) 1 x1) 2 x2
  have f1 := three_set W (w.heap.size + 1) x0 x1 x2
  have f2 := two_set (((W.setCell ⟨w.heap.size + 1, 0, none⟩ x0).setCell ⟨w.heap.size + 1, 1, none⟩ x1).setCell ⟨w.heap.size + 1, 2, none⟩ x2) (w.heap.size + 1 + 1) y0 y1
  have g2 := f1.blk h2 fun e => by have e : w.heap.size + 1 + 1 = w.heap.size + 1 := e; omega
  have g3 := f2.blk g1 fun e => by have e : w.heap.size + 1 = w.heap.size + 1 + 1 := e; omega
  have g4 := set_at' (set_at' g2 0 y0) 1 y1
  exact ⟨cell_at' g3 0 rfl, cell_at' g3 1 rfl, cell_at' g3 2 rfl, cell_at' g4 0 rfl, cell_at' g4 1 rfl⟩
theorem Stg.start4 {w0 w W : World} {a : Option Addr} {l : Nat} {st : Option (List UInt8)} (h : RIn w0 w (.slice a (leftOf st).length l) st) (h0 : w0.heap.size ≤ w.heap.size) (T1 T3 : TypeId) (c1 c3 : Array Value)
    (hW : W = (((w.alloc (.cells #[.slice a (leftOf st).length l, .bool st.isNone] 51)).alloc (.cells c1 T1)).alloc (.cells #[.slice none 0 0, .bool false] 51)).alloc (.cells c3 T3)) :
    ∃ wr, Stg w0 w wr W (w.heap.size + 1 + 1 + 1) T3 c3 (.slice a (leftOf st).length l) st ∧ wr.heap[w.heap.size + 1]? = some (.cells c1 T1 (0, 0)) ∧ wr.heap[w.heap.size + 1 + 1]? = some (.cells #[.slice none 0 0, .bool false] 51 (0, 0)) ∧ Frm NoS w wr ∧ W.heap.size = w.heap.size + 1 + 1 + 1 + 1 ∧ wr.heap.size = w.heap.size + 1 + 1 + 1 := by
  obtain ⟨g0, g1, g2, g3, gf⟩ := four_blocks w _ _ _ _ _ _ _ _ W hW
  have sz : ∀ (u : World) (o : Obj), (u.alloc o).heap.size = u.heap.size + 1 := fun u o => by simp
  obtain ⟨k0, k1, k2, kf⟩ : (((w.alloc (.cells #[.slice a (leftOf st).length l, .bool st.isNone] 51)).alloc (.cells c1 T1)).alloc (.cells #[.slice none 0 0, .bool false] 51)).heap[w.heap.size]? = some (.cells #[.slice a (leftOf st).length l, .bool st.isNone] 51 (0, 0)) ∧
      (((w.alloc (.cells #[.slice a (leftOf st).length l, .bool st.isNone] 51)).alloc (.cells c1 T1)).alloc (.cells #[.slice none 0 0, .bool false] 51)).heap[w.heap.size + 1]? = some (.cells c1 T1 (0, 0)) ∧
      (((w.alloc (.cells #[.slice a (leftOf st).length l, .bool st.isNone] 51)).alloc (.cells c1 T1)).alloc (.cells #[.slice none 0 0, .bool false] 51)).heap[w.heap.size + 1 + 1]? = some (.cells #[.slice none 0 0, .bool false] 51 (0, 0)) ∧
      Frm NoS w (((w.alloc (.cells #[.slice a (leftOf st).length l, .bool st.isNone] 51)).alloc (.cells c1 T1)).alloc (.cells #[.slice none 0 0, .bool false] 51)) := by
    have h1 := heap_alloc_new (w.alloc (.cells #[.slice a (leftOf st).length l, .bool st.isNone] 51)) (.cells c1 T1)
    have h2 := heap_alloc_new ((w.alloc (.cells #[.slice a (leftOf st).length l, .bool st.isNone] 51)).alloc (.cells c1 T1)) (.cells #[.slice none 0 0, .bool false] 51)
    simp only [sz] at h1 h2
    exact ⟨((Frm.alloc NoS _ _).alloc1).blk (heap_alloc_new w _) id, (Frm.alloc NoS _ _).blk h1 id, h2, ((Frm.alloc NoS _ _).alloc1).alloc1⟩
  refine ⟨_, ⟨h.keep0 gf, g0, g3, ?_, ?_, lt_of_block k0, h0⟩, k1, k2, kf, by rw [hW]; simp only [sz], by simp only [sz]⟩
  · rw [hW]; exact (Frm.alloc NoS _ _).mono fun _ _ s => s.elim
  · simp only [sz]; exact Nat.le_refl _
set_option maxHeartbeats 8000000 in
set_option maxRecDepth 1000000 in
theorem r16ToCausal_fit {w0 : World} {v : Value} {st s : Option (List UInt8)} {es : List Ent} {ks : KidsL} {c : CtxL} (w : World) (h : RIn w0 w v st) (h0 : w0.heap.size ≤ w.heap.size) (hc : CauRes st es ks c s) (hl : (leftOf st).length ≤ 60000) (hfit : CauFit st) :
    Calls Tryz.prog 64 #[.agg #[v, .bool st.isNone]] w (ToCauPost w0 w es ks c s) := by
  obtain ⟨a0, c0, rfl⟩ := h.shape
  obtain ⟨es1, ks1, s1, ht1⟩ := TreeRes.total st
  obtain ⟨c1, s2, hc1⟩ := CtxRes.total s1
  have hok := hfit _ _ _ _ _ ht1 hc1
  have hl1 := ht1.sizes
  have HT := Lib.hid (fun W v (hr : RIn w0 W v st) (f : w0.heap.size ≤ W.heap.size) => r16ToTree_at W hr f ht1 (by omega))
  have HC := Lib.hid (fun W v (hr : RIn w0 W v s1) (f : w0.heap.size ≤ W.heap.size) => r16ToCtx_at W hr f hc1 (by omega))
  have HRT := Lib.hid (fun W Q ev kv cv (h : CauAt Q W ev kv cv es1 ks1 c1) => r9Right_any Q es1 ks1 c1 W ev kv cv h hok)
  unfold ToTreePost at HT
  unfold ToCtxPost at HC
  obtain ⟨WB, hWB⟩ : ∃ W, W = (((w.alloc (.cells #[.slice a0 (leftOf st).length c0, .bool st.isNone] 51)).alloc (.cells #[.slice none 0 0, .slice none 0 0, .slice none 0 0] 37)).alloc (.cells #[.slice none 0 0, .bool false] 51)).alloc (.cells #[.slice none 0 0, .slice none 0 0, .slice none 0 0] 37) := ⟨_, rfl⟩
  obtain ⟨wr, hst, hk1, hk2, hkf, hsz, hsr⟩ := Stg.start4 h h0 _ _ _ _ hWB
  have HST := Lib.hid hst; clear hst
  have HK1 := Lib.hid hk1; clear hk1
  have HK2 := Lib.hid hk2; clear hk2
  have HKF := Lib.hid hkf; clear hkf
  have HSZ := Lib.hid hsz; clear hsz
  have HSR := Lib.hid hsr; clear hsr
  have HH0 := Lib.hid h0; clear h0
  clear h hok hl1 hl hfit
  have HRS := Lib.hid (fun (W : World) (f : Frm (Only w.heap.size) wr W) => (⟨f.blk HK1.out fun e => (by have e : w.heap.size + 1 = w.heap.size := e; omega), f.blk HK2.out fun e => (by have e : w.heap.size + 1 + 1 = w.heap.size := e; omega), HKF.out.trans f fun i hi e => (by have e : i = w.heap.size := e; omega)⟩ :
    W.heap[w.heap.size + 1]? = some (.cells #[.slice none 0 0, .slice none 0 0, .slice none 0 0] 37 (0, 0)) ∧ W.heap[w.heap.size + 1 + 1]? = some (.cells #[.slice none 0 0, .bool false] 51 (0, 0)) ∧ Frm NoS w W))
  cases s2 with
  | some r =>
    simp only [show (leftOf (some r)).length = r.length from rfl, show (some r).isNone = false from rfl] at HC
    by_cases hr : CauRight es1 ks1 c1
    · rw [tf_true hr] at HRT
      obtain ⟨⟨⟨rfl, rfl⟩, rfl⟩, rfl⟩ := hc.det (cau_good ht1 hc1 hr)
      clear hc hr ht1 hc1
      generalize hbd : st.isNone = bd at *
      generalize hll : (leftOf st).length = L0 at *
      have HBD := Lib.hid hbd; clear hbd
      have HLL := Lib.hid hll; clear hll
      generalize hb1 : s1.isNone = b1 at *
      generalize hm1 : (leftOf s1).length = L1 at *
      have HB1 := Lib.hid hb1; clear hb1
      have HM1 := Lib.hid hm1; clear hm1
      have HWB := Lib.hid hWB; clear hWB
      go_enter Tryz.func64, Tryz.ntmps64
      go_wp2_with (first
          | (go_at_call 63; rw [← HWB.out]; go_loud (refine (HT.out WB _ HST.out.rin (Nat.le_trans HST.out.h0 (Nat.le_of_lt (lt_of_block HST.out.box)))).mono ?_); rintro e w1 ⟨ev, kv, a3, l3, rfl, hta, hr1, hf1⟩; obtain ⟨a4, c4, rfl⟩ := hta.ents.rd.sl; obtain ⟨os5, hkr5, -⟩ := hta.kids; obtain ⟨a5, c5, rfl⟩ := hkr5.rd.sl; clear hkr5
             obtain ⟨y0, y1, y2, y3, y4, y5, y6, y7⟩ := (HST.out.call hf1).facts1 HBD.out
             have z8 := (HST.out.call hf1).free 0
             have z9 := (HST.out.call hf1).free 1
             have z10 := (HST.out.call hf1).cell 0 rfl
             have z11 := (HST.out.call hf1).cell 1 rfl
             have HS1 := Lib.hid (HST.out.nextA hf1 hr1 HB1.out 0 1 (.slice a4 es.length c4) (.slice a5 ks.len c5))
             have hft : Frm (fun k => k = w.heap.size + 1 + 1 + 1 ∨ k = w.heap.size) w1 ((((w1.setCell ⟨w.heap.size + 1 + 1 + 1, 0, none⟩ (.slice a4 es.length c4)).setCell ⟨w.heap.size + 1 + 1 + 1, 1, none⟩ (.slice a5 ks.len c5)).setCell ⟨w.heap.size, 0, none⟩ (.slice a3 L1 l3)).setCell ⟨w.heap.size, 1, none⟩ (.bool b1)) :=
               ((two_set w1 (w.heap.size + 1 + 1 + 1) _ _).mono fun k _ hk => .inl hk).trans ((two_set _ w.heap.size _ _).mono fun k _ hk => .inr hk) fun _ _ h => h
             have HTA := Lib.hid (hta.turn (Q' := fun b => w.heap.size + 1 + 1 + 1 + 1 ≤ b) fun b hb hQ => ⟨hft.block b hb (fun hs => by have hQ : WB.heap.size ≤ b := hQ; have := HSZ.out; rcases hs with hs | hs <;> omega), by have hQ : WB.heap.size ≤ b := hQ; have := HSZ.out; omega⟩)
             clear hft hta hr1 hf1)
          | (go_at_call 62; go_loud (refine (HC.out _ _ HS1.out.rin (Nat.le_trans HS1.out.h0 (Nat.le_of_lt (lt_of_block HS1.out.box)))).mono ?_); rintro e w2 ⟨cv, a6, l6, rfl, hrc, hr2, hf2⟩; obtain ⟨a7, c7, rfl⟩ := hrc.rd.sl; clear y0 y1 y2 y3 y4 y5 y6 y7 z8 z9 z10 z11
             obtain ⟨y0, y1, y2, y3, y4, y5, y6, y7⟩ := (HS1.out.call hf2).facts1 HB1.out
             have z8 := (HS1.out.call hf2).free 2
             have z9 := (HS1.out.call hf2).cell 2 rfl
             have q0 : w2.cell? ⟨w.heap.size + 1 + 1 + 1, 0, none⟩ = some (.slice a4 es.length c4) := (HS1.out.call hf2).cell 0 rfl
             have q1 : w2.cell? ⟨w.heap.size + 1 + 1 + 1, 1, none⟩ = some (.slice a5 ks.len c5) := (HS1.out.call hf2).cell 1 rfl
             have HS2 := Lib.hid (HS1.out.next1 hf2 hr2 (b := false) rfl 2 (.slice a7 c.length c7))
             have hsz1 : w.heap.size + 1 + 1 + 1 < ((((w1.setCell ⟨w.heap.size + 1 + 1 + 1, 0, none⟩ (.slice a4 es.length c4)).setCell ⟨w.heap.size + 1 + 1 + 1, 1, none⟩ (.slice a5 ks.len c5)).setCell ⟨w.heap.size, 0, none⟩ (.slice a3 L1 l3)).setCell ⟨w.heap.size, 1, none⟩ (.bool b1)).heap.size := lt_of_block HS1.out.blk
             have hft : Frm (fun k => k = w.heap.size + 1 + 1 + 1 ∨ k = w.heap.size) w2 (((w2.setCell ⟨w.heap.size + 1 + 1 + 1, 2, none⟩ (.slice a7 c.length c7)).setCell ⟨w.heap.size, 0, none⟩ (.slice a6 r.length l6)).setCell ⟨w.heap.size, 1, none⟩ (.bool false)) :=
               ((only_set w2 (w.heap.size + 1 + 1 + 1) 2 _).mono fun k _ hk => .inl hk).trans ((two_set _ w.heap.size _ _).mono fun k _ hk => .inr hk) fun _ _ h => h
             have HTA2 := Lib.hid ((HTA.out.keep0 hf2).turn (Q' := fun b => w.heap.size + 1 + 1 + 1 ≤ b) fun b hb hQ => ⟨hft.block b hb (fun hs => by have hQ : w.heap.size + 1 + 1 + 1 + 1 ≤ b := hQ; rcases hs with hs | hs <;> omega), by have hQ : w.heap.size + 1 + 1 + 1 + 1 ≤ b := hQ; omega⟩)
             have HRC := Lib.hid (show CtxQ (fun b => w.heap.size + 1 + 1 + 1 ≤ b) _ (.slice a7 c.length c7) c from RdQ.turn hrc fun b hb hQ => ⟨hft.block b hb (fun hs => by have hQ := Nat.lt_of_lt_of_le hsz1 hQ; rcases hs with hs | hs <;> omega), Nat.le_of_lt (Nat.lt_of_lt_of_le hsz1 hQ)⟩)
             clear hft hrc hr2 hf2 hsz1
             generalize es.length = n at *
             generalize ks.len = m at *
             generalize c.length = k at *)
          | (go_at_call 22; go_loud (refine (HRT.out _ _ _ _ _ ⟨HTA2.out, HRC.out.at_⟩).mono ?_); rintro e w3 ⟨rfl, hf3⟩
             clear y0 y1 y2 y3 y4 y5 y6 y7 z8 z9 q0 q1
             obtain ⟨g1, g2, hfw⟩ := HRS.out w3 ((HS2.out.call hf3).frm)
             have x0 := cell_at' g1 0 rfl
             have x1 := cell_at' g1 1 rfl
             have x2 := cell_at' g1 2 rfl
             have f0 := free_at' g1 0
             have f1 := free_at' g1 1
             have f2 := free_at' g1 2
             have hl1 := lt_of_block g1
             have x3 := cell_at' g2 0 rfl
             have x4 := cell_at' g2 1 rfl
             have f3 := free_at' g2 0
             have f4 := free_at' g2 1
             have hl2 := lt_of_block g2
             have G1 := Lib.hid g1; clear g1
             have G2 := Lib.hid g2; clear g2
             obtain ⟨y0, y1, y2, y3, y4, y5, y6, y7⟩ := (HS2.out.call hf3).facts1 (b := false) rfl
             have q0 : w3.cell? ⟨w.heap.size + 1 + 1 + 1, 0, none⟩ = some (.slice a4 n c4) := (HS2.out.call hf3).cell 0 rfl
             have q1 : w3.cell? ⟨w.heap.size + 1 + 1 + 1, 1, none⟩ = some (.slice a5 m c5) := (HS2.out.call hf3).cell 1 rfl
             have q2 : w3.cell? ⟨w.heap.size + 1 + 1 + 1, 2, none⟩ = some (.slice a7 k c7) := (HS2.out.call hf3).cell 2 rfl
             have HFW := Lib.hid hfw
             have HF3 := Lib.hid hf3
             clear hf3 hfw))
      go_region
      all_goals
        clear x0 x1 x2 x3 x4 f0 f1 f2 f3 f4 hl1 hl2
        clear y0 y1 y2 y3 y4 y5 y6 y7 q0 q1 q2
        obtain ⟨y0, y1, y2, y3, y4⟩ := stores5_at (x0 := .slice a4 n c4) (x1 := .slice a5 m c5) (x2 := .slice a7 k c7) (y0 := .slice a6 r.length l6) (y1 := .bool false) G1.out G2.out _ rfl
        go_wp2
        exact bodyPost_ret (v := .tuple #[.agg #[.slice a4 n c4, .slice a5 m c5, .slice a7 k c7], .agg #[.slice a6 r.length l6, .bool false]]) (by simp [results, Tryz.results64, go_sem, y0, y1, y2, y3, y4]) rfl (caFin (s := some r) (HTA2.out.keep0 HF3.out) (HRC.out.keep0 HF3.out) (HS2.out.call HF3.out).rin HH0.out HFW.out ((stores5 w w3 _ _ _ _ _).then1 (Frm.drew NoS _)))
    · rw [tf_false hr] at HRT
      obtain ⟨⟨⟨rfl, rfl⟩, rfl⟩, rfl⟩ := hc.det (cau_bad ht1 hc1 (.inr hr))
      clear hc hr ht1 hc1
      generalize hbd : st.isNone = bd at *
      generalize hll : (leftOf st).length = L0 at *
      have HBD := Lib.hid hbd; clear hbd
      have HLL := Lib.hid hll; clear hll
      generalize hb1 : s1.isNone = b1 at *
      generalize hm1 : (leftOf s1).length = L1 at *
      have HB1 := Lib.hid hb1; clear hb1
      have HM1 := Lib.hid hm1; clear hm1
      have HWB := Lib.hid hWB; clear hWB
      go_enter Tryz.func64, Tryz.ntmps64
      go_wp2_with (first
          | (go_at_call 63; rw [← HWB.out]; go_loud (refine (HT.out WB _ HST.out.rin (Nat.le_trans HST.out.h0 (Nat.le_of_lt (lt_of_block HST.out.box)))).mono ?_); rintro e w1 ⟨ev, kv, a3, l3, rfl, hta, hr1, hf1⟩; obtain ⟨a4, c4, rfl⟩ := hta.ents.rd.sl; obtain ⟨os5, hkr5, -⟩ := hta.kids; obtain ⟨a5, c5, rfl⟩ := hkr5.rd.sl; clear hkr5
             obtain ⟨y0, y1, y2, y3, y4, y5, y6, y7⟩ := (HST.out.call hf1).facts1 HBD.out
             have z8 := (HST.out.call hf1).free 0
             have z9 := (HST.out.call hf1).free 1
             have z10 := (HST.out.call hf1).cell 0 rfl
             have z11 := (HST.out.call hf1).cell 1 rfl
             have HS1 := Lib.hid (HST.out.nextA hf1 hr1 HB1.out 0 1 (.slice a4 es1.length c4) (.slice a5 ks1.len c5))
             have hft : Frm (fun k => k = w.heap.size + 1 + 1 + 1 ∨ k = w.heap.size) w1 ((((w1.setCell ⟨w.heap.size + 1 + 1 + 1, 0, none⟩ (.slice a4 es1.length c4)).setCell ⟨w.heap.size + 1 + 1 + 1, 1, none⟩ (.slice a5 ks1.len c5)).setCell ⟨w.heap.size, 0, none⟩ (.slice a3 L1 l3)).setCell ⟨w.heap.size, 1, none⟩ (.bool b1)) :=
               ((two_set w1 (w.heap.size + 1 + 1 + 1) _ _).mono fun k _ hk => .inl hk).trans ((two_set _ w.heap.size _ _).mono fun k _ hk => .inr hk) fun _ _ h => h
             have HTA := Lib.hid (hta.turn (Q' := fun b => w.heap.size + 1 + 1 + 1 + 1 ≤ b) fun b hb hQ => ⟨hft.block b hb (fun hs => by have hQ : WB.heap.size ≤ b := hQ; have := HSZ.out; rcases hs with hs | hs <;> omega), by have hQ : WB.heap.size ≤ b := hQ; have := HSZ.out; omega⟩)
             clear hft hta hr1 hf1)
          | (go_at_call 62; go_loud (refine (HC.out _ _ HS1.out.rin (Nat.le_trans HS1.out.h0 (Nat.le_of_lt (lt_of_block HS1.out.box)))).mono ?_); rintro e w2 ⟨cv, a6, l6, rfl, hrc, hr2, hf2⟩; obtain ⟨a7, c7, rfl⟩ := hrc.rd.sl; clear y0 y1 y2 y3 y4 y5 y6 y7 z8 z9 z10 z11
             obtain ⟨y0, y1, y2, y3, y4, y5, y6, y7⟩ := (HS1.out.call hf2).facts1 HB1.out
             have z8 := (HS1.out.call hf2).free 2
             have z9 := (HS1.out.call hf2).cell 2 rfl
             have q0 : w2.cell? ⟨w.heap.size + 1 + 1 + 1, 0, none⟩ = some (.slice a4 es1.length c4) := (HS1.out.call hf2).cell 0 rfl
             have q1 : w2.cell? ⟨w.heap.size + 1 + 1 + 1, 1, none⟩ = some (.slice a5 ks1.len c5) := (HS1.out.call hf2).cell 1 rfl
             have HS2 := Lib.hid (HS1.out.next1 hf2 hr2 (b := false) rfl 2 (.slice a7 c1.length c7))
             have hsz1 : w.heap.size + 1 + 1 + 1 < ((((w1.setCell ⟨w.heap.size + 1 + 1 + 1, 0, none⟩ (.slice a4 es1.length c4)).setCell ⟨w.heap.size + 1 + 1 + 1, 1, none⟩ (.slice a5 ks1.len c5)).setCell ⟨w.heap.size, 0, none⟩ (.slice a3 L1 l3)).setCell ⟨w.heap.size, 1, none⟩ (.bool b1)).heap.size := lt_of_block HS1.out.blk
             have hft : Frm (fun k => k = w.heap.size + 1 + 1 + 1 ∨ k = w.heap.size) w2 (((w2.setCell ⟨w.heap.size + 1 + 1 + 1, 2, none⟩ (.slice a7 c1.length c7)).setCell ⟨w.heap.size, 0, none⟩ (.slice a6 r.length l6)).setCell ⟨w.heap.size, 1, none⟩ (.bool false)) :=
               ((only_set w2 (w.heap.size + 1 + 1 + 1) 2 _).mono fun k _ hk => .inl hk).trans ((two_set _ w.heap.size _ _).mono fun k _ hk => .inr hk) fun _ _ h => h
             have HTA2 := Lib.hid ((HTA.out.keep0 hf2).turn (Q' := fun b => w.heap.size + 1 + 1 + 1 ≤ b) fun b hb hQ => ⟨hft.block b hb (fun hs => by have hQ : w.heap.size + 1 + 1 + 1 + 1 ≤ b := hQ; rcases hs with hs | hs <;> omega), by have hQ : w.heap.size + 1 + 1 + 1 + 1 ≤ b := hQ; omega⟩)
             have HRC := Lib.hid (show CtxQ (fun b => w.heap.size + 1 + 1 + 1 ≤ b) _ (.slice a7 c1.length c7) c1 from RdQ.turn hrc fun b hb hQ => ⟨hft.block b hb (fun hs => by have hQ := Nat.lt_of_lt_of_le hsz1 hQ; rcases hs with hs | hs <;> omega), Nat.le_of_lt (Nat.lt_of_lt_of_le hsz1 hQ)⟩)
             clear hft hrc hr2 hf2 hsz1
             generalize es1.length = n at *
             generalize ks1.len = m at *
             generalize c1.length = k at *)
          | (go_at_call 22; go_loud (refine (HRT.out _ _ _ _ _ ⟨HTA2.out, HRC.out.at_⟩).mono ?_); rintro e w3 ⟨rfl, hf3⟩
             clear y0 y1 y2 y3 y4 y5 y6 y7 z8 z9 q0 q1
             have HF3 := Lib.hid hf3
             clear hf3)
          | (go_at_call 119; go_loud (refine (rbad_any _).mono ?_); rintro e w9 ⟨rfl, hf9⟩
             obtain ⟨g1, g2, hfw⟩ := HRS.out w9 ((HS2.out.call (HF3.out.then1 hf9)).frm)
             have x0 := cell_at' g1 0 rfl
             have x1 := cell_at' g1 1 rfl
             have x2 := cell_at' g1 2 rfl
             have f0 := free_at' g1 0
             have f1 := free_at' g1 1
             have f2 := free_at' g1 2
             have hl1 := lt_of_block g1
             have x3 := cell_at' g2 0 rfl
             have x4 := cell_at' g2 1 rfl
             have f3 := free_at' g2 0
             have f4 := free_at' g2 1
             have hl2 := lt_of_block g2
             have G1 := Lib.hid g1; clear g1
             have G2 := Lib.hid g2; clear g2
             have HF9 := Lib.hid hfw
             clear hf9 hfw))
      clear x0 x1 x2 x3 x4 f0 f1 f2 f3 f4 hl1 hl2
      obtain ⟨y0, y1, y2, y3, y4⟩ := stores5_at (x0 := .slice none 0 0) (x1 := .slice none 0 0) (x2 := .slice none 0 0) (y0 := .slice none 0 0) (y1 := .bool true) G1.out G2.out _ rfl
      exact bodyPost_ret (v := .tuple #[.agg #[.slice none 0 0, .slice none 0 0, .slice none 0 0], .agg #[.slice none 0 0, .bool true]]) (by simp [results, Tryz.results64, go_sem, y0, y1, y2, y3, y4]) rfl (caFin (a := none) (l := 0) (s := none) (c := []) (tree_nilQ _ _) (rdq_nil _ _) (RIn.bad w0 _) HH0.out HF9.out (stores5 w w9 _ _ _ _ _))
  | none =>
    simp only [show (leftOf (none : Option (List UInt8))).length = 0 from rfl, show (none : Option (List UInt8)).isNone = true from rfl] at HC
    · obtain ⟨⟨⟨rfl, rfl⟩, rfl⟩, rfl⟩ := hc.det (cau_bad ht1 hc1 (.inl rfl))
      clear hc ht1 hc1 HRT
      generalize hbd : st.isNone = bd at *
      generalize hll : (leftOf st).length = L0 at *
      have HBD := Lib.hid hbd; clear hbd
      have HLL := Lib.hid hll; clear hll
      generalize hb1 : s1.isNone = b1 at *
      generalize hm1 : (leftOf s1).length = L1 at *
      have HB1 := Lib.hid hb1; clear hb1
      have HM1 := Lib.hid hm1; clear hm1
      have HWB := Lib.hid hWB; clear hWB
      go_enter Tryz.func64, Tryz.ntmps64
      go_wp2_with (first
          | (go_at_call 63; rw [← HWB.out]; go_loud (refine (HT.out WB _ HST.out.rin (Nat.le_trans HST.out.h0 (Nat.le_of_lt (lt_of_block HST.out.box)))).mono ?_); rintro e w1 ⟨ev, kv, a3, l3, rfl, hta, hr1, hf1⟩; obtain ⟨a4, c4, rfl⟩ := hta.ents.rd.sl; obtain ⟨os5, hkr5, -⟩ := hta.kids; obtain ⟨a5, c5, rfl⟩ := hkr5.rd.sl; clear hkr5
             obtain ⟨y0, y1, y2, y3, y4, y5, y6, y7⟩ := (HST.out.call hf1).facts1 HBD.out
             have z8 := (HST.out.call hf1).free 0
             have z9 := (HST.out.call hf1).free 1
             have z10 := (HST.out.call hf1).cell 0 rfl
             have z11 := (HST.out.call hf1).cell 1 rfl
             have HS1 := Lib.hid (HST.out.nextA hf1 hr1 HB1.out 0 1 (.slice a4 es1.length c4) (.slice a5 ks1.len c5))
             have hft : Frm (fun k => k = w.heap.size + 1 + 1 + 1 ∨ k = w.heap.size) w1 ((((w1.setCell ⟨w.heap.size + 1 + 1 + 1, 0, none⟩ (.slice a4 es1.length c4)).setCell ⟨w.heap.size + 1 + 1 + 1, 1, none⟩ (.slice a5 ks1.len c5)).setCell ⟨w.heap.size, 0, none⟩ (.slice a3 L1 l3)).setCell ⟨w.heap.size, 1, none⟩ (.bool b1)) :=
               ((two_set w1 (w.heap.size + 1 + 1 + 1) _ _).mono fun k _ hk => .inl hk).trans ((two_set _ w.heap.size _ _).mono fun k _ hk => .inr hk) fun _ _ h => h
             have HTA := Lib.hid (hta.turn (Q' := fun b => w.heap.size + 1 + 1 + 1 + 1 ≤ b) fun b hb hQ => ⟨hft.block b hb (fun hs => by have hQ : WB.heap.size ≤ b := hQ; have := HSZ.out; rcases hs with hs | hs <;> omega), by have hQ : WB.heap.size ≤ b := hQ; have := HSZ.out; omega⟩)
             clear hft hta hr1 hf1)
          | (go_at_call 62; go_loud (refine (HC.out _ _ HS1.out.rin (Nat.le_trans HS1.out.h0 (Nat.le_of_lt (lt_of_block HS1.out.box)))).mono ?_); rintro e w2 ⟨cv, a6, l6, rfl, hrc, hr2, hf2⟩; obtain ⟨a7, c7, rfl⟩ := hrc.rd.sl; clear y0 y1 y2 y3 y4 y5 y6 y7 z8 z9 z10 z11
             obtain ⟨y0, y1, y2, y3, y4, y5, y6, y7⟩ := (HS1.out.call hf2).facts1 HB1.out
             have z8 := (HS1.out.call hf2).free 2
             have z9 := (HS1.out.call hf2).cell 2 rfl
             have q0 : w2.cell? ⟨w.heap.size + 1 + 1 + 1, 0, none⟩ = some (.slice a4 es1.length c4) := (HS1.out.call hf2).cell 0 rfl
             have q1 : w2.cell? ⟨w.heap.size + 1 + 1 + 1, 1, none⟩ = some (.slice a5 ks1.len c5) := (HS1.out.call hf2).cell 1 rfl
             have HS2 := Lib.hid (HS1.out.next1 hf2 hr2 (b := true) rfl 2 (.slice a7 c1.length c7))
             have hsz1 : w.heap.size + 1 + 1 + 1 < ((((w1.setCell ⟨w.heap.size + 1 + 1 + 1, 0, none⟩ (.slice a4 es1.length c4)).setCell ⟨w.heap.size + 1 + 1 + 1, 1, none⟩ (.slice a5 ks1.len c5)).setCell ⟨w.heap.size, 0, none⟩ (.slice a3 L1 l3)).setCell ⟨w.heap.size, 1, none⟩ (.bool b1)).heap.size := lt_of_block HS1.out.blk
             have hft : Frm (fun k => k = w.heap.size + 1 + 1 + 1 ∨ k = w.heap.size) w2 (((w2.setCell ⟨w.heap.size + 1 + 1 + 1, 2, none⟩ (.slice a7 c1.length c7)).setCell ⟨w.heap.size, 0, none⟩ (.slice a6 0 l6)).setCell ⟨w.heap.size, 1, none⟩ (.bool true)) :=
               ((only_set w2 (w.heap.size + 1 + 1 + 1) 2 _).mono fun k _ hk => .inl hk).trans ((two_set _ w.heap.size _ _).mono fun k _ hk => .inr hk) fun _ _ h => h
             have HTA2 := Lib.hid ((HTA.out.keep0 hf2).turn (Q' := fun b => w.heap.size + 1 + 1 + 1 ≤ b) fun b hb hQ => ⟨hft.block b hb (fun hs => by have hQ : w.heap.size + 1 + 1 + 1 + 1 ≤ b := hQ; rcases hs with hs | hs <;> omega), by have hQ : w.heap.size + 1 + 1 + 1 + 1 ≤ b := hQ; omega⟩)
             have HRC := Lib.hid (show CtxQ (fun b => w.heap.size + 1 + 1 + 1 ≤ b) _ (.slice a7 c1.length c7) c1 from RdQ.turn hrc fun b hb hQ => ⟨hft.block b hb (fun hs => by have hQ := Nat.lt_of_lt_of_le hsz1 hQ; rcases hs with hs | hs <;> omega), Nat.le_of_lt (Nat.lt_of_lt_of_le hsz1 hQ)⟩)
             clear hft hrc hr2 hf2 hsz1
             generalize es1.length = n at *
             generalize ks1.len = m at *
             generalize c1.length = k at *)
          | (go_at_call 119; go_loud (refine (rbad_any _).mono ?_); rintro e w9 ⟨rfl, hf9⟩
             clear y0 y1 y2 y3 y4 y5 y6 y7 z8 z9 q0 q1
             obtain ⟨g1, g2, hfw⟩ := HRS.out w9 ((HS2.out.call hf9).frm)
             have x0 := cell_at' g1 0 rfl
             have x1 := cell_at' g1 1 rfl
             have x2 := cell_at' g1 2 rfl
             have f0 := free_at' g1 0
             have f1 := free_at' g1 1
             have f2 := free_at' g1 2
             have hl1 := lt_of_block g1
             have x3 := cell_at' g2 0 rfl
             have x4 := cell_at' g2 1 rfl
             have f3 := free_at' g2 0
             have f4 := free_at' g2 1
             have hl2 := lt_of_block g2
             have G1 := Lib.hid g1; clear g1
             have G2 := Lib.hid g2; clear g2
             have HF9 := Lib.hid hfw
             clear hf9 hfw))
      clear x0 x1 x2 x3 x4 f0 f1 f2 f3 f4 hl1 hl2
      obtain ⟨y0, y1, y2, y3, y4⟩ := stores5_at (x0 := .slice none 0 0) (x1 := .slice none 0 0) (x2 := .slice none 0 0) (y0 := .slice none 0 0) (y1 := .bool true) G1.out G2.out _ rfl
      exact bodyPost_ret (v := .tuple #[.agg #[.slice none 0 0, .slice none 0 0, .slice none 0 0], .agg #[.slice none 0 0, .bool true]]) (by simp [results, Tryz.results64, go_sem, y0, y1, y2, y3, y4]) rfl (caFin (a := none) (l := 0) (s := none) (c := []) (tree_nilQ _ _) (rdq_nil _ _) (RIn.bad w0 _) HH0.out HF9.out (stores5 w w9 _ _ _ _ _))
theorem r16ToCausal_at {w0 : World} {v : Value} {st s : Option (List UInt8)} {es : List Ent} {ks : KidsL} {c : CtxL} (w : World) (h : RIn w0 w v st) (h0 : w0.heap.size ≤ w.heap.size) (hc : CauRes st es ks c s) (hl : (leftOf st).length ≤ 6000) :
    Calls Tryz.prog 64 #[.agg #[v, .bool st.isNone]] w (ToCauPost w0 w es ks c s) := r16ToCausal_fit w h h0 hc (by omega) (.small hl)
end Go.Proofs.YtggfoihfenlckaaGreat
/- op: Kind, of; tributaryref15: Kind, act: the walks. Printed by wip/opgen.py. -/
namespace Go.Proofs.YtggfoihfenlckaaGreat
open Go.RowKit
/-- A key's kind by its first byte. -/
def kindB (x : Int) : Int := if x = 102 then 1 else if x = 115 then 2 else if x = 99 then 3 else if x = 114 then 4 else if x = 109 then 5 else 0
def kindOf (s : ByteArray) : Int := if h : 0 < s.size then kindB (s[0].toNat : Int) else 0
theorem kindOf_pos {s : ByteArray} (h : 0 < s.size) : kindOf s = kindB (s[0].toNat : Int) := dif_pos h
theorem str_nil {s : ByteArray} (h : ¬ 0 < s.size) : s = ByteArray.empty := ByteArray.ext (Array.eq_empty_of_size_eq_zero (by have : s.data.size = s.size := rfl; omega))
theorem str_full {s : ByteArray} (h : 0 < s.size) : s.toList.isEmpty = false := by
  rw [ByteArray.toList_eq]
  cases hl : s.data.toList with
  | nil =>
    have : s.data.toList.length = s.size := Array.length_toList
    rw [hl] at this
    simp at this
    omega
  | cons _ _ => rfl
def ofA (a : Int) : Int := if a = 1 ∨ a = 2 then 1 else if a = 3 ∨ a = 4 then 2 else if a = 5 then 3 else if a = 6 then 4 else if a = 7 then 0 else -1
set_option maxHeartbeats 2000000 in
set_option maxRecDepth 1000000 in
theorem opKind_any (s : ByteArray) (w : World) : Calls Tryz.prog 172 #[.string s] w fun e w' => e = .returned (.int .i64 (kindOf s)) ∧ Frm NoS w w' := by
  by_cases hp : 0 < s.size
  · have hem := str_full hp
    rw [kindOf_pos hp]
    go_enter Tryz.func172, Tryz.ntmps172
    go_wp2
    all_goals
      go_ret
      exact ⟨by unfold kindB; simp_all, Frm.refl _ _⟩
  · obtain rfl := str_nil hp
    go_enter Tryz.func172, Tryz.ntmps172
    go_wp2
    go_ret
    exact ⟨rfl, Frm.refl _ _⟩
set_option maxRecDepth 1000000 in
theorem opOf_any (a : Int) (w : World) : Calls Tryz.prog 171 #[.int .i64 a] w fun e w' => e = .returned (.int .i64 (ofA a)) ∧ Frm NoS w w' := by
  go_enter Tryz.func171, Tryz.ntmps171
  go_wp2
  all_goals
    go_ret
    exact ⟨by unfold ofA; simp_all, Frm.refl _ _⟩
def actB (a k : Int) : Bool := if a = 1 ∨ a = 2 then k == 1 else if a = 3 ∨ a = 4 then k == 2 else if a = 5 then k == 3 else if a = 6 then k == 4 else a == 7
set_option maxRecDepth 1000000 in
theorem r15act_any (a k : Int) (w : World) : Calls Tryz.prog 73 #[.int .i64 a, .int .i64 k] w fun e w' => e = .returned (.bool (actB a k)) ∧ Frm NoS w w' := by
  go_enter Tryz.func73, Tryz.ntmps73
  go_wp2
  all_goals
    go_ret
    exact ⟨by unfold actB; simp_all, Frm.refl _ _⟩
set_option maxHeartbeats 4000000 in
set_option maxRecDepth 1000000 in
theorem r15Kind_any (s : ByteArray) (w : World) : Calls Tryz.prog 74 #[.string s] w fun e w' => e = .returned (.int .i64 (kindOf s)) ∧ Frm NoS w w' := by
  by_cases hp : 0 < s.size
  · rw [kindOf_pos hp]
    obtain ⟨x, hx⟩ : ∃ x : Int, (s[0].toNat : Int) = x := ⟨_, rfl⟩
    rw [hx]
    have HX := Lib.hid hx; clear hx
    go_enter Tryz.func74, Tryz.ntmps74
    go_wp2
    go_loopw [7] (fun i W => ∃ k : Nat, k ≤ 5 ∧ i = .int .i64 k ∧ (0 < k → x ≠ 102) ∧ (1 < k → x ≠ 115) ∧ (2 < k → x ≠ 99) ∧ (3 < k → x ≠ 114) ∧ (4 < k → x ≠ 109) ∧ Frm NoS w W) (fun i _ => 5 - (intOf i).toNat)
    case atStart => exact ⟨0, by omega, rfl, by omega, by omega, by omega, by omega, by omega, Frm.refl _ _⟩
    case round =>
      obtain ⟨k, hk, rfl, h0, h1, h2, h3, h4, hw⟩ := hrel
      have HW := Lib.hid hw; clear hw
      rcases (by omega : k = 0 ∨ k = 1 ∨ k = 2 ∨ k = 3 ∨ k = 4 ∨ k = 5) with rfl | rfl | rfl | rfl | rfl | rfl
      · go_wp2_with fail
        go_big_quiet (fail)
        go_wp2
        · rename_i hbeq
          have hx : x = 102 := by rw [← HX.out]; exact eq_of_beq hbeq
          go_ret
          exact ⟨by rw [hx]; rfl, HW.out.drewN1⟩
        · rename_i hbeq
          have hx : x ≠ 102 := fun e => by rw [← HX.out] at e; exact absurd e (ne_of_beq_false hbeq)
          clear hbeq
          go_roundw
          case rel => exact ⟨1, by omega, by go_num, fun _ => hx, fun h => by omega, fun h => by omega, fun h => by omega, fun h => by omega, HW.out.drewN1⟩
          case measure => simp [intOf]
      · go_wp2_with fail
        go_big_quiet (fail)
        go_wp2
        · rename_i hbeq
          have hx : x = 115 := by rw [← HX.out]; exact eq_of_beq hbeq
          go_ret
          exact ⟨by rw [hx]; rfl, HW.out.drewN1⟩
        · rename_i hbeq
          have hx : x ≠ 115 := fun e => by rw [← HX.out] at e; exact absurd e (ne_of_beq_false hbeq)
          clear hbeq
          go_roundw
          case rel => exact ⟨2, by omega, by go_num, fun h => h0 (by omega), fun _ => hx, fun h => by omega, fun h => by omega, fun h => by omega, HW.out.drewN1⟩
          case measure => simp [intOf]
      · go_wp2_with fail
        go_big_quiet (fail)
        go_wp2
        · rename_i hbeq
          have hx : x = 99 := by rw [← HX.out]; exact eq_of_beq hbeq
          go_ret
          exact ⟨by rw [hx]; rfl, HW.out.drewN1⟩
        · rename_i hbeq
          have hx : x ≠ 99 := fun e => by rw [← HX.out] at e; exact absurd e (ne_of_beq_false hbeq)
          clear hbeq
          go_roundw
          case rel => exact ⟨3, by omega, by go_num, fun h => h0 (by omega), fun h => h1 (by omega), fun _ => hx, fun h => by omega, fun h => by omega, HW.out.drewN1⟩
          case measure => simp [intOf]
      · go_wp2_with fail
        go_big_quiet (fail)
        go_wp2
        · rename_i hbeq
          have hx : x = 114 := by rw [← HX.out]; exact eq_of_beq hbeq
          go_ret
          exact ⟨by rw [hx]; rfl, HW.out.drewN1⟩
        · rename_i hbeq
          have hx : x ≠ 114 := fun e => by rw [← HX.out] at e; exact absurd e (ne_of_beq_false hbeq)
          clear hbeq
          go_roundw
          case rel => exact ⟨4, by omega, by go_num, fun h => h0 (by omega), fun h => h1 (by omega), fun h => h2 (by omega), fun _ => hx, fun h => by omega, HW.out.drewN1⟩
          case measure => simp [intOf]
      · go_wp2_with fail
        go_big_quiet (fail)
        go_wp2
        · rename_i hbeq
          have hx : x = 109 := by rw [← HX.out]; exact eq_of_beq hbeq
          go_ret
          exact ⟨by rw [hx]; rfl, HW.out.drewN1⟩
        · rename_i hbeq
          have hx : x ≠ 109 := fun e => by rw [← HX.out] at e; exact absurd e (ne_of_beq_false hbeq)
          clear hbeq
          go_roundw
          case rel => exact ⟨5, by omega, by go_num, fun h => h0 (by omega), fun h => h1 (by omega), fun h => h2 (by omega), fun h => h3 (by omega), fun _ => hx, HW.out.drewN1⟩
          case measure => simp [intOf]
      · go_wp2
        go_ret
        exact ⟨by unfold kindB; simp [h0, h1, h2, h3, h4], HW.out⟩
  · obtain rfl := str_nil hp
    clear hp
    go_enter Tryz.func74, Tryz.ntmps74
    go_wp2
    go_loopw [7] (fun i W => ∃ k : Nat, k ≤ 5 ∧ i = .int .i64 k ∧ Frm NoS w W) (fun i _ => 5 - (intOf i).toNat)
    case atStart => exact ⟨0, by omega, rfl, Frm.refl _ _⟩
    case round =>
      obtain ⟨k, hk, rfl, hw⟩ := hrel
      have HW := Lib.hid hw; clear hw
      by_cases hlt : k < 5
      · go_wp2_with fail
        go_big_quiet (fail)
        go_wp2
        go_roundw
        case rel => exact ⟨k + 1, by omega, by go_num, HW.out.drewN1⟩
        case measure => simp [intOf]; omega
      · obtain rfl : k = 5 := by omega
        go_wp2
        go_ret
        exact ⟨rfl, HW.out⟩
end Go.Proofs.YtggfoihfenlckaaGreat
/- Paths: slices.ContainsFunc over strings, op.checkPath; tributaryref15.Path: the walks. Printed by wip/opgen2.py. -/
namespace Go.Proofs.YtggfoihfenlckaaGreat
open Go.RowKit
/-- Strings that lie one behind the other. -/
def StrsAt (w : World) (v : Value) (ss : List ByteArray) : Prop := Rd w v ss.length (ss.map Value.string)
theorem StrsAt.keep0 {w w' : World} {v : Value} {ss : List ByteArray} (h : StrsAt w v ss) (f : Frm NoS w w') : StrsAt w' v ss := Rd.keep0 h f
theorem StrsAt.sl {w : World} {v : Value} {ss : List ByteArray} (h : StrsAt w v ss) : ∃ a c, v = .slice a ss.length c := Rd.sl h
theorem str_at {w : World} {b off c n : Nat} {ss : List ByteArray} (h : Rd w (.slice (some ⟨b, off, none⟩) n c) n (ss.map Value.string)) (k : Nat) (hk : k < ss.length) : w.cell? ⟨b, off + k, none⟩ = some (.string (ss.getD k ByteArray.empty)) := by
  rcases h with ⟨ad, h1, h2, h3⟩ | ⟨b', off', c', h1, h2, h3, h4⟩
  · have : ss = [] := by simpa using h3
    subst this
    cases hk
  · injection h1 with e1 e2 e3
    injection e1 with e1
    injection e1 with e1 e4
    subst e1 e4
    refine h4 k _ ?_
    simp [List.getD_eq_getElem?_getD, hk]
theorem Rd.cap {w : World} {b off c n : Nat} {xs : List Value} (h : Rd w (.slice (some ⟨b, off, none⟩) n c) n xs) : n ≤ c := by
  rcases h with ⟨ad, h1, h2, h3⟩ | ⟨b', off', c', h1, h2, h3, h4⟩
  · injection h1 with e1 e2 e3
    omega
  · injection h1 with e1 e2 e3
    omega
def p1 (s : ByteArray) : Bool := decide (30 < s.size) || (kindOf s == 0)
def p2 (s : ByteArray) : Bool := !(kindOf s == 5)
theorem any_take {p : ByteArray → Bool} {ss : List ByteArray} {k : Nat} (hk : k < ss.length) : (ss.take (k + 1)).any p = ((ss.take k).any p || p (ss.getD k ByteArray.empty)) := by
  rw [take_succ ByteArray.empty hk, List.any_append]
  simp
theorem any_here {p : ByteArray → Bool} {ss : List ByteArray} {k : Nat} (hk : k < ss.length) (h : p (ss.getD k ByteArray.empty) = true) : ss.any p = true :=
  List.any_eq_true.2 ⟨_, getD_mem ByteArray.empty hk, h⟩
set_option maxRecDepth 1000000 in
theorem opPath1_any (s : ByteArray) (w : World) : Calls Tryz.prog 193 #[.string s] w fun e w' => e = .returned (.bool (p1 s)) ∧ Frm NoS w w' := by
  have HK := Lib.hid (opKind_any s w)
  unfold p1
  by_cases hs : 30 < s.size
  · have h2 : ¬ (s.size : Int) ≤ 30 := by omega
    rw [show decide (30 < s.size) = true from decide_eq_true hs]
    go_enter Tryz.func193, Tryz.ntmps193
    go_wp2
    go_ret
    exact ⟨rfl, Frm.refl _ _⟩
  · have h2 : (s.size : Int) ≤ 30 := by omega
    rw [show decide (30 < s.size) = false from decide_eq_false hs]
    generalize kindOf s = k at *
    go_enter Tryz.func193, Tryz.ntmps193
    go_wp2_with (go_at_call 172; go_loud (refine HK.out.mono ?_); rintro e w1 ⟨rfl, hw1⟩; have HW1 := Lib.hid hw1; clear hw1)
    go_ret
    exact ⟨by simp; intro h; omega, HW1.out⟩
set_option maxRecDepth 1000000 in
theorem opPath2_any (s : ByteArray) (w : World) : Calls Tryz.prog 194 #[.string s] w fun e w' => e = .returned (.bool (p2 s)) ∧ Frm NoS w w' := by
  have HK := Lib.hid (opKind_any s w)
  unfold p2
  generalize kindOf s = k at *
  go_enter Tryz.func194, Tryz.ntmps194
  go_wp2_with (go_at_call 172; go_loud (refine HK.out.mono ?_); rintro e w1 ⟨rfl, hw1⟩; have HW1 := Lib.hid hw1; clear hw1)
  go_ret
  exact ⟨by first | rfl | simp [bne], HW1.out⟩
structure IdxPost (b : Bool) (w : World) (e : Ending) (w' : World) : Prop where
  frm : Frm NoS w w'
  yes : b = true → ∃ k : Nat, e = .returned (.int .i64 k)
  no : b = false → e = .returned (.int .i64 (-1))
set_option maxHeartbeats 2000000 in
set_option maxRecDepth 1000000 in
theorem strIdx1_any (ss : List ByteArray) (w : World) (v : Value) (h : StrsAt w v ss) (hl : ss.length ≤ 100000) :
    Calls Tryz.prog 205 #[v, .func (.func 193) #[] #[]] w (IdxPost (ss.any p1) w) := by
  have eg : ∀ args w, (callFunc 193 args).run Tryz.prog w = .ok (.enter 193 args) w := enters_of Tryz.func193 (by kernel_rfl) rfl
  have HP := Lib.hid opPath1_any
  rcases Rd.shape h with ⟨ad, rfl, h0⟩ | ⟨b, off, c, rfl, hmax⟩
  · have HANY := Lib.hid (show ss.any p1 = false by rw [List.eq_nil_of_length_eq_zero h0]; rfl)
    clear h h0
    go_enter Tryz.func205, Tryz.ntmps205
    go_wp2
    go_loop [8] (fun i => i = .int .i64 0) (fun _ => 0)
    case atStart => rfl
    case round =>
      obtain rfl := hrel
      go_wp2
      go_ret
      exact ⟨Frm.refl _ _, fun h => (by rw [HANY.out] at h; cases h), fun _ => rfl⟩
  · have HH := Lib.hid h; clear h
    generalize hn : ss.length = n at *
    have HN := Lib.hid hn; clear hn
    go_enter Tryz.func205, Tryz.ntmps205
    go_wp2
    go_loopw [8] (fun i W => ∃ k : Nat, k ≤ n ∧ i = .int .i64 k ∧ (ss.take k).any p1 = false ∧ Frm NoS w W) (fun i _ => n - (intOf i).toNat)
    case atStart => exact ⟨0, Nat.zero_le _, rfl, by simp, Frm.refl _ _⟩
    case round =>
      obtain ⟨k, hk, rfl, ha, hw⟩ := hrel
      have HAN := Lib.hid ha; clear ha
      have HW := Lib.hid hw; clear hw
      by_cases hlt : k < n
      · have hlk : k < ss.length := by rw [HN.out]; exact hlt
        have hrd : Rd w (.slice (some ⟨b, off, none⟩) n c) n (ss.map Value.string) := by have h := HH.out; unfold StrsAt at h; rw [HN.out] at h; exact h
        have q0 := HW.out.cell' (str_at hrd k hlk) id
        clear hrd
        have HT := Lib.hid (any_take (p := p1) hlk)
        have HE := Lib.hid (any_here (p := p1) hlk)
        generalize ss.getD k ByteArray.empty = s at *
        cases hp : p1 s with
        | true =>
          have HC := Lib.hid (fun W => hp ▸ HP.out s W)
          have HEX := Lib.hid (HE.out hp)
          clear hp HE HT
          go_wp2_with (go_at_call 193; go_loud (refine (HC.out _).mono ?_); rintro e w1 ⟨rfl, hw1⟩; have HW1 := Lib.hid (HW.out.then1 hw1); clear hw1)
          go_ret
          exact ⟨HW1.out, fun _ => ⟨k, rfl⟩, fun h => (by rw [HEX.out] at h; cases h)⟩
        | false =>
          have HC := Lib.hid (fun W => hp ▸ HP.out s W)
          have HTX := Lib.hid (show (ss.take (k + 1)).any p1 = false by rw [HT.out, HAN.out, hp]; rfl)
          clear hp HE HT
          go_wp2_with (go_at_call 193; go_loud (refine (HC.out _).mono ?_); rintro e w1 ⟨rfl, hw1⟩; have HW1 := Lib.hid (HW.out.then1 hw1); clear hw1)
          go_roundw
          case rel => exact ⟨k + 1, by omega, by go_num, HTX.out, HW1.out⟩
          case measure => simp [intOf]; omega
      · obtain rfl : n = k := by omega
        have hall : ss.any p1 = false := by
          have := HAN.out
          rwa [List.take_of_length_le (by rw [HN.out]; exact Nat.le_refl _)] at this
        have HALL := Lib.hid hall; clear hall
        go_wp2
        go_ret
        exact ⟨HW.out, fun h => (by rw [HALL.out] at h; cases h), fun _ => rfl⟩
set_option maxRecDepth 1000000 in
theorem strHas1_any (ss : List ByteArray) (w : World) (v : Value) (h : StrsAt w v ss) (hl : ss.length ≤ 100000) :
    Calls Tryz.prog 192 #[v, .func (.func 193) #[] #[]] w fun e w' => e = .returned (.bool (ss.any p1)) ∧ Frm NoS w w' := by
  have HI := Lib.hid (strIdx1_any ss w v h hl)
  obtain ⟨a, c, rfl⟩ := h.sl
  clear h
  generalize ss.length = n at *
  cases ha : ss.any p1 with
  | true =>
    have HA := Lib.hid ha; clear ha
    go_enter Tryz.func192, Tryz.ntmps192
    go_wp2_with (go_at_call 205; go_loud (refine HI.out.mono ?_); rintro e w1 ⟨hw1, hy, -⟩; obtain ⟨k, he⟩ := hy HA.out; subst he; have HW1 := Lib.hid hw1; clear hw1 hy)
    go_ret
    exact ⟨by first | rfl | (simp; omega), HW1.out⟩
  | false =>
    have HA := Lib.hid ha; clear ha
    go_enter Tryz.func192, Tryz.ntmps192
    go_wp2_with (go_at_call 205; go_loud (refine HI.out.mono ?_); rintro e w1 ⟨hw1, -, hy⟩; have he := hy HA.out; subst he; have HW1 := Lib.hid hw1; clear hw1 hy)
    go_ret
    exact ⟨by first | rfl | (simp; omega), HW1.out⟩
set_option maxHeartbeats 2000000 in
set_option maxRecDepth 1000000 in
theorem strIdx2_any (ss : List ByteArray) (w : World) (v : Value) (h : StrsAt w v ss) (hl : ss.length ≤ 100000) :
    Calls Tryz.prog 205 #[v, .func (.func 194) #[] #[]] w (IdxPost (ss.any p2) w) := by
  have eg : ∀ args w, (callFunc 194 args).run Tryz.prog w = .ok (.enter 194 args) w := enters_of Tryz.func194 (by kernel_rfl) rfl
  have HP := Lib.hid opPath2_any
  rcases Rd.shape h with ⟨ad, rfl, h0⟩ | ⟨b, off, c, rfl, hmax⟩
  · have HANY := Lib.hid (show ss.any p2 = false by rw [List.eq_nil_of_length_eq_zero h0]; rfl)
    clear h h0
    go_enter Tryz.func205, Tryz.ntmps205
    go_wp2
    go_loop [8] (fun i => i = .int .i64 0) (fun _ => 0)
    case atStart => rfl
    case round =>
      obtain rfl := hrel
      go_wp2
      go_ret
      exact ⟨Frm.refl _ _, fun h => (by rw [HANY.out] at h; cases h), fun _ => rfl⟩
  · have HH := Lib.hid h; clear h
    generalize hn : ss.length = n at *
    have HN := Lib.hid hn; clear hn
    go_enter Tryz.func205, Tryz.ntmps205
    go_wp2
    go_loopw [8] (fun i W => ∃ k : Nat, k ≤ n ∧ i = .int .i64 k ∧ (ss.take k).any p2 = false ∧ Frm NoS w W) (fun i _ => n - (intOf i).toNat)
    case atStart => exact ⟨0, Nat.zero_le _, rfl, by simp, Frm.refl _ _⟩
    case round =>
      obtain ⟨k, hk, rfl, ha, hw⟩ := hrel
      have HAN := Lib.hid ha; clear ha
      have HW := Lib.hid hw; clear hw
      by_cases hlt : k < n
      · have hlk : k < ss.length := by rw [HN.out]; exact hlt
        have hrd : Rd w (.slice (some ⟨b, off, none⟩) n c) n (ss.map Value.string) := by have h := HH.out; unfold StrsAt at h; rw [HN.out] at h; exact h
        have q0 := HW.out.cell' (str_at hrd k hlk) id
        clear hrd
        have HT := Lib.hid (any_take (p := p2) hlk)
        have HE := Lib.hid (any_here (p := p2) hlk)
        generalize ss.getD k ByteArray.empty = s at *
        cases hp : p2 s with
        | true =>
          have HC := Lib.hid (fun W => hp ▸ HP.out s W)
          have HEX := Lib.hid (HE.out hp)
          clear hp HE HT
          go_wp2_with (go_at_call 194; go_loud (refine (HC.out _).mono ?_); rintro e w1 ⟨rfl, hw1⟩; have HW1 := Lib.hid (HW.out.then1 hw1); clear hw1)
          go_ret
          exact ⟨HW1.out, fun _ => ⟨k, rfl⟩, fun h => (by rw [HEX.out] at h; cases h)⟩
        | false =>
          have HC := Lib.hid (fun W => hp ▸ HP.out s W)
          have HTX := Lib.hid (show (ss.take (k + 1)).any p2 = false by rw [HT.out, HAN.out, hp]; rfl)
          clear hp HE HT
          go_wp2_with (go_at_call 194; go_loud (refine (HC.out _).mono ?_); rintro e w1 ⟨rfl, hw1⟩; have HW1 := Lib.hid (HW.out.then1 hw1); clear hw1)
          go_roundw
          case rel => exact ⟨k + 1, by omega, by go_num, HTX.out, HW1.out⟩
          case measure => simp [intOf]; omega
      · obtain rfl : n = k := by omega
        have hall : ss.any p2 = false := by
          have := HAN.out
          rwa [List.take_of_length_le (by rw [HN.out]; exact Nat.le_refl _)] at this
        have HALL := Lib.hid hall; clear hall
        go_wp2
        go_ret
        exact ⟨HW.out, fun h => (by rw [HALL.out] at h; cases h), fun _ => rfl⟩
set_option maxRecDepth 1000000 in
theorem strHas2_any (ss : List ByteArray) (w : World) (v : Value) (h : StrsAt w v ss) (hl : ss.length ≤ 100000) :
    Calls Tryz.prog 192 #[v, .func (.func 194) #[] #[]] w fun e w' => e = .returned (.bool (ss.any p2)) ∧ Frm NoS w w' := by
  have HI := Lib.hid (strIdx2_any ss w v h hl)
  obtain ⟨a, c, rfl⟩ := h.sl
  clear h
  generalize ss.length = n at *
  cases ha : ss.any p2 with
  | true =>
    have HA := Lib.hid ha; clear ha
    go_enter Tryz.func192, Tryz.ntmps192
    go_wp2_with (go_at_call 205; go_loud (refine HI.out.mono ?_); rintro e w1 ⟨hw1, hy, -⟩; obtain ⟨k, he⟩ := hy HA.out; subst he; have HW1 := Lib.hid hw1; clear hw1 hy)
    go_ret
    exact ⟨by first | rfl | (simp; omega), HW1.out⟩
  | false =>
    have HA := Lib.hid ha; clear ha
    go_enter Tryz.func192, Tryz.ntmps192
    go_wp2_with (go_at_call 205; go_loud (refine HI.out.mono ?_); rintro e w1 ⟨hw1, -, hy⟩; have he := hy HA.out; subst he; have HW1 := Lib.hid hw1; clear hw1 hy)
    go_ret
    exact ⟨by first | rfl | (simp; omega), HW1.out⟩
/-- Why a path can't be; 0: it can. -/
def pathE (ss : List ByteArray) : Int := if ss.length < 1 ∨ 3 < ss.length ∨ ss.any p1 = true then 1 else if (ss.take (ss.length - 1)).any p2 = true then 6 else 0
theorem StrsAt.cut {w : World} {b off c n : Nat} {ss : List ByteArray} (h : Rd w (.slice (some ⟨b, off, none⟩) n c) n (ss.map Value.string)) (hn : n = ss.length) (m : Nat) (hm : m ≤ n) : StrsAt w (.slice (some ⟨b, off, none⟩) m c) (ss.take m) := by
  rcases h with ⟨ad, h1, h2, h3⟩ | ⟨b', off', c', h1, h2, h3, h4⟩
  · have : ss = [] := by simpa using h3
    subst this
    have hm0 : m = 0 := by simp at hn; omega
    subst hm0
    injection h1 with e1 e2 e3
    subst e1 e3
    exact .inl ⟨_, rfl, rfl, rfl⟩
  · injection h1 with e1 e2 e3
    injection e1 with e1
    injection e1 with e1 e4
    subst e1 e4 e3
    have hl : (ss.take m).length = m := by rw [List.length_take]; omega
    unfold StrsAt
    rw [hl]
    refine .inr ⟨b, off, c, rfl, by omega, h3, fun j u hu => h4 j u ?_⟩
    rw [List.map_take, List.getElem?_take] at hu
    split at hu
    · exact hu
    · cases hu
theorem pathE_len {ss : List ByteArray} (h : ss.length < 1 ∨ 3 < ss.length) : pathE ss = 1 := by unfold pathE; rw [if_pos (by rcases h with h | h; exact .inl h; exact .inr (.inl h))]
theorem pathE_any {ss : List ByteArray} (h : ss.any p1 = true) : pathE ss = 1 := by unfold pathE; rw [if_pos (.inr (.inr h))]
theorem pathE_not {ss : List ByteArray} (h1 : ¬ (ss.length < 1 ∨ 3 < ss.length)) (h2 : ss.any p1 = false) : pathE ss = if (ss.take (ss.length - 1)).any p2 = true then 6 else 0 := by
  unfold pathE
  rw [if_neg fun h => ?_]
  rcases h with h | h | h
  · exact h1 (.inl h)
  · exact h1 (.inr h)
  · rw [h2] at h; cases h
theorem pathE_six {ss : List ByteArray} (h1 : ¬ (ss.length < 1 ∨ 3 < ss.length)) (h2 : ss.any p1 = false) (h3 : (ss.take (ss.length - 1)).any p2 = true) : pathE ss = 6 := by rw [pathE_not h1 h2, if_pos h3]
theorem pathE_ok {ss : List ByteArray} (h1 : ¬ (ss.length < 1 ∨ 3 < ss.length)) (h2 : ss.any p1 = false) (h3 : (ss.take (ss.length - 1)).any p2 = false) : pathE ss = 0 := by rw [pathE_not h1 h2, if_neg (by rw [h3]; exact Bool.false_ne_true)]
set_option maxHeartbeats 2000000 in
set_option maxRecDepth 1000000 in
theorem opPath_any (ss : List ByteArray) (w : World) (v : Value) (h : StrsAt w v ss) (hl : ss.length ≤ 100000) :
    Calls Tryz.prog 170 #[v] w fun e w' => e = .returned (.int .i64 (pathE ss)) ∧ Frm NoS w w' := by
  by_cases h1 : ss.length < 1 ∨ 3 < ss.length
  · rw [pathE_len h1]
    obtain ⟨a, c, rfl⟩ := h.sl
    clear h
    generalize ss.length = n at *
    rcases h1 with h1 | h1
    · obtain rfl : n = 0 := by omega
      go_enter Tryz.func170, Tryz.ntmps170
      go_wp2
      go_ret
      exact ⟨rfl, Frm.refl _ _⟩
    · have h2 : ¬ (n : Int) ≤ 3 := by omega
      go_enter Tryz.func170, Tryz.ntmps170
      go_wp2
      go_ret
      exact ⟨rfl, Frm.refl _ _⟩
  · have HH1 := Lib.hid (strHas1_any ss w v h hl)
    rcases Rd.shape h with ⟨ad, rfl, h0⟩ | ⟨b, off, c, rfl, hmax⟩
    · omega
    have HC := Lib.hid (fun W (f : Frm NoS w W) => StrsAt.cut (Rd.keep0 h f) rfl (ss.length - 1) (by omega))
    have HH2 := Lib.hid (fun W (f : Frm NoS w W) => strHas2_any (ss.take (ss.length - 1)) W _ (HC.out W f) (by rw [List.length_take]; omega))
    have hn1 : 1 ≤ ss.length := by omega
    have hnc : ss.length - 1 ≤ c := by have := Rd.cap h; omega
    have hn3 : ss.length ≤ 3 := by omega
    have hw1 : IntKind.i64.wrap ((ss.length : Int) - 1) = ((ss.length - 1 : Nat) : Int) := by rw [IntKind.wrap_i64]; omega
    have hw2 : ((ss.length : Int) - 1) = ((ss.length - 1 : Nat) : Int) := by omega
    generalize hq1 : ss.any p1 = q1 at *
    generalize hq2 : (ss.take (ss.length - 1)).any p2 = q2 at *
    cases q1 with
    | true =>
      rw [pathE_any hq1]
      clear h HC HH2 hq1 hq2 h1 hw1 hw2 hnc
      generalize ss.length = n at *
      go_enter Tryz.func170, Tryz.ntmps170
      go_wp2_with (go_at_call 192; go_loud (refine HH1.out.mono ?_); rintro e w1 ⟨rfl, hw1⟩; have HW1 := Lib.hid hw1; clear hw1)
      go_ret
      exact ⟨rfl, HW1.out⟩
    | false =>
      cases q2 with
      | true =>
        rw [pathE_six h1 hq1 hq2]
        clear h HC hq1 hq2 h1
        generalize ss.length - 1 = m at *
        generalize ss.length = n at *
        go_enter Tryz.func170, Tryz.ntmps170
        go_wp2_with (go_at_call 192; first | (have HH1 := HW1; go_loud (refine (HH2.out _ HW1.out).mono ?_); rintro e w2 ⟨rfl, hw9⟩; have HW2 := Lib.hid (HW1.out.then1 hw9); clear hw9) | (refine HH1.out.mono ?_; rintro e w1 ⟨rfl, hw9⟩; have HW1 := Lib.hid hw9; clear hw9))
        go_ret
        exact ⟨rfl, HW2.out⟩
      | false =>
        rw [pathE_ok h1 hq1 hq2]
        clear h HC hq1 hq2 h1
        generalize ss.length - 1 = m at *
        generalize ss.length = n at *
        go_enter Tryz.func170, Tryz.ntmps170
        go_wp2_with (go_at_call 192; first | (have HH1 := HW1; go_loud (refine (HH2.out _ HW1.out).mono ?_); rintro e w2 ⟨rfl, hw9⟩; have HW2 := Lib.hid (HW1.out.then1 hw9); clear hw9) | (refine HH1.out.mono ?_; rintro e w1 ⟨rfl, hw9⟩; have HW1 := Lib.hid hw9; clear hw9))
        go_ret
        exact ⟨rfl, HW2.out⟩
end Go.Proofs.YtggfoihfenlckaaGreat
/- Bundles: an argument's block; plain words. Printed by wip/bungen.py. -/
namespace Go.Proofs.YtggfoihfenlckaaGreat
open Go.RowKit
end Go.Proofs.YtggfoihfenlckaaGreat