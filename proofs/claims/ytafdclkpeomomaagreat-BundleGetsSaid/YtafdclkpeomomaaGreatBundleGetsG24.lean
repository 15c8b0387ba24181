/- Words for the law BundleGets: BunGet, R16d, R16e, R16f, SmallT, R8c, R16g. -/
import Derived.Test.YtafdclkpeomomaaGreatBundleGetsG1
import Derived.Test.YtafdclkpeomomaaGreatBundleGetsG5
import Derived.Test.YtafdclkpeomomaaGreatBundleGetsG7
import Derived.Test.YtafdclkpeomomaaGreatBundleGetsG11
import Derived.Test.YtafdclkpeomomaaGreatBundleGetsG15
import Derived.Test.YtafdclkpeomomaaGreatBundleGetsG16
import Derived.Test.YtafdclkpeomomaaGreatBundleGetsG17
import Derived.Test.YtafdclkpeomomaaGreatBundleGetsG18
import Derived.Test.YtafdclkpeomomaaGreatBundleGetsG21
import Derived.Test.YtafdclkpeomomaaGreatBundleGetsG22
import Derived.Test.YtafdclkpeomomaaGreatBundleGetsG23
set_option linter.unusedSimpArgs false
set_option linter.unusedVariables false
/- bundle: Get: the walk. Printed by wip/bungetgen.py. -/
namespace Go.Proofs.YtafdclkpeomomaaGreat
open Go.RowKit

theorem ten_set (w : World) (b : Nat) (x0 x1 x2 x3 x4 x5 x6 x7 x8 x9 : Value) : Frm (Only b) w (((((((((((w).setCell ⟨b, 0, none⟩ (x0)).setCell ⟨b, 1, none⟩ (x1)).setCell ⟨b, 2, none⟩ (x2)).setCell ⟨b, 3, none⟩ (x3)).setCell ⟨b, 4, none⟩ (x4)).setCell ⟨b, 5, none⟩ (x5)).setCell ⟨b, 6, none⟩ (x6)).setCell ⟨b, 7, none⟩ (x7)).setCell ⟨b, 8, none⟩ (x8)).setCell ⟨b, 9, none⟩ (x9)) :=
  (((four_set w b x0 x1 x2 x3).trans ((((only_set _ b 4 x4).trans (only_set _ b 5 x5) fun _ _ h => h).trans (only_set _ b 6 x6) fun _ _ h => h).trans (only_set _ b 7 x7) fun _ _ h => h) fun _ _ h => h).trans (only_set _ b 8 x8) fun _ _ h => h).trans (only_set _ b 9 x9) fun _ _ h => h
theorem ten_cells {w : World} {b : Nat} {a0 a1 a2 a3 a4 a5 a6 a7 a8 a9 : Value} {T : TypeId} (h : w.heap[b]? = some (.cells #[a0, a1, a2, a3, a4, a5, a6, a7, a8, a9] T (0, 0))) (x0 x1 x2 x3 x4 x5 x6 x7 x8 x9 : Value) (W : World) (hW : W = ((((((((((w).setCell ⟨b, 0, none⟩ (x0)).setCell ⟨b, 1, none⟩ (x1)).setCell ⟨b, 2, none⟩ (x2)).setCell ⟨b, 3, none⟩ (x3)).setCell ⟨b, 4, none⟩ (x4)).setCell ⟨b, 5, none⟩ (x5)).setCell ⟨b, 6, none⟩ (x6)).setCell ⟨b, 7, none⟩ (x7)).setCell ⟨b, 8, none⟩ (x8)).setCell ⟨b, 9, none⟩ (x9)) :
    W.heap[b]? = some (.cells #[x0, x1, x2, x3, x4, x5, x6, x7, x8, x9] T (0, 0)) := by
  subst hW
  have e0 : ((w).setCell ⟨b, 0, none⟩ (x0)).heap[b]? = some (.cells #[x0, a1, a2, a3, a4, a5, a6, a7, a8, a9] T (0, 0)) := set_at' h 0 x0
  have e1 : (((w).setCell ⟨b, 0, none⟩ (x0)).setCell ⟨b, 1, none⟩ (x1)).heap[b]? = some (.cells #[x0, x1, a2, a3, a4, a5, a6, a7, a8, a9] T (0, 0)) := set_at' e0 1 x1
  have e2 : ((((w).setCell ⟨b, 0, none⟩ (x0)).setCell ⟨b, 1, none⟩ (x1)).setCell ⟨b, 2, none⟩ (x2)).heap[b]? = some (.cells #[x0, x1, x2, a3, a4, a5, a6, a7, a8, a9] T (0, 0)) := set_at' e1 2 x2
  have e3 : (((((w).setCell ⟨b, 0, none⟩ (x0)).setCell ⟨b, 1, none⟩ (x1)).setCell ⟨b, 2, none⟩ (x2)).setCell ⟨b, 3, none⟩ (x3)).heap[b]? = some (.cells #[x0, x1, x2, x3, a4, a5, a6, a7, a8, a9] T (0, 0)) := set_at' e2 3 x3
  have e4 : ((((((w).setCell ⟨b, 0, none⟩ (x0)).setCell ⟨b, 1, none⟩ (x1)).setCell ⟨b, 2, none⟩ (x2)).setCell ⟨b, 3, none⟩ (x3)).setCell ⟨b, 4, none⟩ (x4)).heap[b]? = some (.cells #[x0, x1, x2, x3, x4, a5, a6, a7, a8, a9] T (0, 0)) := set_at' e3 4 x4
  have e5 : (((((((w).setCell ⟨b, 0, none⟩ (x0)).setCell ⟨b, 1, none⟩ (x1)).setCell ⟨b, 2, none⟩ (x2)).setCell ⟨b, 3, none⟩ (x3)).setCell ⟨b, 4, none⟩ (x4)).setCell ⟨b, 5, none⟩ (x5)).heap[b]? = some (.cells #[x0, x1, x2, x3, x4, x5, a6, a7, a8, a9] T (0, 0)) := set_at' e4 5 x5
  have e6 : ((((((((w).setCell ⟨b, 0, none⟩ (x0)).setCell ⟨b, 1, none⟩ (x1)).setCell ⟨b, 2, none⟩ (x2)).setCell ⟨b, 3, none⟩ (x3)).setCell ⟨b, 4, none⟩ (x4)).setCell ⟨b, 5, none⟩ (x5)).setCell ⟨b, 6, none⟩ (x6)).heap[b]? = some (.cells #[x0, x1, x2, x3, x4, x5, x6, a7, a8, a9] T (0, 0)) := set_at' e5 6 x6
  have e7 : (((((((((w).setCell ⟨b, 0, none⟩ (x0)).setCell ⟨b, 1, none⟩ (x1)).setCell ⟨b, 2, none⟩ (x2)).setCell ⟨b, 3, none⟩ (x3)).setCell ⟨b, 4, none⟩ (x4)).setCell ⟨b, 5, none⟩ (x5)).setCell ⟨b, 6, none⟩ (x6)).setCell ⟨b, 7, none⟩ (x7)).heap[b]? = some (.cells #[x0, x1, x2, x3, x4, x5, x6, x7, a8, a9] T (0, 0)) := set_at' e6 7 x7
  have e8 : ((((((((((w).setCell ⟨b, 0, none⟩ (x0)).setCell ⟨b, 1, none⟩ (x1)).setCell ⟨b, 2, none⟩ (x2)).setCell ⟨b, 3, none⟩ (x3)).setCell ⟨b, 4, none⟩ (x4)).setCell ⟨b, 5, none⟩ (x5)).setCell ⟨b, 6, none⟩ (x6)).setCell ⟨b, 7, none⟩ (x7)).setCell ⟨b, 8, none⟩ (x8)).heap[b]? = some (.cells #[x0, x1, x2, x3, x4, x5, x6, x7, x8, a9] T (0, 0)) := set_at' e7 8 x8
  have e9 : (((((((((((w).setCell ⟨b, 0, none⟩ (x0)).setCell ⟨b, 1, none⟩ (x1)).setCell ⟨b, 2, none⟩ (x2)).setCell ⟨b, 3, none⟩ (x3)).setCell ⟨b, 4, none⟩ (x4)).setCell ⟨b, 5, none⟩ (x5)).setCell ⟨b, 6, none⟩ (x6)).setCell ⟨b, 7, none⟩ (x7)).setCell ⟨b, 8, none⟩ (x8)).setCell ⟨b, 9, none⟩ (x9)).heap[b]? = some (.cells #[x0, x1, x2, x3, x4, x5, x6, x7, x8, x9] T (0, 0)) := set_at' e8 9 x9
  exact e9
def BunTk (b : BunD) (s : Option (List UInt8)) (ib : Nat) (w : World) (e : Ending) (w' : World) : Prop :=
  ∃ ev kv cv, e = .returned (.agg #[.int .i64 b.dc, .int .i64 b.af, .int .i64 b.la, .int .i64 b.v0, .int .i64 b.v1, .int .i64 b.v2, .int .i64 b.v3, ev, kv, cv]) ∧ TreeAt (fun b => w.heap.size ≤ b) w' ev kv b.es b.ks ∧ CtxQ (fun b => w.heap.size ≤ b) w' cv b.c ∧ InSt w' ib s ∧ Frm (Only ib) w w'
/-- The In, the bundle that is filled (block B), the result's block. -/
structure GB (w W : World) (ib : Nat) (t : Option (List UInt8)) (B : Nat) (cs : Array Value) : Prop where
  ins : InSt W ib t
  arr : W.heap[B]? = some (.cells cs 52 (0, 0))
  res : W.heap[w.heap.size]? = some (.cells #[.int .i64 0, .int .i64 0, .int .i64 0, .int .i64 0, .int .i64 0, .int .i64 0, .int .i64 0, .slice none 0 0, .slice none 0 0, .slice none 0 0] 52 (0, 0))
  frm : Frm (Only ib) w W
  hib : ib < w.heap.size
  hB : w.heap.size < B
theorem GB.call {w W W1 : World} {ib B : Nat} {t t' : Option (List UInt8)} {cs : Array Value} (h : GB w W ib t B cs) (hi : InSt W1 ib t') (f : Frm (Only ib) W W1) : GB w W1 ib t' B cs :=
  ⟨hi, f.blk h.arr fun e => (by have e : B = ib := e; have := h.hib; have := h.hB; omega), f.blk h.res fun e => (by have e : w.heap.size = ib := e; have := h.hib; omega), h.frm.trans f fun _ _ s => s, h.hib, h.hB⟩
theorem GB.set {w W : World} {ib B : Nat} {t : Option (List UInt8)} {cs : Array Value} (h : GB w W ib t B cs) (j : Nat) (u : Value) : GB w (W.setCell ⟨B, j, none⟩ u) ib t B (cs.setIfInBounds j u) :=
  have f := only_set W B j u
  ⟨h.ins.keep f fun k hk e => (by have e : k = B := e; have := h.hib; have := h.hB; omega), set_at' h.arr j u, f.blk h.res fun e => (by have e : w.heap.size = B := e; have := h.hB; omega), h.frm.trans f fun i hi e => (by have e : i = B := e; have := h.hB; omega), h.hib, h.hB⟩
theorem GB.out {w W : World} {ib B : Nat} {s : Option (List UInt8)} {cs : Array Value} {ev kv cv : Value} (h : GB w W ib s B cs) (b : BunD) (ht : TreeAt (fun b => w.heap.size < b) W ev kv b.es b.ks) (hx : CtxQ (fun b => w.heap.size < b) W cv b.c) (W' : World) (f : Frm (Only w.heap.size) W W') :
    BunTk b s ib w (.returned (.agg #[.int .i64 b.dc, .int .i64 b.af, .int .i64 b.la, .int .i64 b.v0, .int .i64 b.v1, .int .i64 b.v2, .int .i64 b.v3, ev, kv, cv])) W' :=
  have turn : ∀ k, k < W.heap.size → w.heap.size < k → W'.heap[k]? = W.heap[k]? ∧ w.heap.size ≤ k := fun k hk hQ => ⟨f.block k hk fun e => (by have e : k = w.heap.size := e; omega), Nat.le_of_lt hQ⟩
  ⟨ev, kv, cv, rfl, ht.turn turn, RdQ.turn hx turn, h.ins.keep f fun k hk e => (by have e : k = w.heap.size := e; have := h.hib; omega), h.frm.trans f fun i hi e => (by have e : i = w.heap.size := e; omega)⟩
set_option maxHeartbeats 8000000 in
set_option maxRecDepth 1000000 in
theorem bunGet_at (ib : Nat) (st s : Option (List UInt8)) (b : BunD) (w : World) (hc : BunRes st b s) (h : InSt w ib st) (hl : (leftOf st).length ≤ 6000) :
    Calls Tryz.prog 22 #[.pointer (some ⟨ib, 0, none⟩)] w (BunTk b s ib w) := by
  obtain ⟨dc, t1, g1⟩ := NumStep.total st 4
  obtain ⟨af, t2, g2⟩ := NumStep.total t1 1099511627776
  obtain ⟨la, t3, g3⟩ := NumStep.total t2 1099511627776
  obtain ⟨v0, v1, v2, v3, t4, g4⟩ := VecRes.total t3
  obtain ⟨es, ks, c, t5, g5⟩ := CauRes.total t4
  have hl4 : (leftOf t4).length ≤ 6000 := by
    have q1 := g1.left
    have q2 := g2.left
    have q3 := g3.left
    have q4 := g4.left
    omega
  have hok := g5.ok hl4
  have hlt := h.lt
  have HI0 := Lib.hid (h.keep (Frm.alloc NoS w (.cells #[.int .i64 0, .int .i64 0, .int .i64 0, .int .i64 0, .int .i64 0, .int .i64 0, .int .i64 0, .slice none 0 0, .slice none 0 0, .slice none 0 0] 52)) fun _ _ => id)
  have HB0 := Lib.hid (heap_alloc_new w (.cells #[.int .i64 0, .int .i64 0, .int .i64 0, .int .i64 0, .int .i64 0, .int .i64 0, .int .i64 0, .slice none 0 0, .slice none 0 0, .slice none 0 0] 52))
  have HF0 := Lib.hid ((Frm.alloc NoS w (.cells #[.int .i64 0, .int .i64 0, .int .i64 0, .int .i64 0, .int .i64 0, .int .i64 0, .int .i64 0, .slice none 0 0, .slice none 0 0, .slice none 0 0] 52)).mono (T := Only ib) fun _ _ s => s.elim)
  have HLT := Lib.hid hlt; clear hlt h hl
  have HC := Lib.hid hc; clear hc
  have HG1 := Lib.hid g1
  have HG2 := Lib.hid g2
  have HG3 := Lib.hid g3
  have HV := Lib.hid (fun W (hi : InSt W ib t3) => pGetVector_at ib t3 t4 v0 v1 v2 v3 W g4 hi)
  have HX := Lib.hid (fun W (hi : InSt W ib t4) => pGetCausal_at ib t4 t5 es ks c W g5 hi hl4)
  have HRT := Lib.hid (fun W Q ev kv cv (h : CauAt Q W ev kv cv es ks c) => bRight_any Q es ks c W dc af la v0 v1 v2 v3 ev kv cv h hok)
  have HPB := Lib.hid (fun hb => bun_bad (m1 := 4) (m2 := 1099511627776) (by decide) (by decide) (by decide) (by decide) (b := ⟨dc, af, la, v0, v1, v2, v3, es, ks, c⟩) g1 g2 g3 g4 g5 hb)
  have HPG := Lib.hid (fun (r : List UInt8) (e : t5 = some r) hr => bun_good (b := ⟨dc, af, la, v0, v1, v2, v3, es, ks, c⟩) g1 g2 g3 g4 (e ▸ g5) hr)
  clear g1 g2 g3 g4 g5 hok hl4
  cases t5 with
  | none =>
    obtain ⟨rfl, rfl⟩ := HC.out.det (HPB.out (.inl rfl))
    clear HRT HPB HPG
    · go_enter Tryz.func22, Tryz.ntmps22
      go_wp2_with (first
          | (go_at_call 66; first
            | (refine (inum_at ib t2 1099511627776 la t3 _ HI2.out HG3.out (by omega) (by omega)).mono ?_; rintro e w3 ⟨rfl, hi3, hf3⟩
               have hn : w.heap.size < w3.heap.size := by have h1 := lt_of_block (((HF12.out.trans hf3 fun _ _ h => h).blk HB0.out fun e => by have e : w.heap.size = ib := e; have := HLT.out; omega)); exact h1
               have HGB := Lib.hid (show GB w (w3.alloc (.cells #[.int .i64 dc, .int .i64 af, .int .i64 la, .int .i64 0, .int .i64 0, .int .i64 0, .int .i64 0, .slice none 0 0, .slice none 0 0, .slice none 0 0] 52)) ib t3 w3.heap.size #[.int .i64 dc, .int .i64 af, .int .i64 la, .int .i64 0, .int .i64 0, .int .i64 0, .int .i64 0, .slice none 0 0, .slice none 0 0, .slice none 0 0] from
                 ⟨hi3.keep (Frm.alloc NoS w3 _) fun _ _ => id, heap_alloc_new w3 _, (Frm.alloc NoS w3 _).blk ((HF12.out.trans hf3 fun _ _ h => h).blk HB0.out fun e => (by have e : w.heap.size = ib := e; have := HLT.out; omega)) id, ((HF0.out.trans HF12.out fun _ _ h => h).trans hf3 fun _ _ h => h).trans (Frm.alloc NoS w3 _) fun _ _ s => s.elim, HLT.out, hn⟩)
               clear hi3 hf3)
            | (refine (inum_at ib t1 1099511627776 af t2 _ HI1.out HG2.out (by omega) (by omega)).mono ?_; rintro e w2 ⟨rfl, hi2, hf2⟩; have HI2 := Lib.hid hi2; have HF12 := Lib.hid (HF1.out.trans hf2 fun _ _ h => h); clear hi2 hf2)
            | (go_loud (refine (inum_at ib st 4 dc t1 _ HI0.out HG1.out (by omega) (by omega)).mono ?_); rintro e w1 ⟨rfl, hi1, hf1⟩; have HI1 := Lib.hid hi1; have HF1 := Lib.hid hf1; clear hi1 hf1))
          | (go_at_call 42; go_loud (refine (HV.out _ HGB.out.ins).mono ?_); rintro e w4 ⟨rfl, hi4, hf4⟩
             have sHGV0 : GB w ((w4).setCell ⟨w3.heap.size, 3, none⟩ (.int .i64 v0)) ib t4 w3.heap.size #[.int .i64 dc, .int .i64 af, .int .i64 la, .int .i64 v0, .int .i64 0, .int .i64 0, .int .i64 0, .slice none 0 0, .slice none 0 0, .slice none 0 0] := (HGB.out.call hi4 hf4).set 3 (.int .i64 v0)
             have sHGV1 : GB w (((w4).setCell ⟨w3.heap.size, 3, none⟩ (.int .i64 v0)).setCell ⟨w3.heap.size, 4, none⟩ (.int .i64 v1)) ib t4 w3.heap.size #[.int .i64 dc, .int .i64 af, .int .i64 la, .int .i64 v0, .int .i64 v1, .int .i64 0, .int .i64 0, .slice none 0 0, .slice none 0 0, .slice none 0 0] := sHGV0.set 4 (.int .i64 v1)
             have sHGV2 : GB w ((((w4).setCell ⟨w3.heap.size, 3, none⟩ (.int .i64 v0)).setCell ⟨w3.heap.size, 4, none⟩ (.int .i64 v1)).setCell ⟨w3.heap.size, 5, none⟩ (.int .i64 v2)) ib t4 w3.heap.size #[.int .i64 dc, .int .i64 af, .int .i64 la, .int .i64 v0, .int .i64 v1, .int .i64 v2, .int .i64 0, .slice none 0 0, .slice none 0 0, .slice none 0 0] := sHGV1.set 5 (.int .i64 v2)
             have sHGV3 : GB w (((((w4).setCell ⟨w3.heap.size, 3, none⟩ (.int .i64 v0)).setCell ⟨w3.heap.size, 4, none⟩ (.int .i64 v1)).setCell ⟨w3.heap.size, 5, none⟩ (.int .i64 v2)).setCell ⟨w3.heap.size, 6, none⟩ (.int .i64 v3)) ib t4 w3.heap.size #[.int .i64 dc, .int .i64 af, .int .i64 la, .int .i64 v0, .int .i64 v1, .int .i64 v2, .int .i64 v3, .slice none 0 0, .slice none 0 0, .slice none 0 0] := sHGV2.set 6 (.int .i64 v3)
             have HGV := Lib.hid sHGV3
             clear sHGV0 sHGV1 sHGV2 sHGV3
             have z3 := cell_at' (HGB.out.call hi4 hf4).arr 3 rfl
             have f3 := free_at' (HGB.out.call hi4 hf4).arr 3
             have z4 := cell_at' (HGB.out.call hi4 hf4).arr 4 rfl
             have f4 := free_at' (HGB.out.call hi4 hf4).arr 4
             have z5 := cell_at' (HGB.out.call hi4 hf4).arr 5 rfl
             have f5 := free_at' (HGB.out.call hi4 hf4).arr 5
             have z6 := cell_at' (HGB.out.call hi4 hf4).arr 6 rfl
             have f6 := free_at' (HGB.out.call hi4 hf4).arr 6
             have zl := lt_of_block (HGB.out.call hi4 hf4).arr
             clear hi4 hf4)
          | (go_at_call 39; go_loud (refine (HX.out _ HGV.out.ins).mono ?_); rintro e w5 ⟨ev, kv, cv, rfl, hta, hrc, hi5, hf5⟩; obtain ⟨a3, c3, rfl⟩ := hta.ents.rd.sl; obtain ⟨os3, hkr3, -⟩ := hta.kids; obtain ⟨a4, c4, rfl⟩ := hkr3.rd.sl; obtain ⟨a5, c5, rfl⟩ := hrc.at_.sl; clear hkr3 z3 z4 z5 z6 f3 f4 f5 f6 zl
             have hb5 := lt_of_block HGV.out.arr
             have sHGX0 : GB w ((w5).setCell ⟨w3.heap.size, 7, none⟩ (.slice a3 es.length c3)) ib none w3.heap.size #[.int .i64 dc, .int .i64 af, .int .i64 la, .int .i64 v0, .int .i64 v1, .int .i64 v2, .int .i64 v3, .slice a3 es.length c3, .slice none 0 0, .slice none 0 0] := (HGV.out.call hi5 hf5).set 7 (.slice a3 es.length c3)
             have sHGX1 : GB w (((w5).setCell ⟨w3.heap.size, 7, none⟩ (.slice a3 es.length c3)).setCell ⟨w3.heap.size, 8, none⟩ (.slice a4 ks.len c4)) ib none w3.heap.size #[.int .i64 dc, .int .i64 af, .int .i64 la, .int .i64 v0, .int .i64 v1, .int .i64 v2, .int .i64 v3, .slice a3 es.length c3, .slice a4 ks.len c4, .slice none 0 0] := sHGX0.set 8 (.slice a4 ks.len c4)
             have sHGX2 : GB w ((((w5).setCell ⟨w3.heap.size, 7, none⟩ (.slice a3 es.length c3)).setCell ⟨w3.heap.size, 8, none⟩ (.slice a4 ks.len c4)).setCell ⟨w3.heap.size, 9, none⟩ (.slice a5 c.length c5)) ib none w3.heap.size #[.int .i64 dc, .int .i64 af, .int .i64 la, .int .i64 v0, .int .i64 v1, .int .i64 v2, .int .i64 v3, .slice a3 es.length c3, .slice a4 ks.len c4, .slice a5 c.length c5] := sHGX1.set 9 (.slice a5 c.length c5)
             have HGX := Lib.hid sHGX2
             clear sHGX0 sHGX1 sHGX2
             have hft : Frm (Only w3.heap.size) w5 ((((w5).setCell ⟨w3.heap.size, 7, none⟩ (.slice a3 es.length c3)).setCell ⟨w3.heap.size, 8, none⟩ (.slice a4 ks.len c4)).setCell ⟨w3.heap.size, 9, none⟩ (.slice a5 c.length c5)) := ((only_set w5 _ 7 _).trans (only_set _ _ 8 _) fun _ _ h => h).trans (only_set _ _ 9 _) fun _ _ h => h
             have hB := HGV.out.hB
             have turn : ∀ k, k < w5.heap.size → (((((w4).setCell ⟨w3.heap.size, 3, none⟩ (.int .i64 v0)).setCell ⟨w3.heap.size, 4, none⟩ (.int .i64 v1)).setCell ⟨w3.heap.size, 5, none⟩ (.int .i64 v2)).setCell ⟨w3.heap.size, 6, none⟩ (.int .i64 v3)).heap.size ≤ k → ((((w5).setCell ⟨w3.heap.size, 7, none⟩ (.slice a3 es.length c3)).setCell ⟨w3.heap.size, 8, none⟩ (.slice a4 ks.len c4)).setCell ⟨w3.heap.size, 9, none⟩ (.slice a5 c.length c5)).heap[k]? = w5.heap[k]? ∧ w.heap.size < k := fun k hk hQ => ⟨hft.block k hk fun e => (by have e : k = w3.heap.size := e; subst e; exact absurd (Nat.lt_of_lt_of_le hb5 hQ) (Nat.lt_irrefl _)), Nat.lt_trans hB (Nat.lt_of_lt_of_le hb5 hQ)⟩
             have HTA := Lib.hid (hta.turn turn)
             have HRC := Lib.hid (show CtxQ (fun k => w.heap.size < k) _ (.slice a5 c.length c5) c from RdQ.turn hrc turn)
             have z7 := cell_at' (HGV.out.call hi5 hf5).arr 7 rfl
             have f7 := free_at' (HGV.out.call hi5 hf5).arr 7
             have z8 := cell_at' (HGV.out.call hi5 hf5).arr 8 rfl
             have f8 := free_at' (HGV.out.call hi5 hf5).arr 8
             have z9 := cell_at' (HGV.out.call hi5 hf5).arr 9 rfl
             have f9 := free_at' (HGV.out.call hi5 hf5).arr 9
             have zl := lt_of_block (HGV.out.call hi5 hf5).arr
             have z0 : w5.cell? ⟨w3.heap.size, 0, none⟩ = some (.int .i64 dc) := cell_at' (HGV.out.call hi5 hf5).arr 0 rfl
             have z1 : w5.cell? ⟨w3.heap.size, 1, none⟩ = some (.int .i64 af) := cell_at' (HGV.out.call hi5 hf5).arr 1 rfl
             have z2 : w5.cell? ⟨w3.heap.size, 2, none⟩ = some (.int .i64 la) := cell_at' (HGV.out.call hi5 hf5).arr 2 rfl
             have z3 : w5.cell? ⟨w3.heap.size, 3, none⟩ = some (.int .i64 v0) := cell_at' (HGV.out.call hi5 hf5).arr 3 rfl
             have z4 : w5.cell? ⟨w3.heap.size, 4, none⟩ = some (.int .i64 v1) := cell_at' (HGV.out.call hi5 hf5).arr 4 rfl
             have z5 : w5.cell? ⟨w3.heap.size, 5, none⟩ = some (.int .i64 v2) := cell_at' (HGV.out.call hi5 hf5).arr 5 rfl
             have z6 : w5.cell? ⟨w3.heap.size, 6, none⟩ = some (.int .i64 v3) := cell_at' (HGV.out.call hi5 hf5).arr 6 rfl
             clear hft hta hrc hi5 hf5 turn hb5 hB
             generalize es.length = n at *
             generalize ks.len = m at *
             generalize c.length = k at *)
          | (go_at_call 25; refine (bad_go ib _ _ HGX.out.ins).mono ?_; rintro e w6 ⟨rfl, rfl⟩)
          | (go_at_call 67; obtain ⟨a, c, hh⟩ := HGX.out.ins.heap; go_loud (refine (fail_go ib _ _ _ hh).mono ?_); rintro e w8 ⟨rfl, hi8, hf8⟩
             clear z0 z1 z2 z3 z4 z5 z6 z7 z8 z9 f7 f8 f9 zl
             have HG8 := Lib.hid (HGX.out.call (show InSt w8 ib none from hi8) hf8)
             clear hi8 hf8 hh
             have y0 := cell_at' HG8.out.res 0 rfl
             have g0 := free_at' HG8.out.res 0
             have y1 := cell_at' HG8.out.res 1 rfl
             have g1 := free_at' HG8.out.res 1
             have y2 := cell_at' HG8.out.res 2 rfl
             have g2 := free_at' HG8.out.res 2
             have y3 := cell_at' HG8.out.res 3 rfl
             have g3 := free_at' HG8.out.res 3
             have y4 := cell_at' HG8.out.res 4 rfl
             have g4 := free_at' HG8.out.res 4
             have y5 := cell_at' HG8.out.res 5 rfl
             have g5 := free_at' HG8.out.res 5
             have y6 := cell_at' HG8.out.res 6 rfl
             have g6 := free_at' HG8.out.res 6
             have y7 := cell_at' HG8.out.res 7 rfl
             have g7 := free_at' HG8.out.res 7
             have y8 := cell_at' HG8.out.res 8 rfl
             have g8 := free_at' HG8.out.res 8
             have y9 := cell_at' HG8.out.res 9 rfl
             have g9 := free_at' HG8.out.res 9
             have yl := lt_of_block HG8.out.res))
      clear y0 g0 y1 g1 y2 g2 y3 g3 y4 g4 y5 g5 y6 g6 y7 g7 y8 g8 y9 g9 yl
      have hten := ten_cells HG8.out.res (.int .i64 0) (.int .i64 0) (.int .i64 0) (.int .i64 0) (.int .i64 0) (.int .i64 0) (.int .i64 0) (.slice none 0 0) (.slice none 0 0) (.slice none 0 0) _ rfl
      have y0 := cell_at' hten 0 rfl
      have y1 := cell_at' hten 1 rfl
      have y2 := cell_at' hten 2 rfl
      have y3 := cell_at' hten 3 rfl
      have y4 := cell_at' hten 4 rfl
      have y5 := cell_at' hten 5 rfl
      have y6 := cell_at' hten 6 rfl
      have y7 := cell_at' hten 7 rfl
      have y8 := cell_at' hten 8 rfl
      have y9 := cell_at' hten 9 rfl
      exact bodyPost_ret (v := .agg #[.int .i64 0, .int .i64 0, .int .i64 0, .int .i64 0, .int .i64 0, .int .i64 0, .int .i64 0, .slice none 0 0, .slice none 0 0, .slice none 0 0]) (by simp [results, Tryz.results22, go_sem, y0, y1, y2, y3, y4, y5, y6, y7, y8, y9]) rfl (HG8.out.out BunD.zero (tree_nilQ _ _) (rdq_nil _ _) _ (ten_set w8 _ _ _ _ _ _ _ _ _ _ _))
  | some r =>
    by_cases hr : BunRight dc af la (vecF v0 v1 v2 v3) es ks c
    · rw [tf_true hr] at HRT
      obtain ⟨rfl, rfl⟩ := HC.out.det (HPG.out r rfl hr)
      clear hr HPB HPG
      go_enter Tryz.func22, Tryz.ntmps22
      go_wp2_with (first
          | (go_at_call 66; first
            | (refine (inum_at ib t2 1099511627776 la t3 _ HI2.out HG3.out (by omega) (by omega)).mono ?_; rintro e w3 ⟨rfl, hi3, hf3⟩
               have hn : w.heap.size < w3.heap.size := by have h1 := lt_of_block (((HF12.out.trans hf3 fun _ _ h => h).blk HB0.out fun e => by have e : w.heap.size = ib := e; have := HLT.out; omega)); exact h1
               have HGB := Lib.hid (show GB w (w3.alloc (.cells #[.int .i64 dc, .int .i64 af, .int .i64 la, .int .i64 0, .int .i64 0, .int .i64 0, .int .i64 0, .slice none 0 0, .slice none 0 0, .slice none 0 0] 52)) ib t3 w3.heap.size #[.int .i64 dc, .int .i64 af, .int .i64 la, .int .i64 0, .int .i64 0, .int .i64 0, .int .i64 0, .slice none 0 0, .slice none 0 0, .slice none 0 0] from
                 ⟨hi3.keep (Frm.alloc NoS w3 _) fun _ _ => id, heap_alloc_new w3 _, (Frm.alloc NoS w3 _).blk ((HF12.out.trans hf3 fun _ _ h => h).blk HB0.out fun e => (by have e : w.heap.size = ib := e; have := HLT.out; omega)) id, ((HF0.out.trans HF12.out fun _ _ h => h).trans hf3 fun _ _ h => h).trans (Frm.alloc NoS w3 _) fun _ _ s => s.elim, HLT.out, hn⟩)
               clear hi3 hf3)
            | (refine (inum_at ib t1 1099511627776 af t2 _ HI1.out HG2.out (by omega) (by omega)).mono ?_; rintro e w2 ⟨rfl, hi2, hf2⟩; have HI2 := Lib.hid hi2; have HF12 := Lib.hid (HF1.out.trans hf2 fun _ _ h => h); clear hi2 hf2)
            | (go_loud (refine (inum_at ib st 4 dc t1 _ HI0.out HG1.out (by omega) (by omega)).mono ?_); rintro e w1 ⟨rfl, hi1, hf1⟩; have HI1 := Lib.hid hi1; have HF1 := Lib.hid hf1; clear hi1 hf1))
          | (go_at_call 42; go_loud (refine (HV.out _ HGB.out.ins).mono ?_); rintro e w4 ⟨rfl, hi4, hf4⟩
             have sHGV0 : GB w ((w4).setCell ⟨w3.heap.size, 3, none⟩ (.int .i64 v0)) ib t4 w3.heap.size #[.int .i64 dc, .int .i64 af, .int .i64 la, .int .i64 v0, .int .i64 0, .int .i64 0, .int .i64 0, .slice none 0 0, .slice none 0 0, .slice none 0 0] := (HGB.out.call hi4 hf4).set 3 (.int .i64 v0)
             have sHGV1 : GB w (((w4).setCell ⟨w3.heap.size, 3, none⟩ (.int .i64 v0)).setCell ⟨w3.heap.size, 4, none⟩ (.int .i64 v1)) ib t4 w3.heap.size #[.int .i64 dc, .int .i64 af, .int .i64 la, .int .i64 v0, .int .i64 v1, .int .i64 0, .int .i64 0, .slice none 0 0, .slice none 0 0, .slice none 0 0] := sHGV0.set 4 (.int .i64 v1)
             have sHGV2 : GB w ((((w4).setCell ⟨w3.heap.size, 3, none⟩ (.int .i64 v0)).setCell ⟨w3.heap.size, 4, none⟩ (.int .i64 v1)).setCell ⟨w3.heap.size, 5, none⟩ (.int .i64 v2)) ib t4 w3.heap.size #[.int .i64 dc, .int .i64 af, .int .i64 la, .int .i64 v0, .int .i64 v1, .int .i64 v2, .int .i64 0, .slice none 0 0, .slice none 0 0, .slice none 0 0] := sHGV1.set 5 (.int .i64 v2)
             have sHGV3 : GB w (((((w4).setCell ⟨w3.heap.size, 3, none⟩ (.int .i64 v0)).setCell ⟨w3.heap.size, 4, none⟩ (.int .i64 v1)).setCell ⟨w3.heap.size, 5, none⟩ (.int .i64 v2)).setCell ⟨w3.heap.size, 6, none⟩ (.int .i64 v3)) ib t4 w3.heap.size #[.int .i64 dc, .int .i64 af, .int .i64 la, .int .i64 v0, .int .i64 v1, .int .i64 v2, .int .i64 v3, .slice none 0 0, .slice none 0 0, .slice none 0 0] := sHGV2.set 6 (.int .i64 v3)
             have HGV := Lib.hid sHGV3
             clear sHGV0 sHGV1 sHGV2 sHGV3
             have z3 := cell_at' (HGB.out.call hi4 hf4).arr 3 rfl
             have f3 := free_at' (HGB.out.call hi4 hf4).arr 3
             have z4 := cell_at' (HGB.out.call hi4 hf4).arr 4 rfl
             have f4 := free_at' (HGB.out.call hi4 hf4).arr 4
             have z5 := cell_at' (HGB.out.call hi4 hf4).arr 5 rfl
             have f5 := free_at' (HGB.out.call hi4 hf4).arr 5
             have z6 := cell_at' (HGB.out.call hi4 hf4).arr 6 rfl
             have f6 := free_at' (HGB.out.call hi4 hf4).arr 6
             have zl := lt_of_block (HGB.out.call hi4 hf4).arr
             clear hi4 hf4)
          | (go_at_call 39; go_loud (refine (HX.out _ HGV.out.ins).mono ?_); rintro e w5 ⟨ev, kv, cv, rfl, hta, hrc, hi5, hf5⟩; obtain ⟨a3, c3, rfl⟩ := hta.ents.rd.sl; obtain ⟨os3, hkr3, -⟩ := hta.kids; obtain ⟨a4, c4, rfl⟩ := hkr3.rd.sl; obtain ⟨a5, c5, rfl⟩ := hrc.at_.sl; clear hkr3 z3 z4 z5 z6 f3 f4 f5 f6 zl
             have hb5 := lt_of_block HGV.out.arr
             have sHGX0 : GB w ((w5).setCell ⟨w3.heap.size, 7, none⟩ (.slice a3 es.length c3)) ib (some r) w3.heap.size #[.int .i64 dc, .int .i64 af, .int .i64 la, .int .i64 v0, .int .i64 v1, .int .i64 v2, .int .i64 v3, .slice a3 es.length c3, .slice none 0 0, .slice none 0 0] := (HGV.out.call hi5 hf5).set 7 (.slice a3 es.length c3)
             have sHGX1 : GB w (((w5).setCell ⟨w3.heap.size, 7, none⟩ (.slice a3 es.length c3)).setCell ⟨w3.heap.size, 8, none⟩ (.slice a4 ks.len c4)) ib (some r) w3.heap.size #[.int .i64 dc, .int .i64 af, .int .i64 la, .int .i64 v0, .int .i64 v1, .int .i64 v2, .int .i64 v3, .slice a3 es.length c3, .slice a4 ks.len c4, .slice none 0 0] := sHGX0.set 8 (.slice a4 ks.len c4)
             have sHGX2 : GB w ((((w5).setCell ⟨w3.heap.size, 7, none⟩ (.slice a3 es.length c3)).setCell ⟨w3.heap.size, 8, none⟩ (.slice a4 ks.len c4)).setCell ⟨w3.heap.size, 9, none⟩ (.slice a5 c.length c5)) ib (some r) w3.heap.size #[.int .i64 dc, .int .i64 af, .int .i64 la, .int .i64 v0, .int .i64 v1, .int .i64 v2, .int .i64 v3, .slice a3 es.length c3, .slice a4 ks.len c4, .slice a5 c.length c5] := sHGX1.set 9 (.slice a5 c.length c5)
             have HGX := Lib.hid sHGX2
             clear sHGX0 sHGX1 sHGX2
             have hft : Frm (Only w3.heap.size) w5 ((((w5).setCell ⟨w3.heap.size, 7, none⟩ (.slice a3 es.length c3)).setCell ⟨w3.heap.size, 8, none⟩ (.slice a4 ks.len c4)).setCell ⟨w3.heap.size, 9, none⟩ (.slice a5 c.length c5)) := ((only_set w5 _ 7 _).trans (only_set _ _ 8 _) fun _ _ h => h).trans (only_set _ _ 9 _) fun _ _ h => h
             have hB := HGV.out.hB
             have turn : ∀ k, k < w5.heap.size → (((((w4).setCell ⟨w3.heap.size, 3, none⟩ (.int .i64 v0)).setCell ⟨w3.heap.size, 4, none⟩ (.int .i64 v1)).setCell ⟨w3.heap.size, 5, none⟩ (.int .i64 v2)).setCell ⟨w3.heap.size, 6, none⟩ (.int .i64 v3)).heap.size ≤ k → ((((w5).setCell ⟨w3.heap.size, 7, none⟩ (.slice a3 es.length c3)).setCell ⟨w3.heap.size, 8, none⟩ (.slice a4 ks.len c4)).setCell ⟨w3.heap.size, 9, none⟩ (.slice a5 c.length c5)).heap[k]? = w5.heap[k]? ∧ w.heap.size < k := fun k hk hQ => ⟨hft.block k hk fun e => (by have e : k = w3.heap.size := e; subst e; exact absurd (Nat.lt_of_lt_of_le hb5 hQ) (Nat.lt_irrefl _)), Nat.lt_trans hB (Nat.lt_of_lt_of_le hb5 hQ)⟩
             have HTA := Lib.hid (hta.turn turn)
             have HRC := Lib.hid (show CtxQ (fun k => w.heap.size < k) _ (.slice a5 c.length c5) c from RdQ.turn hrc turn)
             have z7 := cell_at' (HGV.out.call hi5 hf5).arr 7 rfl
             have f7 := free_at' (HGV.out.call hi5 hf5).arr 7
             have z8 := cell_at' (HGV.out.call hi5 hf5).arr 8 rfl
             have f8 := free_at' (HGV.out.call hi5 hf5).arr 8
             have z9 := cell_at' (HGV.out.call hi5 hf5).arr 9 rfl
             have f9 := free_at' (HGV.out.call hi5 hf5).arr 9
             have zl := lt_of_block (HGV.out.call hi5 hf5).arr
             have z0 : w5.cell? ⟨w3.heap.size, 0, none⟩ = some (.int .i64 dc) := cell_at' (HGV.out.call hi5 hf5).arr 0 rfl
             have z1 : w5.cell? ⟨w3.heap.size, 1, none⟩ = some (.int .i64 af) := cell_at' (HGV.out.call hi5 hf5).arr 1 rfl
             have z2 : w5.cell? ⟨w3.heap.size, 2, none⟩ = some (.int .i64 la) := cell_at' (HGV.out.call hi5 hf5).arr 2 rfl
             have z3 : w5.cell? ⟨w3.heap.size, 3, none⟩ = some (.int .i64 v0) := cell_at' (HGV.out.call hi5 hf5).arr 3 rfl
             have z4 : w5.cell? ⟨w3.heap.size, 4, none⟩ = some (.int .i64 v1) := cell_at' (HGV.out.call hi5 hf5).arr 4 rfl
             have z5 : w5.cell? ⟨w3.heap.size, 5, none⟩ = some (.int .i64 v2) := cell_at' (HGV.out.call hi5 hf5).arr 5 rfl
             have z6 : w5.cell? ⟨w3.heap.size, 6, none⟩ = some (.int .i64 v3) := cell_at' (HGV.out.call hi5 hf5).arr 6 rfl
             clear hft hta hrc hi5 hf5 turn hb5 hB
             generalize es.length = n at *
             generalize ks.len = m at *
             generalize c.length = k at *)
          | (go_at_call 25; refine (bad_go ib _ _ HGX.out.ins).mono ?_; rintro e w6 ⟨rfl, rfl⟩)
          | (go_at_call 64; go_loud (refine (HRT.out _ _ _ _ _ ⟨HTA.out, HRC.out.at_⟩).mono ?_); rintro e w7 ⟨rfl, hf7⟩
             clear z0 z1 z2 z3 z4 z5 z6 z7 z8 z9 f7 f8 f9 zl
             have HG7 := Lib.hid (HGX.out.call (HGX.out.ins.keep hf7 fun _ _ => id) (hf7.mono fun _ _ s => s.elim))
             have HTA7 := Lib.hid (HTA.out.keep0 hf7)
             have HRC7 := Lib.hid (HRC.out.keep0 hf7)
             clear hf7
             have z0 : w7.cell? ⟨w3.heap.size, 0, none⟩ = some (.int .i64 dc) := cell_at' HG7.out.arr 0 rfl
             have z1 : w7.cell? ⟨w3.heap.size, 1, none⟩ = some (.int .i64 af) := cell_at' HG7.out.arr 1 rfl
             have z2 : w7.cell? ⟨w3.heap.size, 2, none⟩ = some (.int .i64 la) := cell_at' HG7.out.arr 2 rfl
             have z3 : w7.cell? ⟨w3.heap.size, 3, none⟩ = some (.int .i64 v0) := cell_at' HG7.out.arr 3 rfl
             have z4 : w7.cell? ⟨w3.heap.size, 4, none⟩ = some (.int .i64 v1) := cell_at' HG7.out.arr 4 rfl
             have z5 : w7.cell? ⟨w3.heap.size, 5, none⟩ = some (.int .i64 v2) := cell_at' HG7.out.arr 5 rfl
             have z6 : w7.cell? ⟨w3.heap.size, 6, none⟩ = some (.int .i64 v3) := cell_at' HG7.out.arr 6 rfl
             have z7 : w7.cell? ⟨w3.heap.size, 7, none⟩ = some (.slice a3 n c3) := cell_at' HG7.out.arr 7 rfl
             have z8 : w7.cell? ⟨w3.heap.size, 8, none⟩ = some (.slice a4 m c4) := cell_at' HG7.out.arr 8 rfl
             have z9 : w7.cell? ⟨w3.heap.size, 9, none⟩ = some (.slice a5 k c5) := cell_at' HG7.out.arr 9 rfl
             have zl := lt_of_block HG7.out.arr
             have y0 := cell_at' HG7.out.res 0 rfl
             have g0 := free_at' HG7.out.res 0
             have y1 := cell_at' HG7.out.res 1 rfl
             have g1 := free_at' HG7.out.res 1
             have y2 := cell_at' HG7.out.res 2 rfl
             have g2 := free_at' HG7.out.res 2
             have y3 := cell_at' HG7.out.res 3 rfl
             have g3 := free_at' HG7.out.res 3
             have y4 := cell_at' HG7.out.res 4 rfl
             have g4 := free_at' HG7.out.res 4
             have y5 := cell_at' HG7.out.res 5 rfl
             have g5 := free_at' HG7.out.res 5
             have y6 := cell_at' HG7.out.res 6 rfl
             have g6 := free_at' HG7.out.res 6
             have y7 := cell_at' HG7.out.res 7 rfl
             have g7 := free_at' HG7.out.res 7
             have y8 := cell_at' HG7.out.res 8 rfl
             have g8 := free_at' HG7.out.res 8
             have y9 := cell_at' HG7.out.res 9 rfl
             have g9 := free_at' HG7.out.res 9
             have yl := lt_of_block HG7.out.res))
      clear z0 z1 z2 z3 z4 z5 z6 z7 z8 z9 zl
      clear y0 g0 y1 g1 y2 g2 y3 g3 y4 g4 y5 g5 y6 g6 y7 g7 y8 g8 y9 g9 yl
      have hten := ten_cells HG7.out.res (.int .i64 dc) (.int .i64 af) (.int .i64 la) (.int .i64 v0) (.int .i64 v1) (.int .i64 v2) (.int .i64 v3) (.slice a3 n c3) (.slice a4 m c4) (.slice a5 k c5) _ rfl
      have y0 := cell_at' hten 0 rfl
      have y1 := cell_at' hten 1 rfl
      have y2 := cell_at' hten 2 rfl
      have y3 := cell_at' hten 3 rfl
      have y4 := cell_at' hten 4 rfl
      have y5 := cell_at' hten 5 rfl
      have y6 := cell_at' hten 6 rfl
      have y7 := cell_at' hten 7 rfl
      have y8 := cell_at' hten 8 rfl
      have y9 := cell_at' hten 9 rfl
      exact bodyPost_ret (v := .agg #[.int .i64 dc, .int .i64 af, .int .i64 la, .int .i64 v0, .int .i64 v1, .int .i64 v2, .int .i64 v3, .slice a3 n c3, .slice a4 m c4, .slice a5 k c5]) (by simp [results, Tryz.results22, go_sem, y0, y1, y2, y3, y4, y5, y6, y7, y8, y9]) rfl (HG7.out.out ⟨dc, af, la, v0, v1, v2, v3, es, ks, c⟩ HTA7.out HRC7.out _ (ten_set w7 _ _ _ _ _ _ _ _ _ _ _))
    · rw [tf_false hr] at HRT
      obtain ⟨rfl, rfl⟩ := HC.out.det (HPB.out (.inr hr))
      clear hr HPB HPG
      go_enter Tryz.func22, Tryz.ntmps22
      go_wp2_with (first
          | (go_at_call 66; first
            | (refine (inum_at ib t2 1099511627776 la t3 _ HI2.out HG3.out (by omega) (by omega)).mono ?_; rintro e w3 ⟨rfl, hi3, hf3⟩
               have hn : w.heap.size < w3.heap.size := by have h1 := lt_of_block (((HF12.out.trans hf3 fun _ _ h => h).blk HB0.out fun e => by have e : w.heap.size = ib := e; have := HLT.out; omega)); exact h1
               have HGB := Lib.hid (show GB w (w3.alloc (.cells #[.int .i64 dc, .int .i64 af, .int .i64 la, .int .i64 0, .int .i64 0, .int .i64 0, .int .i64 0, .slice none 0 0, .slice none 0 0, .slice none 0 0] 52)) ib t3 w3.heap.size #[.int .i64 dc, .int .i64 af, .int .i64 la, .int .i64 0, .int .i64 0, .int .i64 0, .int .i64 0, .slice none 0 0, .slice none 0 0, .slice none 0 0] from
                 ⟨hi3.keep (Frm.alloc NoS w3 _) fun _ _ => id, heap_alloc_new w3 _, (Frm.alloc NoS w3 _).blk ((HF12.out.trans hf3 fun _ _ h => h).blk HB0.out fun e => (by have e : w.heap.size = ib := e; have := HLT.out; omega)) id, ((HF0.out.trans HF12.out fun _ _ h => h).trans hf3 fun _ _ h => h).trans (Frm.alloc NoS w3 _) fun _ _ s => s.elim, HLT.out, hn⟩)
               clear hi3 hf3)
            | (refine (inum_at ib t1 1099511627776 af t2 _ HI1.out HG2.out (by omega) (by omega)).mono ?_; rintro e w2 ⟨rfl, hi2, hf2⟩; have HI2 := Lib.hid hi2; have HF12 := Lib.hid (HF1.out.trans hf2 fun _ _ h => h); clear hi2 hf2)
            | (go_loud (refine (inum_at ib st 4 dc t1 _ HI0.out HG1.out (by omega) (by omega)).mono ?_); rintro e w1 ⟨rfl, hi1, hf1⟩; have HI1 := Lib.hid hi1; have HF1 := Lib.hid hf1; clear hi1 hf1))
          | (go_at_call 42; go_loud (refine (HV.out _ HGB.out.ins).mono ?_); rintro e w4 ⟨rfl, hi4, hf4⟩
             have sHGV0 : GB w ((w4).setCell ⟨w3.heap.size, 3, none⟩ (.int .i64 v0)) ib t4 w3.heap.size #[.int .i64 dc, .int .i64 af, .int .i64 la, .int .i64 v0, .int .i64 0, .int .i64 0, .int .i64 0, .slice none 0 0, .slice none 0 0, .slice none 0 0] := (HGB.out.call hi4 hf4).set 3 (.int .i64 v0)
             have sHGV1 : GB w (((w4).setCell ⟨w3.heap.size, 3, none⟩ (.int .i64 v0)).setCell ⟨w3.heap.size, 4, none⟩ (.int .i64 v1)) ib t4 w3.heap.size #[.int .i64 dc, .int .i64 af, .int .i64 la, .int .i64 v0, .int .i64 v1, .int .i64 0, .int .i64 0, .slice none 0 0, .slice none 0 0, .slice none 0 0] := sHGV0.set 4 (.int .i64 v1)
             have sHGV2 : GB w ((((w4).setCell ⟨w3.heap.size, 3, none⟩ (.int .i64 v0)).setCell ⟨w3.heap.size, 4, none⟩ (.int .i64 v1)).setCell ⟨w3.heap.size, 5, none⟩ (.int .i64 v2)) ib t4 w3.heap.size #[.int .i64 dc, .int .i64 af, .int .i64 la, .int .i64 v0, .int .i64 v1, .int .i64 v2, .int .i64 0, .slice none 0 0, .slice none 0 0, .slice none 0 0] := sHGV1.set 5 (.int .i64 v2)
             have sHGV3 : GB w (((((w4).setCell ⟨w3.heap.size, 3, none⟩ (.int .i64 v0)).setCell ⟨w3.heap.size, 4, none⟩ (.int .i64 v1)).setCell ⟨w3.heap.size, 5, none⟩ (.int .i64 v2)).setCell ⟨w3.heap.size, 6, none⟩ (.int .i64 v3)) ib t4 w3.heap.size #[.int .i64 dc, .int .i64 af, .int .i64 la, .int .i64 v0, .int .i64 v1, .int .i64 v2, .int .i64 v3, .slice none 0 0, .slice none 0 0, .slice none 0 0] := sHGV2.set 6 (.int .i64 v3)
             have HGV := Lib.hid sHGV3
             clear sHGV0 sHGV1 sHGV2 sHGV3
             have z3 := cell_at' (HGB.out.call hi4 hf4).arr 3 rfl
             have f3 := free_at' (HGB.out.call hi4 hf4).arr 3
             have z4 := cell_at' (HGB.out.call hi4 hf4).arr 4 rfl
             have f4 := free_at' (HGB.out.call hi4 hf4).arr 4
             have z5 := cell_at' (HGB.out.call hi4 hf4).arr 5 rfl
             have f5 := free_at' (HGB.out.call hi4 hf4).arr 5
             have z6 := cell_at' (HGB.out.call hi4 hf4).arr 6 rfl
             have f6 := free_at' (HGB.out.call hi4 hf4).arr 6
             have zl := lt_of_block (HGB.out.call hi4 hf4).arr
             clear hi4 hf4)
          | (go_at_call 39; go_loud (refine (HX.out _ HGV.out.ins).mono ?_); rintro e w5 ⟨ev, kv, cv, rfl, hta, hrc, hi5, hf5⟩; obtain ⟨a3, c3, rfl⟩ := hta.ents.rd.sl; obtain ⟨os3, hkr3, -⟩ := hta.kids; obtain ⟨a4, c4, rfl⟩ := hkr3.rd.sl; obtain ⟨a5, c5, rfl⟩ := hrc.at_.sl; clear hkr3 z3 z4 z5 z6 f3 f4 f5 f6 zl
             have hb5 := lt_of_block HGV.out.arr
             have sHGX0 : GB w ((w5).setCell ⟨w3.heap.size, 7, none⟩ (.slice a3 es.length c3)) ib (some r) w3.heap.size #[.int .i64 dc, .int .i64 af, .int .i64 la, .int .i64 v0, .int .i64 v1, .int .i64 v2, .int .i64 v3, .slice a3 es.length c3, .slice none 0 0, .slice none 0 0] := (HGV.out.call hi5 hf5).set 7 (.slice a3 es.length c3)
             have sHGX1 : GB w (((w5).setCell ⟨w3.heap.size, 7, none⟩ (.slice a3 es.length c3)).setCell ⟨w3.heap.size, 8, none⟩ (.slice a4 ks.len c4)) ib (some r) w3.heap.size #[.int .i64 dc, .int .i64 af, .int .i64 la, .int .i64 v0, .int .i64 v1, .int .i64 v2, .int .i64 v3, .slice a3 es.length c3, .slice a4 ks.len c4, .slice none 0 0] := sHGX0.set 8 (.slice a4 ks.len c4)
             have sHGX2 : GB w ((((w5).setCell ⟨w3.heap.size, 7, none⟩ (.slice a3 es.length c3)).setCell ⟨w3.heap.size, 8, none⟩ (.slice a4 ks.len c4)).setCell ⟨w3.heap.size, 9, none⟩ (.slice a5 c.length c5)) ib (some r) w3.heap.size #[.int .i64 dc, .int .i64 af, .int .i64 la, .int .i64 v0, .int .i64 v1, .int .i64 v2, .int .i64 v3, .slice a3 es.length c3, .slice a4 ks.len c4, .slice a5 c.length c5] := sHGX1.set 9 (.slice a5 c.length c5)
             have HGX := Lib.hid sHGX2
             clear sHGX0 sHGX1 sHGX2
             have hft : Frm (Only w3.heap.size) w5 ((((w5).setCell ⟨w3.heap.size, 7, none⟩ (.slice a3 es.length c3)).setCell ⟨w3.heap.size, 8, none⟩ (.slice a4 ks.len c4)).setCell ⟨w3.heap.size, 9, none⟩ (.slice a5 c.length c5)) := ((only_set w5 _ 7 _).trans (only_set _ _ 8 _) fun _ _ h => h).trans (only_set _ _ 9 _) fun _ _ h => h
             have hB := HGV.out.hB
             have turn : ∀ k, k < w5.heap.size → (((((w4).setCell ⟨w3.heap.size, 3, none⟩ (.int .i64 v0)).setCell ⟨w3.heap.size, 4, none⟩ (.int .i64 v1)).setCell ⟨w3.heap.size, 5, none⟩ (.int .i64 v2)).setCell ⟨w3.heap.size, 6, none⟩ (.int .i64 v3)).heap.size ≤ k → ((((w5).setCell ⟨w3.heap.size, 7, none⟩ (.slice a3 es.length c3)).setCell ⟨w3.heap.size, 8, none⟩ (.slice a4 ks.len c4)).setCell ⟨w3.heap.size, 9, none⟩ (.slice a5 c.length c5)).heap[k]? = w5.heap[k]? ∧ w.heap.size < k := fun k hk hQ => ⟨hft.block k hk fun e => (by have e : k = w3.heap.size := e; subst e; exact absurd (Nat.lt_of_lt_of_le hb5 hQ) (Nat.lt_irrefl _)), Nat.lt_trans hB (Nat.lt_of_lt_of_le hb5 hQ)⟩
             have HTA := Lib.hid (hta.turn turn)
             have HRC := Lib.hid (show CtxQ (fun k => w.heap.size < k) _ (.slice a5 c.length c5) c from RdQ.turn hrc turn)
             have z7 := cell_at' (HGV.out.call hi5 hf5).arr 7 rfl
             have f7 := free_at' (HGV.out.call hi5 hf5).arr 7
             have z8 := cell_at' (HGV.out.call hi5 hf5).arr 8 rfl
             have f8 := free_at' (HGV.out.call hi5 hf5).arr 8
             have z9 := cell_at' (HGV.out.call hi5 hf5).arr 9 rfl
             have f9 := free_at' (HGV.out.call hi5 hf5).arr 9
             have zl := lt_of_block (HGV.out.call hi5 hf5).arr
             have z0 : w5.cell? ⟨w3.heap.size, 0, none⟩ = some (.int .i64 dc) := cell_at' (HGV.out.call hi5 hf5).arr 0 rfl
             have z1 : w5.cell? ⟨w3.heap.size, 1, none⟩ = some (.int .i64 af) := cell_at' (HGV.out.call hi5 hf5).arr 1 rfl
             have z2 : w5.cell? ⟨w3.heap.size, 2, none⟩ = some (.int .i64 la) := cell_at' (HGV.out.call hi5 hf5).arr 2 rfl
             have z3 : w5.cell? ⟨w3.heap.size, 3, none⟩ = some (.int .i64 v0) := cell_at' (HGV.out.call hi5 hf5).arr 3 rfl
             have z4 : w5.cell? ⟨w3.heap.size, 4, none⟩ = some (.int .i64 v1) := cell_at' (HGV.out.call hi5 hf5).arr 4 rfl
             have z5 : w5.cell? ⟨w3.heap.size, 5, none⟩ = some (.int .i64 v2) := cell_at' (HGV.out.call hi5 hf5).arr 5 rfl
             have z6 : w5.cell? ⟨w3.heap.size, 6, none⟩ = some (.int .i64 v3) := cell_at' (HGV.out.call hi5 hf5).arr 6 rfl
             clear hft hta hrc hi5 hf5 turn hb5 hB
             generalize es.length = n at *
             generalize ks.len = m at *
             generalize c.length = k at *)
          | (go_at_call 25; refine (bad_go ib _ _ HGX.out.ins).mono ?_; rintro e w6 ⟨rfl, rfl⟩)
          | (go_at_call 64; go_loud (refine (HRT.out _ _ _ _ _ ⟨HTA.out, HRC.out.at_⟩).mono ?_); rintro e w7 ⟨rfl, hf7⟩
             clear z0 z1 z2 z3 z4 z5 z6 z7 z8 z9 f7 f8 f9 zl
             have HG7 := Lib.hid (HGX.out.call (HGX.out.ins.keep hf7 fun _ _ => id) (hf7.mono fun _ _ s => s.elim))
             clear hf7)
          | (go_at_call 67; obtain ⟨a, c, hh⟩ := HG7.out.ins.heap; go_loud (refine (fail_go ib _ _ _ hh).mono ?_); rintro e w8 ⟨rfl, hi8, hf8⟩
             skip
             have HG8 := Lib.hid (HG7.out.call (show InSt w8 ib none from hi8) hf8)
             clear hi8 hf8 hh
             have y0 := cell_at' HG8.out.res 0 rfl
             have g0 := free_at' HG8.out.res 0
             have y1 := cell_at' HG8.out.res 1 rfl
             have g1 := free_at' HG8.out.res 1
             have y2 := cell_at' HG8.out.res 2 rfl
             have g2 := free_at' HG8.out.res 2
             have y3 := cell_at' HG8.out.res 3 rfl
             have g3 := free_at' HG8.out.res 3
             have y4 := cell_at' HG8.out.res 4 rfl
             have g4 := free_at' HG8.out.res 4
             have y5 := cell_at' HG8.out.res 5 rfl
             have g5 := free_at' HG8.out.res 5
             have y6 := cell_at' HG8.out.res 6 rfl
             have g6 := free_at' HG8.out.res 6
             have y7 := cell_at' HG8.out.res 7 rfl
             have g7 := free_at' HG8.out.res 7
             have y8 := cell_at' HG8.out.res 8 rfl
             have g8 := free_at' HG8.out.res 8
             have y9 := cell_at' HG8.out.res 9 rfl
             have g9 := free_at' HG8.out.res 9
             have yl := lt_of_block HG8.out.res))
      clear y0 g0 y1 g1 y2 g2 y3 g3 y4 g4 y5 g5 y6 g6 y7 g7 y8 g8 y9 g9 yl
      have hten := ten_cells HG8.out.res (.int .i64 0) (.int .i64 0) (.int .i64 0) (.int .i64 0) (.int .i64 0) (.int .i64 0) (.int .i64 0) (.slice none 0 0) (.slice none 0 0) (.slice none 0 0) _ rfl
      have y0 := cell_at' hten 0 rfl
      have y1 := cell_at' hten 1 rfl
      have y2 := cell_at' hten 2 rfl
      have y3 := cell_at' hten 3 rfl
      have y4 := cell_at' hten 4 rfl
      have y5 := cell_at' hten 5 rfl
      have y6 := cell_at' hten 6 rfl
      have y7 := cell_at' hten 7 rfl
      have y8 := cell_at' hten 8 rfl
      have y9 := cell_at' hten 9 rfl
      exact bodyPost_ret (v := .agg #[.int .i64 0, .int .i64 0, .int .i64 0, .int .i64 0, .int .i64 0, .int .i64 0, .int .i64 0, .slice none 0 0, .slice none 0 0, .slice none 0 0]) (by simp [results, Tryz.results22, go_sem, y0, y1, y2, y3, y4, y5, y6, y7, y8, y9]) rfl (HG8.out.out BunD.zero (tree_nilQ _ _) (rdq_nil _ _) _ (ten_set w8 _ _ _ _ _ _ _ _ _ _ _))
end Go.Proofs.YtafdclkpeomomaaGreat

/- tributaryref16: bad, Many: the walks; a reference's In that is kept. -/
namespace Go.Proofs.YtafdclkpeomomaaGreat
open Go.RowKit

/-- A reference's In: where its bytes lie, if it has any, is ahead of w0. -/
structure RIn (w0 w : World) (v : Value) (st : Option (List UInt8)) : Prop where
  rst : RSt w v st.isNone st
  old : Old w0 v st
section
variable {w0 w w' : World} {v : Value} {st : Option (List UInt8)}
theorem RIn.keep (h : RIn w0 w v st) {S : Nat → Prop} (f : Frm S w w') (hS : ∀ k, k < w0.heap.size → ¬ S k) : RIn w0 w' v st := ⟨rst_keepO h.old h.rst f hS, h.old⟩
theorem RIn.keep0 (h : RIn w0 w v st) (f : Frm NoS w w') : RIn w0 w' v st := h.keep f fun _ _ => id
theorem RIn.shape (h : RIn w0 w v st) : ∃ a c, v = .slice a (leftOf st).length c := h.rst.shape
theorem RIn.bad (w0 w : World) : RIn w0 w (.slice none 0 0) none := ⟨⟨rfl, rfl⟩, fun h => absurd rfl h⟩
/-- What a step of the reference hands out: what was read, and what is left. -/
def RPost (w0 w : World) (u : Value) (st' : Option (List UInt8)) (e : Ending) (w' : World) : Prop :=
  ∃ a c, e = .returned (.tuple #[u, .agg #[.slice a (leftOf st').length c, .bool st'.isNone]]) ∧ RIn w0 w' (.slice a (leftOf st').length c) st' ∧ Frm NoS w w'
theorem rnum_at {st' : Option (List UInt8)} {m n : Int} (h : RIn w0 w v st) (hs : NumStep st m n st') (hm2 : m ≤ 9223372036854775807) (hm3 : -9223372036854775808 ≤ m) :
    Calls Tryz.prog 68 #[.agg #[v, .bool st.isNone], .int .i64 m] w (RPost w0 w (.int .i64 n) st') :=
  (rinum_any m v st.isNone st w h.rst hm2 hm3).mono fun e w' ⟨n', v', bad', st2, he, hs2, hr, hu, hf⟩ => by
    obtain ⟨rfl, rfl⟩ := hs.det hs2
    obtain ⟨a, c, rfl⟩ := hr.shape
    obtain rfl := hr.isNone
    exact ⟨a, c, he, ⟨hr, h.old.stepN hs2 hu⟩, hf⟩
theorem rtext_at {st' : Option (List UInt8)} {m : Int} {s : ByteArray} (h : RIn w0 w v st) (hs : TextStep st m s st') (hm2 : m ≤ 9223372036854775807) (hm3 : -9223372036854775808 ≤ m) :
    Calls Tryz.prog 121 #[.agg #[v, .bool st.isNone], .int .i64 m] w (RPost w0 w (.string s) st') :=
  (ritext_any m v st.isNone st w h.rst hm2 hm3).mono fun e w' ⟨n', v', bad', st2, he, hs2, hr, hu, hf⟩ => by
    obtain ⟨rfl, rfl⟩ := hs.det hs2
    obtain ⟨a, c, rfl⟩ := hr.shape
    obtain rfl := hr.isNone
    exact ⟨a, c, he, ⟨hr, h.old.stepT hs2 hu⟩, hf⟩
end
set_option maxHeartbeats 1000000 in
set_option maxRecDepth 1000000 in
theorem rbad_any (w : World) : Calls Tryz.prog 61 #[] w fun e w' => e = .returned (.agg #[.slice none 0 0, .bool true]) ∧ Frm NoS w w' := by
  go_enter Tryz.func61, Tryz.ntmps61
  go_wp2
  have hb := heap_alloc_new w (.cells #[.slice none 0 0, .bool true] 42)
  have y0 := cell_at' hb 0 rfl
  have y1 := cell_at' hb 1 rfl
  exact bodyPost_ret (v := .agg #[.slice none 0 0, .bool true]) (by simp [results, Tryz.results61, go_sem, y0, y1]) rfl ⟨rfl, Frm.alloc NoS w _⟩
/-- The box of the state, the result's block behind it: what of them stands in a world behind it. -/
structure Box2 (w ww : World) (a b : Value) (R : Array Value) (T : TypeId) : Prop where
  box : ww.heap[w.heap.size]? = some (.cells #[a, b] 42 (0, 0))
  res : ww.heap[w.heap.size + 1]? = some (.cells R T (0, 0))
  frm : Frm NoS w ww
section
variable {w ww w' : World} {a b : Value} {R : Array Value} {T : TypeId}
theorem Box2.start (w : World) (a b : Value) (R : Array Value) (T : TypeId) : Box2 w ((w.alloc (.cells #[a, b] 42)).alloc (.cells R T)) a b R T := by
  obtain ⟨h1, h2, _⟩ := two_blocks w (.cells #[a, b] 42) R T
  refine ⟨?_, h1, h2⟩
  rw [Below.heap_alloc _ _ _ (by simp)]
  exact heap_alloc_new w _
theorem Box2.keep (h : Box2 w ww a b R T) (f : Frm NoS ww w') : Box2 w w' a b R T := ⟨f.blk h.box id, f.blk h.res id, h.frm.then1 f⟩
theorem Box2.put (h : Box2 w ww a b R T) (a' b' : Value) : Box2 w ((ww.setCell ⟨w.heap.size, 0, none⟩ a').setCell ⟨w.heap.size, 1, none⟩ b') a' b' R T := by
  obtain ⟨h1, h2, h3⟩ := res2 h.box h.frm (Nat.le_refl _) a' b'
  exact ⟨h1, (h3 _ (by omega)).trans h.res, h2⟩
theorem Box2.facts (h : Box2 w ww a b R T) : ww.cell? ⟨w.heap.size, 0, none⟩ = some a ∧ ww.cell? ⟨w.heap.size, 1, none⟩ = some b ∧ ww.frozen? ⟨w.heap.size, 0, none⟩ = false ∧ ww.frozen? ⟨w.heap.size, 1, none⟩ = false ∧ w.heap.size < ww.heap.size :=
  ⟨cell_at' h.box 0 rfl, cell_at' h.box 1 rfl, free_at' h.box 0, free_at' h.box 1, lt_of_block h.box⟩
end
set_option maxHeartbeats 4000000 in
set_option maxRecDepth 1000000 in
theorem many_at {w0 : World} {v : Value} {st st' : Option (List UInt8)} {n : Nat} (w : World) (h : RIn w0 w v st) (h0 : w0.heap.size ≤ w.heap.size) (hs : CntStep st 9223372036854775807 n st') :
    Calls Tryz.prog 109 #[.agg #[v, .bool st.isNone]] w (RPost w0 w (.int .i64 n) st') := by
  obtain ⟨x, s1, h1, h2⟩ := hs
  have hxr := num_in h1
  obtain ⟨a0, c0, rfl⟩ := h.shape
  have HB0 := Lib.hid (Box2.start w (.slice a0 (leftOf st).length c0) (.bool st.isNone) #[.slice none 0 0, .bool false] 42)
  have HN := Lib.hid (fun W (f : Frm NoS w W) => rnum_at (h.keep0 f) h1 (by omega) (by omega))
  unfold RPost at HN
  clear h h1
  generalize st.isNone = bd at *
  generalize (leftOf st).length = L at *
  have bads : n = 0 → st' = none → (s1.isNone = true ∨ x < 0 ∨ ((leftOf s1).length : Int) < x) → Calls Tryz.prog 109 #[.agg #[.slice a0 L c0, .bool bd]] w (RPost w0 w (.int .i64 n) st') := by
    rintro rfl rfl hbad
    clear h2
    have HH0 := Lib.hid h0; clear h0
    generalize (leftOf s1).length = L1 at *
    generalize s1.isNone = b1 at *
    have fin : ∀ w', Frm NoS w w' → RPost w0 w (.int .i64 ((0 : Nat) : Int)) none (.returned (.tuple #[.int .i64 0, .agg #[.slice none 0 0, .bool true]])) w' := fun w' f => ⟨none, 0, rfl, RIn.bad w0 w', f⟩
    have FIN := Lib.hid fin; clear fin
    cases b1 with
    | true =>
      clear hbad
      go_enter Tryz.func109, Tryz.ntmps109
      go_wp2_with (first
        | (go_at_call 68; refine (HN.out _ HB0.out.frm).mono ?_; rintro e w1 ⟨a1, c1, rfl, hr1, hf1⟩; have HB1 := Lib.hid ((HB0.out.keep hf1).put (.slice a1 L1 c1) (.bool true)); obtain ⟨y0, y1, y2, y3, y4⟩ := (HB0.out.keep hf1).facts; clear hr1 hf1)
        | (go_at_call 61; go_loud (refine (rbad_any _).mono ?_); rintro e w2 ⟨rfl, hf2⟩; clear y0 y1 y2 y3 y4; have HB2 := Lib.hid (HB1.out.keep hf2); have z0 := free_at' HB2.out.res 0; have z1 := free_at' HB2.out.res 1; have z2 := lt_of_block HB2.out.res; have z3 := cell_at' HB2.out.res 0 rfl; have z4 := cell_at' HB2.out.res 1 rfl; clear hf2))
      clear z0 z1 z2 z3 z4
      have hr := res2 HB2.out.res HB2.out.frm (Nat.le_succ _) (.slice none 0 0) (.bool true)
      have y0 := cell_at' hr.1 0 rfl
      have y1 := cell_at' hr.1 1 rfl
      exact bodyPost_ret (v := .tuple #[.int .i64 0, .agg #[.slice none 0 0, .bool true]]) (by simp [results, Tryz.results109, go_sem, y0, y1]) rfl (FIN.out _ hr.2.1)
    | false =>
      by_cases hx : x < 0
      · clear hbad
        go_enter Tryz.func109, Tryz.ntmps109
        go_wp2_with (first
          | (go_at_call 68; refine (HN.out _ HB0.out.frm).mono ?_; rintro e w1 ⟨a1, c1, rfl, hr1, hf1⟩; have HB1 := Lib.hid ((HB0.out.keep hf1).put (.slice a1 L1 c1) (.bool false)); obtain ⟨y0, y1, y2, y3, y4⟩ := (HB0.out.keep hf1).facts; clear hr1 hf1)
          | (go_at_call 61; go_loud (refine (rbad_any _).mono ?_); rintro e w2 ⟨rfl, hf2⟩; clear y0 y1 y2 y3 y4; have HB2 := Lib.hid (HB1.out.keep hf2); have z0 := free_at' HB2.out.res 0; have z1 := free_at' HB2.out.res 1; have z2 := lt_of_block HB2.out.res; have z3 := cell_at' HB2.out.res 0 rfl; have z4 := cell_at' HB2.out.res 1 rfl; clear hf2))
        clear z0 z1 z2 z3 z4
        have hr := res2 HB2.out.res HB2.out.frm (Nat.le_succ _) (.slice none 0 0) (.bool true)
        have y0 := cell_at' hr.1 0 rfl
        have y1 := cell_at' hr.1 1 rfl
        exact bodyPost_ret (v := .tuple #[.int .i64 0, .agg #[.slice none 0 0, .bool true]]) (by simp [results, Tryz.results109, go_sem, y0, y1]) rfl (FIN.out _ hr.2.1)
      · have hlx : (L1 : Int) < x := by
          rcases hbad with h | h | h
          · cases h
          · exact absurd h hx
          · exact h
        clear hbad
        go_enter Tryz.func109, Tryz.ntmps109
        go_wp2_with (first
          | (go_at_call 68; refine (HN.out _ HB0.out.frm).mono ?_; rintro e w1 ⟨a1, c1, rfl, hr1, hf1⟩; have HB1 := Lib.hid ((HB0.out.keep hf1).put (.slice a1 L1 c1) (.bool false)); obtain ⟨y0, y1, y2, y3, y4⟩ := (HB0.out.keep hf1).facts; clear hr1 hf1)
          | (go_at_call 61; go_loud (refine (rbad_any _).mono ?_); rintro e w2 ⟨rfl, hf2⟩; clear y0 y1 y2 y3 y4; have HB2 := Lib.hid (HB1.out.keep hf2); have z0 := free_at' HB2.out.res 0; have z1 := free_at' HB2.out.res 1; have z2 := lt_of_block HB2.out.res; have z3 := cell_at' HB2.out.res 0 rfl; have z4 := cell_at' HB2.out.res 1 rfl; clear hf2))
        clear z0 z1 z2 z3 z4
        have hr := res2 HB2.out.res HB2.out.frm (Nat.le_succ _) (.slice none 0 0) (.bool true)
        have y0 := cell_at' hr.1 0 rfl
        have y1 := cell_at' hr.1 1 rfl
        exact bodyPost_ret (v := .tuple #[.int .i64 0, .agg #[.slice none 0 0, .bool true]]) (by simp [results, Tryz.results109, go_sem, y0, y1]) rfl (FIN.out _ hr.2.1)
  cases s1 with
  | none => exact bads h2.1 h2.2 (.inl rfl)
  | some r =>
    rcases h2 with ⟨hx0, hxl, rfl, rfl⟩ | ⟨hb, h3, h4⟩
    · clear bads
      obtain ⟨n, rfl⟩ := Int.eq_ofNat_of_zero_le hx0
      have HH0 := Lib.hid h0; clear h0
      have FIN := Lib.hid (fun a c w' (hr : RIn w0 w' (.slice a r.length c) (some r)) (f : Frm NoS w w') => (⟨a, c, rfl, hr, f⟩ : RPost w0 w (.int .i64 ((n : Int).toNat : Int)) (some r) (.returned (.tuple #[.int .i64 n, .agg #[.slice a r.length c, .bool false]])) w'))
      have hsh : (leftOf (some r)).length = r.length := rfl
      simp only [leftOf, Option.isNone] at HN
      generalize hR : r.length = R1 at *
      have HR := Lib.hid hR; clear hR hsh
      go_enter Tryz.func109, Tryz.ntmps109
      go_wp2_with (go_at_call 68; refine (HN.out _ HB0.out.frm).mono ?_; rintro e w1 ⟨a1, c1, rfl, hr1, hf1⟩; have HB1 := Lib.hid ((HB0.out.keep hf1).put (.slice a1 R1 c1) (.bool false)); obtain ⟨y0, y1, y2, y3, y4⟩ := (HB0.out.keep hf1).facts; have HR1 := Lib.hid hr1; clear hr1 hf1)
      clear y0 y1 y2 y3 y4
      have hts := two_set w1 w.heap.size (.slice a1 R1 c1) (.bool false)
      generalize (w1.setCell ⟨w.heap.size, 0, none⟩ (.slice a1 R1 c1)).setCell ⟨w.heap.size, 1, none⟩ (.bool false) = W1 at *
      have HRI := Lib.hid (HR1.out.keep hts fun k hk hs => by have hs : k = w.heap.size := hs; have := HH0.out; omega); clear hts
      obtain ⟨y0, y1, y2, y3, y4⟩ := HB1.out.facts
      have z0 := free_at' HB1.out.res 0
      have z1 := free_at' HB1.out.res 1
      have z2 := lt_of_block HB1.out.res
      have z3 := cell_at' HB1.out.res 0 rfl
      have z4 := cell_at' HB1.out.res 1 rfl
      go_region
      all_goals
        clear y0 y1 y2 y3 y4 z0 z1 z2 z3 z4
        have hr := res2 HB1.out.res HB1.out.frm (Nat.le_succ _) (.slice a1 R1 c1) (.bool false)
        have hts := two_set W1 (w.heap.size + 1) (.slice a1 R1 c1) (.bool false)
        have y0 := cell_at' hr.1 0 rfl
        have y1 := cell_at' hr.1 1 rfl
        go_wp2
        exact bodyPost_ret (v := .tuple #[.int .i64 n, .agg #[.slice a1 R1 c1, .bool false]]) (by simp [results, Tryz.results109, go_sem, y0, y1]) rfl (FIN.out _ _ _ ((HRI.out.keep hts fun k hk hs => by have hs : k = w.heap.size + 1 := hs; have := HH0.out; omega).keep0 (Frm.drew NoS _)) (hr.2.1.then1 (Frm.drew NoS _)))
    · exact bads h3 h4 (.inr hb)
end Go.Proofs.YtafdclkpeomomaaGreat

/- tributaryref16: how a step of the reference's In turns memory; ToCtx: the walk. -/
namespace Go.Proofs.YtafdclkpeomomaaGreat
open Go.RowKit

theorem CntStep.total (st : Option (List UInt8)) (m : Int) : ∃ n st', CntStep st m n st' := by
  obtain ⟨v, s1, h1⟩ := NumStep.total st m
  cases s1 with
  | none => exact ⟨0, none, v, none, h1, rfl, rfl⟩
  | some r =>
    by_cases h : 0 ≤ v ∧ v ≤ r.length
    · exact ⟨v.toNat, some r, v, some r, h1, .inl ⟨h.1, h.2, rfl, rfl⟩⟩
    · exact ⟨0, none, v, some r, h1, .inr ⟨by omega, rfl, rfl⟩⟩
/-- The In's box (w's first new block) and a block that is filled, in a world behind wr. -/
structure Stg (w0 w wr W : World) (B : Nat) (T : TypeId) (cs : Array Value) (v : Value) (t : Option (List UInt8)) : Prop where
  rin : RIn w0 W v t
  box : W.heap[w.heap.size]? = some (.cells #[v, .bool t.isNone] 42 (0, 0))
  blk : W.heap[B]? = some (.cells cs T (0, 0))
  frm : Frm (Only w.heap.size) wr W
  new : wr.heap.size ≤ B
  old : w.heap.size < wr.heap.size
  h0 : w0.heap.size ≤ w.heap.size
section
variable {w0 w wr W W1 : World} {B : Nat} {T : TypeId} {cs : Array Value} {v v' : Value} {t t' : Option (List UInt8)}
theorem Stg.call (h : Stg w0 w wr W B T cs v t) (f : Frm NoS W W1) : Stg w0 w wr W1 B T cs v t :=
  ⟨h.rin.keep0 f, f.blk h.box id, f.blk h.blk id, h.frm.trans f fun _ _ s => s.elim, h.new, h.old, h.h0⟩
theorem Stg.put (h : Stg w0 w wr W B T cs v t) (hr : RIn w0 W v' t') : Stg w0 w wr ((W.setCell ⟨w.heap.size, 0, none⟩ v').setCell ⟨w.heap.size, 1, none⟩ (.bool t'.isNone)) B T cs v' t' :=
  have f := two_set W w.heap.size v' (.bool t'.isNone)
  ⟨hr.keep f fun k hk hs => (by have hs : k = w.heap.size := hs; have := h.h0; omega), set_at' (set_at' h.box 0 v') 1 _, f.blk h.blk fun hs => (by have hs : B = w.heap.size := hs; have := h.new; have := h.old; omega), h.frm.trans f fun _ _ s => s, h.new, h.old, h.h0⟩
theorem Stg.fld (h : Stg w0 w wr W B T cs v t) (j : Nat) (x : Value) : Stg w0 w wr (W.setCell ⟨B, j, none⟩ x) B T (cs.setIfInBounds j x) v t :=
  have f := only_set W B j x
  have ne : w.heap.size ≠ B := by have := h.new; have := h.old; omega
  ⟨h.rin.keep f fun k hk hs => (by have hs : k = B := hs; have := h.h0; have := h.new; have := h.old; omega), f.blk h.box ne, set_at' h.blk j x, h.frm.trans f fun i hi hs => (by have hs : i = B := hs; have := h.new; omega), h.new, h.old, h.h0⟩
theorem Stg.facts (h : Stg w0 w wr W B T cs v t) : W.cell? ⟨w.heap.size, 0, none⟩ = some v ∧ W.cell? ⟨w.heap.size, 1, none⟩ = some (.bool t.isNone) ∧ W.frozen? ⟨w.heap.size, 0, none⟩ = false ∧ W.frozen? ⟨w.heap.size, 1, none⟩ = false ∧ w.heap.size < W.heap.size ∧ B < W.heap.size ∧ ¬ B = w.heap.size ∧ ¬ w.heap.size = B :=
  ⟨cell_at' h.box 0 rfl, cell_at' h.box 1 rfl, free_at' h.box 0, free_at' h.box 1, lt_of_block h.box, lt_of_block h.blk, by have := h.new; have := h.old; omega, by have := h.new; have := h.old; omega⟩
theorem Stg.next (h : Stg w0 w wr W B T cs v t) (f : Frm NoS W W1) (hr : RIn w0 W1 v' t') (j : Nat) (x : Value) :
    Stg w0 w wr (((W1.setCell ⟨B, j, none⟩ x).setCell ⟨w.heap.size, 0, none⟩ v').setCell ⟨w.heap.size, 1, none⟩ (.bool t'.isNone)) B T (cs.setIfInBounds j x) v' t' :=
  ((h.call f).fld j x).put (hr.keep (only_set W1 B j x) fun k hk hs => (by have hs : k = B := hs; have := h.h0; have := h.new; have := h.old; omega))
theorem Stg.free (h : Stg w0 w wr W B T cs v t) (j : Nat) : W.frozen? ⟨B, j, none⟩ = false := free_at' h.blk j
end
/-- A context that is being read. -/
structure ToC (w0 w W : World) (s1 : Option (List UInt8)) (k : Nat) (cv : Value) (cs : CtxL) (s : Option (List UInt8)) : Prop where
  run : SpRun bdR s1 k cs s
  box : ∃ a l, RIn w0 W (.slice a (leftOf s).length l) s ∧ Box2 w W (.slice a (leftOf s).length l) (.bool s.isNone) #[.slice none 0 0, .bool false] 42
  own : W.ownsRow 0 107 3 cv k (spC cs)
  new : ∀ b, cv.ownBlock = some b → w.heap.size + 1 + 1 ≤ b
theorem ToC.next {w0 w WO W w6 : World} {s1 t0 t3 : Option (List UInt8)} {k : Nat} {cv cv' : Value} {cs : CtxL} {B : Nat} {T : TypeId} {cs8 : Array Value} {al : Option Addr} {cl : Nat} {d a b : Int} (h : ToC w0 w WO s1 k cv cs t0) (hs : Stg w0 w WO W B T cs8 (.slice al (leftOf t3).length cl) t3) (hsp : SpStep bdR t0 (d, a, b) t3)
    (own6 : w6.ownsRow 0 107 3 cv' (k + 1) (spC cs ++ [.int .i64 d, .int .i64 a, .int .i64 b])) (fm6 : Frm (RowS cv) W w6) (fr6 : Fresh W cv cv') : ToC w0 w w6 s1 (k + 1) cv' (cs ++ [(d, a, b)]) t3 := by
  obtain ⟨a2, c2, _, hb2⟩ := h.box
  have hr : W.heap[w.heap.size + 1]? = some (.cells #[.slice none 0 0, .bool false] 42 (0, 0)) := hs.frm.blk hb2.res fun e => by have e : w.heap.size + 1 = w.heap.size := e; omega
  have hlt := lt_of_block hr
  have n0 : ¬ RowS cv w.heap.size := fun e => by have := h.new _ e; omega
  have n1 : ¬ RowS cv (w.heap.size + 1) := fun e => by have := h.new _ e; omega
  refine ⟨.snoc h.run hsp, ⟨al, cl, hs.rin.keep fm6 fun j hj e => (by have := h.new j e; have := hs.h0; omega), fm6.blk hs.box n0, fm6.blk hr n1, ?_⟩, by rw [← spC_snoc]; exact own6, fun j hj => ?_⟩
  · exact (hb2.frm.trans hs.frm fun i hi e => by have e : i = w.heap.size := e; omega).trans fm6 fun i hi e => by have := h.new i e; omega
  · rcases fr6 j hj with e | e
    · exact h.new j e
    · omega
theorem ToC.done {w0 w W w' : World} {s1 s : Option (List UInt8)} {k : Nat} {cv : Value} {cs : CtxL} (h : ToC w0 w W s1 k cv cs s) (f : Frm (Only (w.heap.size + 1)) W w') : RdQ (fun b => w.heap.size ≤ b) w' cv cs.length (spC cs) := by
  rw [h.run.len]
  exact ⟨Rd.own (f.owns h.own fun j hj e => by have e : j = w.heap.size + 1 := e; have := h.new j hj; omega), fun _ j hj => by have := h.new j hj; omega⟩
def ToCtxPost (w0 w : World) (c : CtxL) (s : Option (List UInt8)) (e : Ending) (w' : World) : Prop :=
  ∃ cv a l, e = .returned (.tuple #[cv, .agg #[.slice a (leftOf s).length l, .bool s.isNone]]) ∧ RdQ (fun b => w.heap.size ≤ b) w' cv c.length (spC c) ∧ RIn w0 w' (.slice a (leftOf s).length l) s ∧ Frm NoS w w'
set_option maxHeartbeats 8000000 in
set_option maxRecDepth 1000000 in
theorem r16ToCtx_at {w0 : World} {v : Value} {st s : Option (List UInt8)} {c : CtxL} (w : World) (h : RIn w0 w v st) (h0 : w0.heap.size ≤ w.heap.size) (hc : CtxRes st c s) (hl : (leftOf st).length ≤ 60000) :
    Calls Tryz.prog 60 #[.agg #[v, .bool st.isNone]] w (ToCtxPost w0 w c s) := by
  obtain ⟨i0, hi, hz0, hz1, hz2⟩ := info_parts info_span
  obtain ⟨n, s1, hcnt⟩ := CntStep.total st 9223372036854775807
  have hn6 : n ≤ 60000 := by have := hcnt.left; omega
  obtain ⟨a0, c0, rfl⟩ := h.shape
  have HB0 := Lib.hid (Box2.start w (.slice a0 (leftOf st).length c0) (.bool st.isNone) #[.slice none 0 0, .bool false] 42)
  have HM := Lib.hid (fun W (f : Frm NoS w W) => many_at W (h.keep0 f) (Nat.le_trans h0 f.size) hcnt)
  unfold RPost at HM
  have HH0 := Lib.hid h0; clear h0
  have HCNT := Lib.hid hcnt; clear hcnt
  have HC := Lib.hid hc; clear hc
  have HL := Lib.hid hl; clear hl
  clear h
  generalize st.isNone = bd at *
  generalize hLL : (leftOf st).length = L0 at *
  have HLL := Lib.hid hLL; clear hLL
  generalize hL1 : (leftOf s1).length = L1 at *
  generalize hb1 : s1.isNone = b1 at *
  have HL1 := Lib.hid hL1; clear hL1
  have HBD1 := Lib.hid hb1; clear hb1
  go_enter Tryz.func60, Tryz.ntmps60
  go_wp2_with (go_at_call 109; refine (HM.out _ HB0.out.frm).mono ?_; rintro e w1 ⟨a1, c1, rfl, hr1, hf1⟩; have HB1 := Lib.hid ((HB0.out.keep hf1).put (.slice a1 L1 c1) (.bool b1)); obtain ⟨y0, y1, y2, y3, y4⟩ := (HB0.out.keep hf1).facts; have HR1 := Lib.hid hr1; clear hr1 hf1)
  go_loopw [4, 14] (fun cv i W => ∃ (k : Nat) (cs : CtxL) (s : Option (List UInt8)), k ≤ n ∧ i = .int .i64 k ∧ ToC w0 w W s1 k cv cs s) (fun _ i _ => n - (intOf i).toNat)
  case atStart =>
    have e1 := HL1.out
    have e2 := HBD1.out
    subst e1 e2
    exact ⟨0, [], s1, Nat.zero_le _, rfl, .zero, ⟨a1, c1, HR1.out.keep (two_set _ _ _ _) (fun k hk hs => by have hs : k = w.heap.size := hs; have := HH0.out; omega), HB1.out⟩, World.ownsRow_nil _ 0 _ 3, fun b hb => by simp [Value.ownBlock] at hb⟩
  case round =>
    clear HB1 HR1 y0 y1 y2 y3 y4
    obtain ⟨k, cs, t0, hk, rfl, htc⟩ := hrel
    obtain ⟨aV, cV, rfl⟩ := (Rd.own htc.own).sl
    have HTC := Lib.hid htc; clear htc
    by_cases hlt : k < n
    · obtain ⟨d, a, b, t1, t2, t3, g1, g2, g3⟩ := SpStep.total bdR t0
      obtain ⟨a2, c2, hr2, hb2⟩ := HTC.out.box
      have hstg : ∀ (WA : World) , Frm NoS wr WA → WA.heap[wr.heap.size]? = some (.cells #[.int .i64 0, .int .i64 0, .int .i64 0] 161 (0, 0)) → Stg w0 w wr WA wr.heap.size 161 #[.int .i64 0, .int .i64 0, .int .i64 0] (.slice a2 (leftOf t0).length c2) t0 :=
        fun WA f hB => ⟨hr2.keep0 f, f.blk hb2.box id, hB, f.mono fun _ _ s => s.elim, Nat.le_refl _, lt_of_block hb2.box, HH0.out⟩
      have HSTG := Lib.hid hstg; clear hstg
      have HFR := Lib.hid hb2.frm
      obtain ⟨y0, y1, y2, y3, y4⟩ := hb2.facts
      clear hr2 hb2
      have HG1 := Lib.hid (fun W a l (hs : RIn w0 W (.slice a (leftOf t0).length l) t0) => rnum_at hs g1 (by decide) (by decide))
      have HG2 := Lib.hid (fun W a l (hs : RIn w0 W (.slice a (leftOf t1).length l) t1) => rnum_at hs g2 (by decide) (by decide))
      have HG3 := Lib.hid (fun W a l (hs : RIn w0 W (.slice a (leftOf t2).length l) t2) => rnum_at hs g3 (by decide) (by decide))
      have HSP := Lib.hid (show SpStep bdR t0 (d, a, b) t3 from ⟨t1, t2, g1, g2, g3⟩)
      unfold RPost at HG1 HG2 HG3
      simp only [bdR] at HG1 HG2 HG3
      clear g1 g2 g3
      have HAL := Lib.hid (heap_alloc_new wr (.cells #[.int .i64 0, .int .i64 0, .int .i64 0] 161))
      obtain ⟨WO, hWO⟩ : ∃ W, W = wr := ⟨wr, rfl⟩
      subst hWO
      go_wp2
      go_loopw [16] (fun j W => ∃ (J : Nat) (x y z : Int) (t : Option (List UInt8)) (al : Option Addr) (cl : Nat), ((J = 0 ∧ x = 0 ∧ y = 0 ∧ z = 0 ∧ t = t0) ∨ (J = 1 ∧ x = d ∧ y = 0 ∧ z = 0 ∧ t = t1) ∨ (J = 2 ∧ x = d ∧ y = a ∧ z = 0 ∧ t = t2) ∨ (J = 3 ∧ x = d ∧ y = a ∧ z = b ∧ t = t3)) ∧ j = .int .i64 J ∧ Stg w0 w WO W WO.heap.size 161 #[.int .i64 x, .int .i64 y, .int .i64 z] (.slice al (leftOf t).length cl) t) (fun j _ => 3 - (intOf j).toNat)
      case atStart => exact ⟨0, 0, 0, 0, t0, a2, c2, .inl ⟨rfl, rfl, rfl, rfl, rfl⟩, rfl, HSTG.out _ (Frm.alloc _ _ _) HAL.out⟩
      case round =>
        clear y0 y1 y2 y3
        obtain ⟨J, x, y, z, t, al, cl, hcase, rfl, hs⟩ := hrel
        rcases hcase with ⟨rfl, rfl, rfl, rfl, rfl⟩ | ⟨rfl, rfl, rfl, rfl, rfl⟩ | ⟨rfl, rfl, rfl, rfl, rfl⟩ | ⟨rfl, rfl, rfl, rfl, rfl⟩
        · have HC1 := Lib.hid (HG1.out wr al cl hs.rin)
          obtain ⟨y0, y1, -⟩ := hs.facts
          have HS := Lib.hid hs; clear hs HG1 HG2 HG3 HSTG
          generalize (leftOf t).length = Lx at *
          generalize t.isNone = bx at *
          generalize hly : (leftOf t1).length = Ly at *
          generalize hby : t1.isNone = by' at *
          have HLY := Lib.hid hly; clear hly
          have HBY := Lib.hid hby; clear hby
          go_wp2_with (go_at_call 68; refine HC1.out.mono ?_; rintro e W1 ⟨a5, c5, rfl, hr5, hf5⟩; clear y0 y1; obtain ⟨z0, z1, z2, z3, z4, z5, z6, z7⟩ := (HS.out.call hf5).facts; have z8 := (HS.out.call hf5).free 0; have z9 := cell_at' (HS.out.call hf5).blk 0 rfl; have HF5 := Lib.hid hf5; have HR5 := Lib.hid hr5; clear hf5 hr5)
          go_roundw
          case rel =>
            have e1 := HLY.out
            have e2 := HBY.out
            subst e1 e2
            exact ⟨1, d, 0, 0, t1, a5, c5, .inr (.inl ⟨rfl, rfl, rfl, rfl, rfl⟩), by go_num, HS.out.next HF5.out HR5.out 0 (.int .i64 d)⟩
          case measure => simp [intOf]
        · have HC1 := Lib.hid (HG2.out wr al cl hs.rin)
          obtain ⟨y0, y1, -⟩ := hs.facts
          have HS := Lib.hid hs; clear hs HG1 HG2 HG3 HSTG
          generalize (leftOf t).length = Lx at *
          generalize t.isNone = bx at *
          generalize hly : (leftOf t2).length = Ly at *
          generalize hby : t2.isNone = by' at *
          have HLY := Lib.hid hly; clear hly
          have HBY := Lib.hid hby; clear hby
          go_wp2_with (go_at_call 68; refine HC1.out.mono ?_; rintro e W1 ⟨a5, c5, rfl, hr5, hf5⟩; clear y0 y1; obtain ⟨z0, z1, z2, z3, z4, z5, z6, z7⟩ := (HS.out.call hf5).facts; have z8 := (HS.out.call hf5).free 1; have z9 := cell_at' (HS.out.call hf5).blk 1 rfl; have HF5 := Lib.hid hf5; have HR5 := Lib.hid hr5; clear hf5 hr5)
          go_roundw
          case rel =>
            have e1 := HLY.out
            have e2 := HBY.out
            subst e1 e2
            exact ⟨2, x, a, 0, t2, a5, c5, .inr (.inr (.inl ⟨rfl, rfl, rfl, rfl, rfl⟩)), by go_num, HS.out.next HF5.out HR5.out 1 (.int .i64 a)⟩
          case measure => simp [intOf]
        · have HC1 := Lib.hid (HG3.out wr al cl hs.rin)
          obtain ⟨y0, y1, -⟩ := hs.facts
          have HS := Lib.hid hs; clear hs HG1 HG2 HG3 HSTG
          generalize (leftOf t).length = Lx at *
          generalize t.isNone = bx at *
          generalize hly : (leftOf t3).length = Ly at *
          generalize hby : t3.isNone = by' at *
          have HLY := Lib.hid hly; clear hly
          have HBY := Lib.hid hby; clear hby
          go_wp2_with (go_at_call 68; refine HC1.out.mono ?_; rintro e W1 ⟨a5, c5, rfl, hr5, hf5⟩; clear y0 y1; obtain ⟨z0, z1, z2, z3, z4, z5, z6, z7⟩ := (HS.out.call hf5).facts; have z8 := (HS.out.call hf5).free 2; have z9 := cell_at' (HS.out.call hf5).blk 2 rfl; have HF5 := Lib.hid hf5; have HR5 := Lib.hid hr5; clear hf5 hr5)
          go_roundw
          case rel =>
            have e1 := HLY.out
            have e2 := HBY.out
            subst e1 e2
            exact ⟨3, x, y, b, t3, a5, c5, .inr (.inr (.inr ⟨rfl, rfl, rfl, rfl, rfl⟩)), by go_num, HS.out.next HF5.out HR5.out 2 (.int .i64 b)⟩
          case measure => simp [intOf]
        · have z0 := cell_at' hs.blk 0 rfl
          have z1 := cell_at' hs.blk 1 rfl
          have z2 := cell_at' hs.blk 2 rfl
          have hown := hs.frm.owns HTC.out.own fun j hj e => by have e : j = w.heap.size := e; have := HTC.out.new j hj; omega
          have HOWN := Lib.hid hown; clear hown
          have HS := Lib.hid hs; clear hs HG1 HG2 HG3 HSTG
          go_wp2_with (at_builtin; go_loud (refine wpList_app1 wr [.int .i64 x, .int .i64 y, .int .i64 z] rfl (.tmp 27) (.tmp 35) 27 rfl 107 i0 _ 3 24 Tryz.underlying27 hi hz0 hz1 hz2 (by decide) (by decide) _ _ _ HOWN.out 1 1 rfl rfl rfl ?c1 ?c2 ?c3 ?_))
          case c1 => simp [Value.oneCell']
          case c2 => simp only [maxLen]; omega
          case c3 => omega
          intro ad cc w6 own6 fm6 fr6
          have HTC6 := Lib.hid (HTC.out.next HS.out HSP.out own6 fm6 fr6)
          clear own6 fm6 fr6 z0 z1 z2
          go_wp2
          go_roundw
          case rel => exact ⟨k + 1, _, _, by omega, by go_num, HTC6.out⟩
          case measure => simp [intOf]; omega
    · obtain rfl : n = k := by omega
      obtain ⟨a2, c2, hr2, hb2⟩ := HTC.out.box
      have hlen := HTC.out.run.len
      have e0 := HLL.out
      have hlm : ((leftOf st).length : Int) ≤ 9223372036854775807 := by have := HL.out; omega
      have hok := SpRun.fits HTC.out.run
      have hCR := fun (W : World) (f : Frm (Only (w.heap.size + 1)) wr W) => r7Right_any W (.slice aV n cV) cs (by have h := (HTC.out.done f).rd; rw [hlen] at h; unfold CtxAt; rw [hlen]; exact h) hok (by omega)
      have HCR := Lib.hid (hCR wr (Frm.refl _ _)); clear hCR hok
      have HR2 := Lib.hid hr2; clear hr2
      obtain ⟨y0, y1, y2, y3, y4⟩ := hb2.facts
      have HB9 := Lib.hid hb2; clear hb2
      cases t0 with
      | none =>
        obtain ⟨rfl, rfl⟩ := HC.out.det (ctx_bad bdR_ok wideR (M := 9223372036854775807) (by decide) hlm HCNT.out HTC.out.run (.inl rfl))
        clear hlm e0 hlen
        go_wp2_with (go_at_call 61; go_loud (refine (rbad_any _).mono ?_); rintro e w2 ⟨rfl, hf2⟩; clear y0 y1 y2 y3 y4; have HB2 := Lib.hid (HB9.out.keep hf2); have z0 := free_at' HB2.out.res 0; have z1 := free_at' HB2.out.res 1; have z2 := lt_of_block HB2.out.res; have z3 := cell_at' HB2.out.res 0 rfl; have z4 := cell_at' HB2.out.res 1 rfl; clear hf2)
        clear z0 z1 z2 z3 z4
        have hr9 := res2 HB2.out.res HB2.out.frm (Nat.le_succ _) (.slice none 0 0) (.bool true)
        have y0 := cell_at' hr9.1 0 rfl
        have y1 := cell_at' hr9.1 1 rfl
        exact bodyPost_ret (v := .tuple #[.slice none 0 0, .agg #[.slice none 0 0, .bool true]]) (by simp [results, Tryz.results60, go_sem, y0, y1]) rfl ⟨_, none, 0, rfl, ⟨.inl ⟨none, rfl, rfl, rfl⟩, fun h => absurd rfl h⟩, RIn.bad w0 _, hr9.2.1⟩
      | some r =>
        by_cases hr : RightC cs
        · rw [tf_true hr] at HCR
          obtain ⟨rfl, rfl⟩ := HC.out.det (ctx_good HCNT.out HTC.out.run hr)
          clear hr hlm e0 hlen
          simp only [leftOf, Option.isNone] at y0 y1
          go_wp2_with (go_at_call 32; go_loud (refine HCR.out.mono ?_); rintro e w2 ⟨rfl, hf2⟩; have HF2 := Lib.hid hf2; clear y0 y1 y2 y3 y4; have HB2 := Lib.hid (HB9.out.keep hf2); obtain ⟨y0, y1, y2, y3, y4⟩ := HB2.out.facts; have z0 := free_at' HB2.out.res 0; have z1 := free_at' HB2.out.res 1; have z2 := lt_of_block HB2.out.res; have z3 := cell_at' HB2.out.res 0 rfl; have z4 := cell_at' HB2.out.res 1 rfl; clear hf2)
          simp only [leftOf, Option.isNone] at y0 y1
          go_region
          all_goals
            clear y0 y1 y2 y3 y4 z0 z1 z2 z3 z4
            have hr9 := res2 HB2.out.res HB2.out.frm (Nat.le_succ _) (.slice a2 r.length c2) (.bool false)
            have hts := two_set w2 (w.heap.size + 1) (.slice a2 r.length c2) (.bool false)
            have y0 := cell_at' hr9.1 0 rfl
            have y1 := cell_at' hr9.1 1 rfl
            go_wp2
            exact bodyPost_ret (v := .tuple #[.slice aV n cV, .agg #[.slice a2 r.length c2, .bool false]]) (by simp [results, Tryz.results60, go_sem, y0, y1]) rfl
              ⟨_, a2, c2, rfl, HTC.out.done (((HF2.out.mono fun _ _ s => s.elim).trans hts fun _ _ s => s).then1 (Frm.drew NoS _)), ((HR2.out.keep0 HF2.out).keep hts fun k hk hs => by have hs : k = w.heap.size + 1 := hs; have := HH0.out; omega).keep0 (Frm.drew NoS _), hr9.2.1.then1 (Frm.drew NoS _)⟩
        · rw [tf_false hr] at HCR
          obtain ⟨rfl, rfl⟩ := HC.out.det (ctx_bad bdR_ok wideR (M := 9223372036854775807) (by decide) hlm HCNT.out HTC.out.run (.inr hr))
          clear hr hlm e0 hlen
          simp only [leftOf, Option.isNone] at y0 y1
          go_wp2_with (first
            | (go_at_call 32; go_loud (refine HCR.out.mono ?_); rintro e w8 ⟨rfl, hf8⟩; clear y0 y1 y2 y3 y4; have HB8 := Lib.hid (HB9.out.keep hf8); obtain ⟨y0, y1, y2, y3, y4⟩ := HB8.out.facts; clear hf8)
            | (go_at_call 61; go_loud (refine (rbad_any _).mono ?_); rintro e w2 ⟨rfl, hf2⟩; clear y0 y1 y2 y3 y4; have HB2 := Lib.hid (HB8.out.keep hf2); have z0 := free_at' HB2.out.res 0; have z1 := free_at' HB2.out.res 1; have z2 := lt_of_block HB2.out.res; have z3 := cell_at' HB2.out.res 0 rfl; have z4 := cell_at' HB2.out.res 1 rfl; clear hf2))
          clear z0 z1 z2 z3 z4
          have hr9 := res2 HB2.out.res HB2.out.frm (Nat.le_succ _) (.slice none 0 0) (.bool true)
          have y0 := cell_at' hr9.1 0 rfl
          have y1 := cell_at' hr9.1 1 rfl
          exact bodyPost_ret (v := .tuple #[.slice none 0 0, .agg #[.slice none 0 0, .bool true]]) (by simp [results, Tryz.results60, go_sem, y0, y1]) rfl ⟨_, none, 0, rfl, ⟨.inl ⟨none, rfl, rfl, rfl⟩, fun h => absurd rfl h⟩, RIn.bad w0 _, hr9.2.1⟩
end Go.Proofs.YtafdclkpeomomaaGreat

/- tributaryref16: tree: the walk. Printed by wip/r16treegen.py. -/
namespace Go.Proofs.YtafdclkpeomomaaGreat
open Go.RowKit

section
variable {w0 w wr W W1 : World} {B : Nat} {T : TypeId} {cs : Array Value} {v v' : Value} {t t' : Option (List UInt8)} {b : Bool}
theorem Stg.facts1 (h : Stg w0 w wr W B T cs v t) (hb : t.isNone = b) : W.cell? ⟨w.heap.size, 0, none⟩ = some v ∧ W.cell? ⟨w.heap.size, 1, none⟩ = some (.bool b) ∧ W.frozen? ⟨w.heap.size, 0, none⟩ = false ∧ W.frozen? ⟨w.heap.size, 1, none⟩ = false ∧ w.heap.size < W.heap.size ∧ B < W.heap.size ∧ ¬ B = w.heap.size ∧ ¬ w.heap.size = B := by
  subst hb; exact h.facts
theorem Stg.put1 (h : Stg w0 w wr W B T cs v t) (hr : RIn w0 W v' t') (hb : t'.isNone = b) : Stg w0 w wr ((W.setCell ⟨w.heap.size, 0, none⟩ v').setCell ⟨w.heap.size, 1, none⟩ (.bool b)) B T cs v' t' := by
  subst hb; exact h.put hr
theorem Stg.next1 (h : Stg w0 w wr W B T cs v t) (f : Frm NoS W W1) (hr : RIn w0 W1 v' t') (hb : t'.isNone = b) (j : Nat) (x : Value) :
    Stg w0 w wr (((W1.setCell ⟨B, j, none⟩ x).setCell ⟨w.heap.size, 0, none⟩ v').setCell ⟨w.heap.size, 1, none⟩ (.bool b)) B T (cs.setIfInBounds j x) v' t' := by
  subst hb; exact h.next f hr j x
theorem Stg.next2 (h : Stg w0 w wr W B T cs v t) (f : Frm NoS W W1) (hr : RIn w0 W1 v' t') (hb : t'.isNone = b) (x y : Value) :
    Stg w0 w wr ((((W1.setCell ⟨B, 1, none⟩ x).setCell ⟨B, 2, none⟩ y).setCell ⟨w.heap.size, 0, none⟩ v').setCell ⟨w.heap.size, 1, none⟩ (.bool b)) B T ((cs.setIfInBounds 1 x).setIfInBounds 2 y) v' t' := by
  subst hb
  have g : ∀ (W : World) (j : Nat) (u : Value), RIn w0 W v' t' → RIn w0 (W.setCell ⟨B, j, none⟩ u) v' t' := fun W j u hr => hr.keep (only_set W B j u) fun k hk hs => (by have hs : k = B := hs; have := h.h0; have := h.new; have := h.old; omega)
  exact (((h.call f).fld 1 x).fld 2 y).put (g _ 2 y (g _ 1 x hr))
theorem Stg.cell (h : Stg w0 w wr W B T cs v t) (j : Nat) {u : Value} (hu : cs[j]? = some u) : W.cell? ⟨B, j, none⟩ = some u := cell_at' h.blk j hu
end
/-- The In's box, and the two results' blocks. -/
structure TrS (w0 w W : World) (s : Option (List UInt8)) : Prop where
  box : ∃ a l, RIn w0 W (.slice a (leftOf s).length l) s ∧ W.heap[w.heap.size]? = some (.cells #[.slice a (leftOf s).length l, .bool s.isNone] 42 (0, 0))
  r1 : W.heap[w.heap.size + 1]? = some (.cells #[.slice none 0 0, .slice none 0 0] 25 (0, 0))
  r2 : W.heap[w.heap.size + 1 + 1]? = some (.cells #[.slice none 0 0, .bool false] 42 (0, 0))
  h0 : w0.heap.size ≤ w.heap.size
/-- The blocks beside the tree that is made. -/
def XT (w : World) (k : Nat) : Prop := k = w.heap.size ∨ k = w.heap.size + 1 ∨ k = w.heap.size + 1 + 1
abbrev GT (w W : World) (es : List Ent) (l : List KidQ) (ev kv : Value) : Prop := GetAt NoS (XT w) w W (w.heap.size + 1 + 1 + 1) es l ev kv
theorem TrS.keep {w0 w W W' : World} {s : Option (List UInt8)} (h : TrS w0 w W s) (f : Frm NoS W W') : TrS w0 w W' s := by
  obtain ⟨a, l, h1, h2⟩ := h.box
  exact ⟨⟨a, l, h1.keep0 f, f.blk h2 id⟩, f.blk h.r1 id, f.blk h.r2 id, h.h0⟩
/-- Behind a step, and a store into the tree that is made. -/
theorem TrS.step {w0 w wr W w6 : World} {B : Nat} {T : TypeId} {cs : Array Value} {a : Option Addr} {cl : Nat} {s t : Option (List UInt8)} {ev : Value} (h : TrS w0 w wr s) (hs : Stg w0 w wr W B T cs (.slice a (leftOf t).length cl) t) (fm : Frm (RowS ev) W w6)
    (hn : ∀ b, ev.ownBlock = some b → w.heap.size ≤ b ∧ ¬ XT w b) (j : Nat) (u : Value) : TrS w0 w (w6.setCell ⟨w.heap.size + 1 + 1 + 1, j, none⟩ u) t := by
  have hset : Frm (Only (w.heap.size + 1 + 1 + 1)) w6 (w6.setCell ⟨w.heap.size + 1 + 1 + 1, j, none⟩ u) := only_set _ _ _ _
  have nx : ∀ k, XT w k → ¬ RowS ev k := fun k hk e => (hn k e).2 hk
  have ns : ∀ k, XT w k → ¬ Only (w.heap.size + 1 + 1 + 1) k := fun k hk e => by have e : k = w.heap.size + 1 + 1 + 1 := e; rcases hk with hk | hk | hk <;> omega
  have kp : ∀ k o, XT w k → W.heap[k]? = some o → (w6.setCell ⟨w.heap.size + 1 + 1 + 1, j, none⟩ u).heap[k]? = some o := fun k o hk ho => hset.blk (fm.blk ho (nx k hk)) (ns k hk)
  refine ⟨⟨a, cl, (hs.rin.keep fm fun k hk e => ?_).keep hset fun k hk e => ?_, kp _ _ (.inl rfl) hs.box⟩, kp _ _ (.inr (.inl rfl)) (hs.frm.blk h.r1 fun e => ?_), kp _ _ (.inr (.inr rfl)) (hs.frm.blk h.r2 fun e => ?_), h.h0⟩
  · have := (hn k e).1; have := h.h0; omega
  · have e : k = w.heap.size + 1 + 1 + 1 := e; have := h.h0; omega
  · have e : w.heap.size + 1 = w.heap.size := e; omega
  · have e : w.heap.size + 1 + 1 = w.heap.size := e; omega
theorem TrS.put {w0 w W W1 : World} {s s' : Option (List UInt8)} {a : Option Addr} {l L : Nat} {b : Bool} (h : TrS w0 w W s) (f : Frm NoS W W1) (hr : RIn w0 W1 (.slice a L l) s') (hL : (leftOf s').length = L) (hb : s'.isNone = b) :
    TrS w0 w ((W1.setCell ⟨w.heap.size, 0, none⟩ (.slice a L l)).setCell ⟨w.heap.size, 1, none⟩ (.bool b)) s' := by
  subst hL hb
  have f2 := two_set W1 w.heap.size (.slice a (leftOf s').length l) (.bool s'.isNone)
  obtain ⟨a2, l2, _, hb2⟩ := h.box
  refine ⟨⟨a, l, hr.keep f2 fun k hk hs => ?_, set_at' (set_at' (f.blk hb2 id) 0 _) 1 _⟩, f2.blk (f.blk h.r1 id) fun e => ?_, f2.blk (f.blk h.r2 id) fun e => ?_, h.h0⟩
  · have hs : k = w.heap.size := hs; have := h.h0; omega
  · have e : w.heap.size + 1 = w.heap.size := e; omega
  · have e : w.heap.size + 1 + 1 = w.heap.size := e; omega
theorem GT.put {w W W1 : World} {es : List Ent} {l : List KidQ} {ev kv v' : Value} {b : Bool} (h : GT w W es l ev kv) (f : Frm NoS W W1) : GT w ((W1.setCell ⟨w.heap.size, 0, none⟩ v').setCell ⟨w.heap.size, 1, none⟩ (.bool b)) es l ev kv :=
  (GetAt.keep0 h f).keepX ((two_set W1 w.heap.size v' (.bool b)).mono fun k _ hk => .inl hk)
theorem TrS.facts {w0 w W : World} {s : Option (List UInt8)} {b : Bool} {L : Nat} (h : TrS w0 w W s) (hL : (leftOf s).length = L) (hb : s.isNone = b) : ∃ a l, RIn w0 W (.slice a L l) s ∧ W.heap[w.heap.size]? = some (.cells #[.slice a L l, .bool b] 42 (0, 0)) := by
  subst hL hb
  exact h.box
def RTreePost (w0 w : World) (D : Nat) (st : Option (List UInt8)) (e : Ending) (w' : World) : Prop :=
  ∃ ev kv es ks s a l, e = .returned (.tuple #[.agg #[ev, kv], .agg #[.slice a (leftOf s).length l, .bool s.isNone]]) ∧ TreeAt (fun b => w.heap.size ≤ b) w' ev kv es ks ∧ GetRes bdR D st es ks s ∧ RIn w0 w' (.slice a (leftOf s).length l) s ∧ Frm NoS w w'
/-- Four blocks laid one behind the other. -/
theorem four_blocks (w : World) (c0 c1 c2 c3 : Array Value) (T0 T1 T2 T3 : TypeId) (W : World) (hW : W = (((w.alloc (.cells c0 T0)).alloc (.cells c1 T1)).alloc (.cells c2 T2)).alloc (.cells c3 T3)) :
    W.heap[w.heap.size]? = some (.cells c0 T0 (0, 0)) ∧ W.heap[w.heap.size + 1]? = some (.cells c1 T1 (0, 0)) ∧ W.heap[w.heap.size + 1 + 1]? = some (.cells c2 T2 (0, 0)) ∧ W.heap[w.heap.size + 1 + 1 + 1]? = some (.cells c3 T3 (0, 0)) ∧ Frm NoS w W := by
  subst hW
  have h0 := heap_alloc_new w (.cells c0 T0)
  have h1 := heap_alloc_new (w.alloc (.cells c0 T0)) (.cells c1 T1)
  have h2 := heap_alloc_new ((w.alloc (.cells c0 T0)).alloc (.cells c1 T1)) (.cells c2 T2)
  have h3 := heap_alloc_new (((w.alloc (.cells c0 T0)).alloc (.cells c1 T1)).alloc (.cells c2 T2)) (.cells c3 T3)
  have sz : ∀ (u : World) (o : Obj), (u.alloc o).heap.size = u.heap.size + 1 := fun u o => by simp
  simp only [sz] at h1 h2 h3
  exact ⟨(((Frm.alloc NoS _ _).alloc1).alloc1).blk h0 id, ((Frm.alloc NoS _ _).alloc1).blk h1 id, (Frm.alloc NoS _ _).blk h2 id, h3, (((Frm.alloc NoS _ _).alloc1).alloc1).alloc1⟩
theorem TrS.start {w0 w W : World} {a : Option Addr} {l : Nat} {st : Option (List UInt8)} (h : RIn w0 w (.slice a (leftOf st).length l) st) (h0 : w0.heap.size ≤ w.heap.size)
    (hW : W = (((w.alloc (.cells #[.slice a (leftOf st).length l, .bool st.isNone] 42)).alloc (.cells #[.slice none 0 0, .slice none 0 0] 25)).alloc (.cells #[.slice none 0 0, .bool false] 42)).alloc (.cells #[.slice none 0 0, .slice none 0 0] 25)) :
    TrS w0 w W st ∧ GT w W [] [] (.slice none 0 0) (.slice none 0 0) ∧ RIn w0 W (.slice a (leftOf st).length l) st ∧ W.heap[w.heap.size]? = some (.cells #[.slice a (leftOf st).length l, .bool st.isNone] 42 (0, 0)) := by
  obtain ⟨g0, g1, g2, g3, gf⟩ := four_blocks w _ _ _ _ _ _ _ _ W hW
  have xlt : ∀ k, XT w k → k < W.heap.size := fun k hk => by
    rcases hk with hk | hk | hk
    · rw [hk]; exact lt_of_block g0
    · rw [hk]; exact lt_of_block g1
    · rw [hk]; exact lt_of_block g2
  refine ⟨⟨⟨a, l, h.keep0 gf, g0⟩, g1, g2, h0⟩, GetAt.start (fun k hk => hk.elim) (fun k hk => by rcases hk with hk | hk | hk <;> omega) xlt gf g3 (by omega) (fun hk => by rcases hk with hk | hk | hk <;> omega), h.keep0 gf, g0⟩
/-- What is handed out: the results are stored. -/
theorem treeFin {w0 w W W' : World} {es : List Ent} {l : List KidQ} {ev kv : Value} {a : Option Addr} {cl D : Nat} {st s : Option (List UInt8)} (hg : GT w W es l ev kv) (hr : RIn w0 W (.slice a (leftOf s).length cl) s) (h0 : w0.heap.size ≤ w.heap.size) (hres : GetRes bdR D st es (mkK l) s)
    (f : Frm (XT w) W W') : RTreePost w0 w D st (.returned (.tuple #[.agg #[ev, kv], .agg #[.slice a (leftOf s).length cl, .bool s.isNone]])) W' := by
  have nx : ∀ b, w.heap.size ≤ b → ¬ XT w b → ¬ XT w b := fun b _ h => h
  refine ⟨ev, kv, es, mkK l, s, a, cl, rfl, hg.done.turn fun b hb hQ => ⟨f.block b hb hQ.2.1, hQ.1⟩, hres, hr.keep f fun k hk hs => ?_, hg.frm.trans f fun i hi hs => ?_⟩
  · rcases hs with hs | hs | hs <;> omega
  · rcases hs with hs | hs | hs <;> omega
theorem stores4 (w W : World) (x0 x1 y0 y1 : Value) : Frm (XT w) W ((((W.setCell ⟨w.heap.size + 1, 0, none⟩ x0).setCell ⟨w.heap.size + 1, 1, none⟩ x1).setCell ⟨w.heap.size + 1 + 1, 0, none⟩ y0).setCell ⟨w.heap.size + 1 + 1, 1, none⟩ y1) :=
  (((two_set W (w.heap.size + 1) x0 x1).mono fun k _ hk => .inr (.inl hk)).trans ((two_set _ (w.heap.size + 1 + 1) y0 y1).mono fun k _ hk => .inr (.inr hk)) fun _ _ h => h)
theorem stores4_at {w W : World} {x0 x1 y0 y1 : Value} {a b c d : Value} (h1 : W.heap[w.heap.size + 1]? = some (.cells #[a, b] 25 (0, 0))) (h2 : W.heap[w.heap.size + 1 + 1]? = some (.cells #[c, d] 42 (0, 0))) (W' : World)
    (hW : W' = (((W.setCell ⟨w.heap.size + 1, 0, none⟩ x0).setCell ⟨w.heap.size + 1, 1, none⟩ x1).setCell ⟨w.heap.size + 1 + 1, 0, none⟩ y0).setCell ⟨w.heap.size + 1 + 1, 1, none⟩ y1) :
    W'.cell? ⟨w.heap.size + 1, 0, none⟩ = some x0 ∧ W'.cell? ⟨w.heap.size + 1, 1, none⟩ = some x1 ∧ W'.cell? ⟨w.heap.size + 1 + 1, 0, none⟩ = some y0 ∧ W'.cell? ⟨w.heap.size + 1 + 1, 1, none⟩ = some y1 := by
  subst hW
  have g1 := set_at' (set_at' h1 0 x0) 1 x1
  have f1 := two_set W (w.heap.size + 1) x0 x1
  have f2 := two_set ((W.setCell ⟨w.heap.size + 1, 0, none⟩ x0).setCell ⟨w.heap.size + 1, 1, none⟩ x1) (w.heap.size + 1 + 1) y0 y1
  have g2 := f1.blk h2 fun e => by have e : w.heap.size + 1 + 1 = w.heap.size + 1 := e; omega
  have g3 := f2.blk g1 fun e => by have e : w.heap.size + 1 = w.heap.size + 1 + 1 := e; omega
  have g4 := set_at' (set_at' g2 0 y0) 1 y1
  exact ⟨cell_at' g3 0 rfl, cell_at' g3 1 rfl, cell_at' g4 0 rfl, cell_at' g4 1 rfl⟩
set_option maxHeartbeats 16000000 in
set_option maxRecDepth 1000000 in
theorem r16tree_any {w0 : World} : ∀ (D : Nat) (v : Value) (st : Option (List UInt8)) (w : World), D ≤ 5 → RIn w0 w v st → w0.heap.size ≤ w.heap.size → (leftOf st).length ≤ 60000 → Calls Tryz.prog 108 #[.agg #[v, .bool st.isNone], .int .i64 D] w (RTreePost w0 w D st) := by
  intro D
  induction D with
  | zero =>
    intro v st w _ h h0 _
    obtain ⟨a0, c0, rfl⟩ := h.shape
    obtain ⟨WB, hWB⟩ : ∃ W, W = (((w.alloc (.cells #[.slice a0 (leftOf st).length c0, .bool st.isNone] 42)).alloc (.cells #[.slice none 0 0, .slice none 0 0] 25)).alloc (.cells #[.slice none 0 0, .bool false] 42)).alloc (.cells #[.slice none 0 0, .slice none 0 0] 25) := ⟨_, rfl⟩
    obtain ⟨hts, hg, -, -⟩ := TrS.start h h0 hWB
    have HTS := Lib.hid hts; clear hts
    have HG := Lib.hid hg; clear hg
    have HH0 := Lib.hid h0; clear h0
    clear h
    have HZ := Lib.hid (get_zero bdR st [] (mkK []))
    generalize st.isNone = bd at *
    generalize (leftOf st).length = L0 at *
    go_enter Tryz.func108, Tryz.ntmps108
    go_wp2_with fail
    rw [← hWB]
    clear hWB
    refine wp_region_G (S := fun w' => Frm (XT w) WB w' ∧ w'.cell? ⟨w.heap.size + 1 + 1 + 1, 0, none⟩ = some (.slice none 0 0) ∧ w'.cell? ⟨w.heap.size + 1 + 1 + 1, 1, none⟩ = some (.slice none 0 0)) 3 (by kernel_rfl) ⟨(Frm.drew NoS _).mono fun _ _ s => s.elim, cell_at' ((Frm.drew NoS _).blk HG.out.b3 id) 0 rfl, cell_at' ((Frm.drew NoS _).blk HG.out.b3 id) 1 rfl⟩ ?_
    intro hS
    have HFD := Lib.hid (Frm.drew NoS WB)
    generalize WB.drew = Y0 at *
    refine take_opG 0 13 (v := ?_) rfl rfl (by kernel_rfl) (by kernel_rfl) (by decide) (by kernel_rfl) (by kernel_rfl) (fun _ _ _ h => h) (Or.inl ⟨by rfl, ?_⟩) (by assumption) ?_
    rotate_left 1
    · (intro w hSw; (try dsimp only at hSw); go_simp; (try with_reducible rfl))
    try simp only [Act.put, List.setIfInBounds_toArray, List.set_cons_zero, List.set_cons_succ]
    refine one_opG (i := 1) (by kernel_rfl) rfl (fun K hK => ?_)
    go_simp
    refine (rbad_any _).mono ?_
    rintro e1 Y1 ⟨rfl, hf1⟩
    have HF1 := Lib.hid (HFD.out.then1 hf1)
    refine hK.out _ _ ⟨hS.1.trans hf1 fun _ _ s => s.elim, hf1.cell' hS.2.1 id, hf1.cell' hS.2.2 id⟩ ?_
    clear hK K hS hf1
    have g1 := (HTS.out.keep HF1.out).r1
    have g2 := (HTS.out.keep HF1.out).r2
    have x0 := cell_at' g1 0 rfl
    have x1 := cell_at' g1 1 rfl
    have f0 := free_at' g1 0
    have f1 := free_at' g1 1
    have hl1 := lt_of_block g1
    have x2 := cell_at' g2 0 rfl
    have x3 := cell_at' g2 1 rfl
    have f2 := free_at' g2 0
    have f3 := free_at' g2 1
    have hl2 := lt_of_block g2
    have G1 := Lib.hid g1; clear g1
    have G2 := Lib.hid g2; clear g2
    try simp only [Act.put, List.setIfInBounds_toArray, List.set_cons_zero, List.set_cons_succ]
    refine one_opG (i := 2) (by kernel_rfl) rfl (fun K hK => ?_)
    go_simp
    refine hK.out _ _ ⟨(HF1.out.mono fun _ _ s => s.elim).trans ((two_set Y1 (w.heap.size + 1) (.slice none 0 0) (.slice none 0 0)).mono fun k _ hk => .inr (.inl hk)) fun _ _ s => s, (two_set Y1 (w.heap.size + 1) _ _).cell' (HF1.out.cell' (cell_at' HG.out.b3 0 rfl) id) (fun e => by have e : w.heap.size + 1 + 1 + 1 = w.heap.size + 1 := e; omega), (two_set Y1 (w.heap.size + 1) _ _).cell' (HF1.out.cell' (cell_at' HG.out.b3 1 rfl) id) (fun e => by have e : w.heap.size + 1 + 1 + 1 = w.heap.size + 1 := e; omega)⟩ ?_
    clear hK K
    try simp only [Act.put, List.setIfInBounds_toArray, List.set_cons_zero, List.set_cons_succ]
    refine last_opG (by kernel_rfl) (by kernel_rfl) rfl (fun K hK => ?_)
    go_simp
    refine hK.out _ _ ?_
    clear hK K x0 x1 x2 x3 f0 f1 f2 f3 hl1 hl2
    obtain ⟨y0, y1, y2, y3⟩ := stores4_at (x0 := .slice none 0 0) (x1 := .slice none 0 0) (y0 := .slice none 0 0) (y1 := .bool true) G1.out G2.out _ rfl
    go_wp2
    exact bodyPost_ret (v := .tuple #[.agg #[.slice none 0 0, .slice none 0 0], .agg #[.slice none 0 0, .bool true]]) (by simp [results, Tryz.results108, go_sem, y0, y1, y2, y3]) rfl (treeFin (a := none) (cl := 0) (s := none) (HG.out.keep0 HF1.out) (RIn.bad w0 _) HH0.out HZ.out (stores4 w Y1 _ _ _ _))
  | succ D IHD =>
    intro v st w hD h h0 hl
    obtain ⟨i0, hi, hz0, hz1, hz2⟩ := info_parts info_entry
    obtain ⟨i1, hi1, hy0, hy1, hy2⟩ := info_parts info_kid
    have IH := Lib.hid (fun v st W a b c d => IHD v st W a b c d); clear IHD
    unfold RTreePost at IH
    have hdl : ¬ ((D : Int) + 1 = 0) := by omega
    have hd5 : (D : Int) ≤ 4 := by omega
    have hcast : ((D + 1 : Nat) : Int) = (D : Int) + 1 := by omega
    rw [hcast]
    clear hcast
    obtain ⟨n, s1, hcnt⟩ := CntStep.total st 9223372036854775807
    have hn6 : n ≤ 60000 := by have := hcnt.left; omega
    have HL1 := Lib.hid (Nat.le_trans hcnt.less hl)
    obtain ⟨a0, c0, rfl⟩ := h.shape
    obtain ⟨WB, hWB⟩ : ∃ W, W = (((w.alloc (.cells #[.slice a0 (leftOf st).length c0, .bool st.isNone] 42)).alloc (.cells #[.slice none 0 0, .slice none 0 0] 25)).alloc (.cells #[.slice none 0 0, .bool false] 42)).alloc (.cells #[.slice none 0 0, .slice none 0 0] 25) := ⟨_, rfl⟩
    obtain ⟨hts, hg, hrb, hbb⟩ := TrS.start h h0 hWB
    have HM := Lib.hid (fun W v (hr : RIn w0 W v st) (f : w0.heap.size ≤ W.heap.size) => many_at W hr f hcnt)
    unfold RPost at HM
    have HTS := Lib.hid hts; clear hts
    have HG := Lib.hid hg; clear hg
    have HH0 := Lib.hid h0; clear h0
    have HCNT := Lib.hid hcnt; clear hcnt
    have HL := Lib.hid hl; clear hl h
    have HRB := Lib.hid hrb; clear hrb
    have HBB := Lib.hid hbb; clear hbb
    generalize hbd : st.isNone = bd at *
    generalize hll : (leftOf st).length = L0 at *
    have HBD := Lib.hid hbd; clear hbd
    have HLL := Lib.hid hll; clear hll
    generalize hb1 : s1.isNone = b1 at *
    generalize hl1 : (leftOf s1).length = L1 at *
    have HBD1 := Lib.hid hb1; clear hb1
    have HLL1 := Lib.hid hl1; clear hl1
    have HWB := Lib.hid hWB; clear hWB
    go_enter Tryz.func108, Tryz.ntmps108
    go_wp2_with (go_at_call 109; rw [← HWB.out]; go_loud (refine (HM.out WB _ HRB.out (Nat.le_trans HH0.out HG.out.frm.size)).mono ?_); rintro e w1 ⟨a1, c1, rfl, hr1, hf1⟩; have hbw := hf1.blk HBB.out id; have y0 := cell_at' hbw 0 rfl; have y1 := cell_at' hbw 1 rfl; have y2 := free_at' hbw 0; have y3 := free_at' hbw 1; have y4 := lt_of_block hbw; have HTS1 := Lib.hid (HTS.out.put hf1 hr1 HLL1.out HBD1.out); have HG1 := Lib.hid (GT.put (v' := .slice a1 L1 c1) (b := b1) HG.out hf1); clear hbw hr1 hf1)
    go_loopw [21] (fun i W => ∃ (k : Nat) (es : List Ent) (s : Option (List UInt8)) (ev : Value), k ≤ n ∧ i = .int .i64 k ∧ EsRun bdR s1 k es s ∧ (leftOf s).length ≤ 60000 ∧ TrS w0 w W s ∧ GT w W es [] ev (.slice none 0 0)) (fun i _ => n - (intOf i).toNat)
    case atStart => exact ⟨0, [], s1, _, Nat.zero_le _, rfl, .zero, by have := HL1.out; have e := HLL1.out; omega, HTS1.out, HG1.out⟩
    case round =>
      clear HTS1 HG1 y0 y1 y2 y3 y4 HRB HBB HTS HG HWB
      obtain ⟨k, es, s, ev, hk, rfl, hrun, hls, hts, hg⟩ := hrel
      have HRUN := Lib.hid hrun; clear hrun
      have HLS := Lib.hid hls; clear hls
      have HTS := Lib.hid hts; clear hts
      have hlen : es.length = k := HRUN.out.len
      obtain ⟨aV, cV, rfl⟩ := (Rd.own hg.eown).sl
      rw [hlen] at hg
      have HG := Lib.hid hg; clear hg
      have hl3 : w.heap.size + 1 + 1 + 1 < wr.heap.size := lt_of_block HG.out.b3
      by_cases hlt : k < n
      · obtain ⟨e, t1, t2, t3, t4, g1, g2, g3, g4⟩ := EntStep.total bdR s
        have HSTEP := Lib.hid (show EntStep bdR s e t4 from ⟨t1, t2, t3, g1, g2, g3, g4⟩)
        have HLT := Lib.hid (show (leftOf t4).length ≤ 60000 by
          have q1 := g1.left
          have q2 := g2.left
          have q3 := g3.left
          have q4 := g4.left
          have := HLS.out
          omega)
        have HC1 := Lib.hid (fun W v (hs : RIn w0 W v s) => rnum_at hs g1 (by decide) (by decide))
        have HC2 := Lib.hid (fun W v (hs : RIn w0 W v t1) => rnum_at hs g2 (by decide) (by decide))
        have HC3 := Lib.hid (fun W v (hs : RIn w0 W v t2) => rtext_at hs g3 (by decide) (by decide))
        have HC4 := Lib.hid (fun W v (hs : RIn w0 W v t3) => rnum_at hs g4 (by decide) (by decide))
        unfold RPost at HC1 HC2 HC3 HC4
        simp only [bdR] at HC1 HC2 HC3 HC4
        clear g1 g2 g3 g4
        obtain ⟨a2, c2, hr2, hb2⟩ := HTS.out.box
        have HST0 := Lib.hid (fun (x : Value) => (⟨hr2.keep0 (Frm.alloc NoS wr _), (Frm.alloc NoS wr _).blk hb2 id, heap_alloc_new wr _, (Frm.alloc NoS wr _).mono fun _ _ s => s.elim, Nat.le_refl _, lt_of_block hb2, HH0.out⟩ : Stg w0 w wr (wr.alloc (.cells #[.int .i64 0, .int .i64 0, x, .int .i64 0] 136)) wr.heap.size 136 #[.int .i64 0, .int .i64 0, x, .int .i64 0] (.slice a2 (leftOf s).length c2) s))
        have y0 := cell_at' hb2 0 rfl; have y1 := cell_at' hb2 1 rfl; have y2 := free_at' hb2 0; have y3 := free_at' hb2 1; have y4 := lt_of_block hb2
        clear hr2 hb2
        generalize hb0 : s.isNone = q0 at *
        generalize hm0 : (leftOf s).length = M0 at *
        have HQ0 := Lib.hid hb0; clear hb0
        have HM0 := Lib.hid hm0; clear hm0
        generalize hb1 : t1.isNone = q1 at *
        generalize hm1 : (leftOf t1).length = M1 at *
        have HQ1 := Lib.hid hb1; clear hb1
        have HM1 := Lib.hid hm1; clear hm1
        generalize hb2 : t2.isNone = q2 at *
        generalize hm2 : (leftOf t2).length = M2 at *
        have HQ2 := Lib.hid hb2; clear hb2
        have HM2 := Lib.hid hm2; clear hm2
        generalize hb3 : t3.isNone = q3 at *
        generalize hm3 : (leftOf t3).length = M3 at *
        have HQ3 := Lib.hid hb3; clear hb3
        have HM3 := Lib.hid hm3; clear hm3
        generalize hb4 : t4.isNone = q4 at *
        generalize hm4 : (leftOf t4).length = M4 at *
        have HQ4 := Lib.hid hb4; clear hb4
        have HM4 := Lib.hid hm4; clear hm4
        go_wp2_with (first
          | (go_at_call 121; go_loud (refine (HC3.out _ _ HS2.out.rin).mono ?_); rintro e3 w4 ⟨a5, c5, rfl, hr5, hf5⟩; clear y0 y1 y2 y3 y4 y5 y6 y7 z8 z9; obtain ⟨y0, y1, y2, y3, y4, y5, y6, y7⟩ := (HS2.out.call hf5).facts1 HQ2.out; have z8 := (HS2.out.call hf5).free 2; have z9 := (HS2.out.call hf5).cell 2 rfl; have HS3 := Lib.hid (HS2.out.next1 hf5 hr5 HQ3.out 2 (.string e.s)); clear hr5 hf5)
          | (go_at_call 68; first
            | (refine (HC4.out _ _ HS3.out.rin).mono ?_; rintro e4 w5 ⟨a6, c6, rfl, hr6, hf6⟩; clear y0 y1 y2 y3 y4 y5 y6 y7 z8 z9; obtain ⟨y0, y1, y2, y3, y4, y5, y6, y7⟩ := (HS3.out.call hf6).facts1 HQ3.out; have z8 := (HS3.out.call hf6).free 3; have z9 := (HS3.out.call hf6).cell 3 rfl
               have q00 : w5.cell? ⟨wr.heap.size, 0, none⟩ = some (.int .i64 e.dc) := (HS3.out.call hf6).cell 0 rfl
               have q01 : w5.cell? ⟨wr.heap.size, 1, none⟩ = some (.int .i64 e.n) := (HS3.out.call hf6).cell 1 rfl
               have q02 : w5.cell? ⟨wr.heap.size, 2, none⟩ = some (.string e.s) := (HS3.out.call hf6).cell 2 rfl
               have x0 : w5.cell? ⟨w.heap.size + 1 + 1 + 1, 0, none⟩ = some (.slice aV k cV) := cell_at' ((HS3.out.call hf6).frm.blk HG.out.b3 (fun e => by have e : w.heap.size + 1 + 1 + 1 = w.heap.size := e; omega)) 0 rfl
               have x1 : ¬ wr.heap.size = w.heap.size + 1 + 1 + 1 := by omega
               have x2 : ¬ w.heap.size + 1 + 1 + 1 = wr.heap.size := by omega
               have HS4 := Lib.hid (HS3.out.next1 hf6 hr6 HQ4.out 3 (.int .i64 e.k))
               have HG4 := Lib.hid (HG.out.keepX (HS4.out.frm.mono fun k _ hk => .inl hk))
               clear hr6 hf6)
            | (refine (HC2.out _ _ HS1.out.rin).mono ?_; rintro e2 w3 ⟨a4, c4, rfl, hr4, hf4⟩; clear y0 y1 y2 y3 y4 y5 y6 y7 z8 z9; obtain ⟨y0, y1, y2, y3, y4, y5, y6, y7⟩ := (HS1.out.call hf4).facts1 HQ1.out; have z8 := (HS1.out.call hf4).free 1; have z9 := (HS1.out.call hf4).cell 1 rfl; have HS2 := Lib.hid (HS1.out.next1 hf4 hr4 HQ2.out 1 (.int .i64 e.n)); clear hr4 hf4)
            | (go_loud (refine (HC1.out _ _ (HST0.out _).rin).mono ?_); rintro e1 w2 ⟨a3, c3, rfl, hr3, hf3⟩; clear y0 y1 y2 y3 y4; obtain ⟨y0, y1, y2, y3, y4, y5, y6, y7⟩ := ((HST0.out _).call hf3).facts1 HQ0.out; have z8 := ((HST0.out _).call hf3).free 0; have z9 := ((HST0.out _).call hf3).cell 0 rfl; have HS1 := Lib.hid ((((HST0.out _).call hf3).put1 hr3 HQ1.out).fld 0 (.int .i64 e.dc)); clear hr3 hf3))
          | (at_builtin; go_loud (refine wpList_app1 _ [.int .i64 e.dc, .int .i64 e.n, .string e.s, .int .i64 e.k] rfl (.tmp 51) (.tmp 53) 22 rfl 136 i0 _ 4 40 Tryz.underlying22 hi hz0 hz1 hz2 (by decide) (by decide) _ k _ (by have heo := HG4.out.eown; rw [hlen] at heo; exact heo) 1 1 rfl (by simp [Act.eval]) rfl ?c1 ?c2 ?c3 ?_)))
        case c1 => simp [Value.oneCell']
        case c2 => simp only [maxLen]; omega
        case c3 => omega
        intro ad cc w6 own6 fm6 fr6
        clear y0 y1 y2 y3 y4 y5 y6 y7 z8 z9 q00 q01 q02 x0 x1 x2
        have hn3 : ¬ RowS (.slice aV k cV) (w.heap.size + 1 + 1 + 1) := fun h => (HG4.out.enew _ h).2.2 rfl
        have hb6 := fm6.blk HG4.out.b3 hn3
        have hrow : w6.cell? ⟨w.heap.size + 1 + 1 + 1, 0, none⟩ = some (.slice aV k cV) := cell_at' hb6 0 rfl
        have hcf : w6.frozen? ⟨w.heap.size + 1 + 1 + 1, 0, none⟩ = false := free_at' hb6 0
        have hlt6 := lt_of_block hb6
        have e1 := HQ4.out
        have e2 := HM4.out
        subst e1 e2
        have HTS6 := Lib.hid (HTS.out.step HS4.out fm6 (fun b hb => ⟨(HG4.out.enew b hb).1, (HG4.out.enew b hb).2.1⟩) 0 (.slice ad (k + 1) cc))
        have HG6 := Lib.hid (HG4.out.stepE (e := e) (ev' := .slice ad (k + 1) cc) (w' := w6) (by rw [hlen]; exact own6) fm6 fr6)
        clear hn3 hb6 own6 fm6 fr6
        go_wp2
        go_roundw
        case rel => exact ⟨k + 1, es ++ [e], t4, _, by omega, by go_num, .snoc HRUN.out HSTEP.out, HLT.out, HTS6.out, HG6.out⟩
        case measure => simp [intOf]; omega
      · obtain rfl : n = k := by omega
        clear hlt hk
        obtain ⟨m, s3, hcnt3⟩ := CntStep.total s 9223372036854775807
        have hm6 : m ≤ 60000 := by have := hcnt3.left; have := HLS.out; omega
        have HL3 := Lib.hid (Nat.le_trans hcnt3.less HLS.out)
        have HM3 := Lib.hid (fun W v (hr : RIn w0 W v s) (f : w0.heap.size ≤ W.heap.size) => many_at W hr f hcnt3)
        unfold RPost at HM3
        have HCNT3 := Lib.hid hcnt3; clear hcnt3
        obtain ⟨a2, c2, hr2, hb2⟩ := HTS.out.box
        have HR2 := Lib.hid hr2; clear hr2
        have y0 := cell_at' hb2 0 rfl; have y1 := cell_at' hb2 1 rfl; have y2 := free_at' hb2 0; have y3 := free_at' hb2 1; have y4 := lt_of_block hb2
        have HB2 := Lib.hid hb2; clear hb2
        generalize hq0 : s.isNone = q0 at *
        generalize hm0 : (leftOf s).length = M0 at *
        have HQ0 := Lib.hid hq0; clear hq0
        have HM0 := Lib.hid hm0; clear hm0
        generalize hq3 : s3.isNone = q3 at *
        generalize hm3 : (leftOf s3).length = M3 at *
        have HQ3 := Lib.hid hq3; clear hq3
        have HMM3 := Lib.hid hm3; clear hm3
        go_wp2_with (go_at_call 109; go_loud (refine (HM3.out _ _ HR2.out (Nat.le_trans HH0.out HG.out.frm.size)).mono ?_); rintro e w1 ⟨a3, c3, rfl, hr1, hf1⟩; clear y0 y1 y2 y3 y4; have hbw := hf1.blk HB2.out id; have y0 := cell_at' hbw 0 rfl; have y1 := cell_at' hbw 1 rfl; have y2 := free_at' hbw 0; have y3 := free_at' hbw 1; have y4 := lt_of_block hbw; have HTS1 := Lib.hid (HTS.out.put hf1 hr1 HMM3.out HQ3.out); have HG1 := Lib.hid (GT.put (v' := .slice a3 M3 c3) (b := q3) HG.out hf1); clear hbw hr1 hf1)
        go_loopw [63] (fun i W => ∃ (k : Nat) (l : List KidQ) (t : Option (List UInt8)) (kv : Value), k ≤ m ∧ i = .int .i64 k ∧ l.length = k ∧ KInv bdR D s3 m l t ∧ (leftOf t).length ≤ 60000 ∧ TrS w0 w W t ∧ GT w W es l (.slice aV n cV) kv) (fun i _ => m - (intOf i).toNat)
        case atStart => exact ⟨0, [], s3, _, Nat.zero_le _, rfl, rfl, .start _ _ _ _, by have := HL3.out; have e := HMM3.out; omega, HTS1.out, HG1.out⟩
        case round =>
          clear HTS1 HG1 y0 y1 y2 y3 y4 HTS HG HR2 HB2
          obtain ⟨k, l, t, kv, hk, rfl, hll, hkv, hlt4, hts, hg⟩ := hrel
          have HKV := Lib.hid hkv; clear hkv
          have HLT := Lib.hid hlt4; clear hlt4
          have HTS := Lib.hid hts; clear hts
          obtain ⟨aK, cK, rfl⟩ := (Rd.own hg.kown).sl
          rw [hll] at hg
          have HG := Lib.hid hg; clear hg
          have hl3 : w.heap.size + 1 + 1 + 1 < wr.heap.size := lt_of_block HG.out.b3
          obtain ⟨a2, c2, hr2, hb2⟩ := HTS.out.box
          have HR2 := Lib.hid hr2; clear hr2
          by_cases hlt : k < m
          · cases t with
            | none =>
              have HRES := Lib.hid (get_early bdR_ok (M := 9223372036854775807) (by omega) (by have := HL.out; have := HLL.out; omega) HCNT.out HRUN.out HCNT3.out HKV.out es (mkK l))
              have y0 : wr.cell? ⟨w.heap.size, 0, none⟩ = some (.slice a2 0 c2) := cell_at' hb2 0 rfl
              have y1 : wr.cell? ⟨w.heap.size, 1, none⟩ = some (.bool true) := cell_at' hb2 1 rfl
              have y2 := free_at' hb2 0
              have y3 := free_at' hb2 1
              have y4 := lt_of_block hb2
              clear hb2
              have g1 := HTS.out.r1
              have g2 := HTS.out.r2
              have x0 := cell_at' g1 0 rfl
              have x1 := cell_at' g1 1 rfl
              have f0 := free_at' g1 0
              have f1 := free_at' g1 1
              have hl1 := lt_of_block g1
              have x2 := cell_at' g2 0 rfl
              have x3 := cell_at' g2 1 rfl
              have f2 := free_at' g2 0
              have f3 := free_at' g2 1
              have hl2 := lt_of_block g2
              have x4 : wr.cell? ⟨w.heap.size + 1 + 1 + 1, 0, none⟩ = some (.slice aV n cV) := cell_at' HG.out.b3 0 rfl
              have x5 : wr.cell? ⟨w.heap.size + 1 + 1 + 1, 1, none⟩ = some (.slice aK k cK) := cell_at' HG.out.b3 1 rfl
              have G1 := Lib.hid g1; clear g1
              have G2 := Lib.hid g2; clear g2
              go_wp2_with fail
              go_region
              all_goals
                clear x0 x1 x2 x3 x4 x5 f0 f1 f2 f3 hl1 hl2 y0 y1 y2 y3 y4
                obtain ⟨y0, y1, y2, y3⟩ := stores4_at (x0 := .slice aV n cV) (x1 := .slice aK k cK) (y0 := .slice a2 0 c2) (y1 := .bool true) G1.out G2.out _ rfl
                go_wp2
                exact bodyPost_ret (v := .tuple #[.agg #[.slice aV n cV, .slice aK k cK], .agg #[.slice a2 0 c2, .bool true]]) (by simp [results, Tryz.results108, go_sem, y0, y1, y2, y3]) rfl (treeFin HG.out (s := none) HR2.out HH0.out HRES.out ((stores4 w wr _ _ _ _).then1 (Frm.drew NoS _)))
            | some r =>
              obtain ⟨key, t1, g1⟩ := TextStep.total (some r) 9223372036854775807
              have HLT1 := Lib.hid (Nat.le_trans g1.left HLT.out)
              have HC1 := Lib.hid (fun W v (hs : RIn w0 W v (some r)) => rtext_at hs g1 (by decide) (by decide))
              unfold RPost at HC1
              simp only [show (leftOf (some r)).length = r.length from rfl, show (some r).isNone = false from rfl] at HC1
              have HT1 := Lib.hid g1; clear g1
              have HST0 := Lib.hid (fun (x : Value) => (⟨HR2.out.keep0 (Frm.alloc NoS wr _), (Frm.alloc NoS wr _).blk hb2 id, heap_alloc_new wr _, (Frm.alloc NoS wr _).mono fun _ _ s => s.elim, Nat.le_refl _, lt_of_block hb2, HH0.out⟩ : Stg w0 w wr (wr.alloc (.cells #[x, .slice none 0 0, .slice none 0 0] 138)) wr.heap.size 138 #[x, .slice none 0 0, .slice none 0 0] (.slice a2 (leftOf (some r)).length c2) (some r)))
              have y0 : wr.cell? ⟨w.heap.size, 0, none⟩ = some (.slice a2 r.length c2) := cell_at' hb2 0 rfl
              have y1 : wr.cell? ⟨w.heap.size, 1, none⟩ = some (.bool false) := cell_at' hb2 1 rfl
              have y2 := free_at' hb2 0
              have y3 := free_at' hb2 1
              have y4 := lt_of_block hb2
              clear hb2
              have HIH := Lib.hid (fun v W (hs : RIn w0 W v t1) (hz : w0.heap.size ≤ W.heap.size) => IH.out v t1 W (by omega) hs hz HLT1.out)
              clear IH
              generalize hb1 : t1.isNone = q1 at *
              generalize hm1 : (leftOf t1).length = M1 at *
              have HQ1 := Lib.hid hb1; clear hb1
              have HM1 := Lib.hid hm1; clear hm1
              have hd1 : IntKind.i64.wrap ((D : Int) + 1 - 1) = D := by rw [IntKind.wrap_i64]; omega
              have hd2 : IntKind.i64.wrap (D : Int) = D := by rw [IntKind.wrap_i64]; omega
              go_wp2_with (first
                | (go_at_call 121; go_loud (refine (HC1.out _ _ (HST0.out _).rin).mono ?_); rintro e1 w3 ⟨a5, c5, rfl, hr5, hf5⟩; clear y0 y1 y2 y3 y4; obtain ⟨y0, y1, y2, y3, y4, y5, y6, y7⟩ := ((HST0.out _).call hf5).facts1 (rfl : (some r).isNone = false); have z8 := ((HST0.out _).call hf5).free 0; have z9 := ((HST0.out _).call hf5).cell 0 rfl; have HS1 := Lib.hid ((HST0.out _).next1 hf5 hr5 HQ1.out 0 (.string key)); clear hr5 hf5)
                | (go_at_call 108; go_loud (refine (HIH.out _ _ HS1.out.rin (Nat.le_trans HS1.out.h0 (Nat.le_of_lt (lt_of_block HS1.out.box)))).mono ?_); rintro e2 w4 ⟨ev3, kv3, es3, ks3, t2, a6, c6, rfl, hta3, hgr, hr6, hf6⟩
                   obtain ⟨a3, c3, rfl⟩ := hta3.ents.rd.sl
                   obtain ⟨os3, hkr3, -⟩ := hta3.kids
                   obtain ⟨a4, c4, rfl⟩ := hkr3.rd.sl
                   clear hkr3 y0 y1 y2 y3 y4 y5 y6 y7 z8 z9
                   obtain ⟨y0, y1, y2, y3, y4, y5, y6, y7⟩ := (HS1.out.call hf6).facts1 HQ1.out
                   have z8 := (HS1.out.call hf6).free 1
                   have z9 := (HS1.out.call hf6).free 2
                   have z10 := (HS1.out.call hf6).cell 1 rfl
                   have z11 := (HS1.out.call hf6).cell 2 rfl
                   have q00 : w4.cell? ⟨wr.heap.size, 0, none⟩ = some (.string key) := (HS1.out.call hf6).cell 0 rfl
                   have x0 : w4.cell? ⟨w.heap.size + 1 + 1 + 1, 1, none⟩ = some (.slice aK k cK) := cell_at' ((HS1.out.call hf6).frm.blk HG.out.b3 (fun e => by have e : w.heap.size + 1 + 1 + 1 = w.heap.size := e; omega)) 1 rfl
                   have x1 : ¬ wr.heap.size = w.heap.size + 1 + 1 + 1 := by omega
                   have x2 : ¬ w.heap.size + 1 + 1 + 1 = wr.heap.size := by omega
                   have hGR := hgr
                   have HGR := Lib.hid hgr; clear hgr hGR
                   generalize hb2 : t2.isNone = q2 at *
                   generalize hm2 : (leftOf t2).length = M2 at *
                   have HQ2 := Lib.hid hb2; clear hb2
                   have HM2 := Lib.hid hm2; clear hm2
                   have HS2 := Lib.hid (HS1.out.next2 hf6 hr6 HQ2.out (.slice a3 es3.length c3) (.slice a4 ks3.len c4))
                   have hgw := HG.out.keepX (HS1.out.frm.mono fun k _ hk => .inl hk)
                   have hwb : wr.heap.size < _ := lt_of_block HS1.out.blk
                   have hft : Frm (fun k => k = wr.heap.size ∨ k = w.heap.size) w4 ((((w4.setCell ⟨wr.heap.size, 1, none⟩ (.slice a3 es3.length c3)).setCell ⟨wr.heap.size, 2, none⟩ (.slice a4 ks3.len c4)).setCell ⟨w.heap.size, 0, none⟩ (.slice a6 M2 c6)).setCell ⟨w.heap.size, 1, none⟩ (.bool q2)) :=
                     (((only_set w4 wr.heap.size 1 _).trans (only_set _ wr.heap.size 2 _) fun _ _ h => h).mono fun k _ hk => .inl hk).trans ((two_set _ w.heap.size _ _).mono fun k _ hk => .inr hk) fun _ _ h => h
                   have HKD := Lib.hid (hgw.kid (hta3.turn (Q' := fun b => _ ≤ b) fun b hb hQ => ⟨hft.block b hb (fun hs => by rcases hs with hs | hs <;> omega), hQ⟩) (Nat.le_trans hf6.size hft.size))
                   have HG2 := Lib.hid (HG.out.keepX (HS2.out.frm.mono fun k _ hk => .inl hk))
                   clear hta3 hgw hwb hft hr6 hf6
                   generalize es3.length = n3 at *
                   generalize ks3.len = m3 at *)
                | (at_builtin; go_loud (refine wpList_app1 _ [.string key, .slice a3 n3 c3, .slice a4 m3 c4] rfl (.tmp 84) (.tmp 86) 23 rfl 138 i1 _ 3 64 Tryz.underlying23 hi1 hy0 hy1 hy2 (by decide) (by decide) _ k _ (by have heo := HG2.out.kown; rw [hll] at heo; exact heo) 1 1 rfl (by simp [Act.eval]) rfl ?c1 ?c2 ?c3 ?_)))
              case c1 => simp [Value.oneCell']
              case c2 => simp only [maxLen]; omega
              case c3 => omega
              intro ad cc w6 own6 fm6 fr6
              clear y0 y1 y2 y3 y4 y5 y6 y7 z8 z9 z10 z11 q00 x0 x1 x2
              have hn3 : ¬ RowS (.slice aK k cK) (w.heap.size + 1 + 1 + 1) := fun h => (HG2.out.knew _ h).2.2.1 rfl
              have hb6 := fm6.blk HG2.out.b3 hn3
              have hrow : w6.cell? ⟨w.heap.size + 1 + 1 + 1, 1, none⟩ = some (.slice aK k cK) := cell_at' hb6 1 rfl
              have hcf : w6.frozen? ⟨w.heap.size + 1 + 1 + 1, 1, none⟩ = false := free_at' hb6 1
              have hlt6 := lt_of_block hb6
              have e1 := HQ2.out
              have e2 := HM2.out
              subst e1 e2
              have HTS6 := Lib.hid (HTS.out.step HS2.out fm6 (fun b hb => ⟨(HG2.out.knew b hb).1, (HG2.out.knew b hb).2.1⟩) 1 (.slice ad (k + 1) cc))
              have HG6 := Lib.hid (HG2.out.stepK (q := ⟨key, es3, ks3, .slice a3 n3 c3, .slice a4 m3 c4⟩) (kv' := .slice ad (k + 1) cc) (w' := w6) HKD.out (by rw [hll]; exact own6) fm6 fr6)
              have HKN := Lib.hid (HKV.out.step (q := ⟨key, es3, ks3, .slice a3 n3 c3, .slice a4 m3 c4⟩) bdR_ok (by omega) HT1.out HGR.out)
              have HLT2 := Lib.hid (show (leftOf t2).length ≤ 60000 by have h1 := HGR.out.left; have h2 := HLT1.out; have h3 := HM1.out; omega)
              clear hn3 hb6 own6 fm6 fr6
              go_wp2
              go_roundw
              case rel => exact ⟨k + 1, l ++ [⟨key, es3, ks3, .slice a3 n3 c3, .slice a4 m3 c4⟩], t2, _, by omega, by go_num, by simp [hll], HKN.out, HLT2.out, HTS6.out, HG6.out⟩
              case measure => simp [intOf]; omega
          · obtain rfl : m = k := by omega
            have HRES := Lib.hid (get_done bdR_ok (M := 9223372036854775807) (by omega) (by have := HL.out; have := HLL.out; omega) HCNT.out HRUN.out HCNT3.out HKV.out hll)
            have y0 := cell_at' hb2 0 rfl; have y1 := cell_at' hb2 1 rfl; have y2 := free_at' hb2 0; have y3 := free_at' hb2 1; have y4 := lt_of_block hb2
            clear hb2
            generalize hq9 : t.isNone = q9 at *
            generalize hm9 : (leftOf t).length = M9 at *
            have HQ9 := Lib.hid hq9; clear hq9
            have HM9 := Lib.hid hm9; clear hm9
            have g1 := HTS.out.r1
            have g2 := HTS.out.r2
            have x0 := cell_at' g1 0 rfl
            have x1 := cell_at' g1 1 rfl
            have f0 := free_at' g1 0
            have f1 := free_at' g1 1
            have hl1 := lt_of_block g1
            have x2 := cell_at' g2 0 rfl
            have x3 := cell_at' g2 1 rfl
            have f2 := free_at' g2 0
            have f3 := free_at' g2 1
            have hl2 := lt_of_block g2
            have x4 : wr.cell? ⟨w.heap.size + 1 + 1 + 1, 0, none⟩ = some (.slice aV n cV) := cell_at' HG.out.b3 0 rfl
            have x5 : wr.cell? ⟨w.heap.size + 1 + 1 + 1, 1, none⟩ = some (.slice aK m cK) := cell_at' HG.out.b3 1 rfl
            have G1 := Lib.hid g1; clear g1
            have G2 := Lib.hid g2; clear g2
            go_wp2_with fail
            go_region
            all_goals
              clear x0 x1 x2 x3 x4 x5 f0 f1 f2 f3 hl1 hl2 y0 y1 y2 y3 y4
              obtain ⟨y0, y1, y2, y3⟩ := stores4_at (x0 := .slice aV n cV) (x1 := .slice aK m cK) (y0 := .slice a2 M9 c2) (y1 := .bool q9) G1.out G2.out _ rfl
              go_wp2
              exact bodyPost_ret (v := .tuple #[.agg #[.slice aV n cV, .slice aK m cK], .agg #[.slice a2 M9 c2, .bool q9]]) (by simp [results, Tryz.results108, go_sem, y0, y1, y2, y3]) rfl (by have e1 := HQ9.out; have e2 := HM9.out; subst e1 e2; exact treeFin HG.out (s := t) HR2.out HH0.out HRES.out ((stores4 w wr _ _ _ _).then1 (Frm.drew NoS _)))
end Go.Proofs.YtafdclkpeomomaaGreat

/- How many entries and kids a tree has, counted down: the plain law. -/
namespace Go.Proofs.YtafdclkpeomomaaGreat

/-- What is left behind kids, whose number is counted already. -/
def roomK : KidsL → Int → Nat → Int
  | .nil, left, _ => left
  | .cons _ es sub rest, left, d => if left < 0 ∨ d = 0 then -1 else roomK rest (roomK sub (left - es.length - sub.len) (d - 1)) d
def roomT (es : List Ent) (ks : KidsL) (left : Int) (d : Nat) : Int := roomK ks (left - es.length - ks.len) d
theorem roomK_cons (key : ByteArray) (es : List Ent) (sub rest : KidsL) (left : Int) (d : Nat) : roomK (.cons key es sub rest) left d = if left < 0 ∨ d = 0 then -1 else roomK rest (roomT es sub left (d - 1)) d := rfl
theorem roomK_ge : ∀ {ks : KidsL} {left : Int} {d : Nat}, 0 ≤ roomK ks left d → 0 ≤ left
  | .nil, _, _, h => h
  | .cons _ es sub rest, left, d, h => by
    rw [roomK_cons] at h
    split at h
    · omega
    · omega
theorem roomK_size : ∀ {ks : KidsL} {left : Int} {d : Nat}, 0 ≤ roomK ks left d → roomK ks left d + sizeK ks = left + ks.len
  | .nil, _, _, _ => by simp [roomK, sizeK, KidsL.len]
  | .cons _ es sub rest, left, d, h => by
    rw [roomK_cons] at h ⊢
    split at h
    · omega
    · rename_i hc
      rw [if_neg hc]
      have h1 := roomK_ge h
      have h2 := roomK_size h
      have h3 := roomK_size (ks := sub) h1
      unfold roomT at h2 h3 ⊢
      simp only [sizeK, KidsL.len]
      omega
/-- Who has room has few entries and kids. -/
theorem roomT_size {es : List Ent} {ks : KidsL} {left : Int} {d : Nat} (h : 0 ≤ roomT es ks left d) : (sizeT es ks : Int) ≤ left := by
  have := roomK_size h
  unfold roomT at h
  unfold sizeT
  omega
theorem roomK_deep : ∀ {ks : KidsL} {left : Int} {d : Nat}, 0 ≤ roomK ks left d → deepK ks ≤ d
  | .nil, _, _, _ => Nat.zero_le _
  | .cons _ es sub rest, left, d, h => by
    rw [roomK_cons] at h
    split at h
    · omega
    · have h1 := roomK_ge h
      have h2 := roomK_deep h
      have h3 := roomK_deep (ks := sub) h1
      simp only [deepK]
      omega
/-- The bounds of what is left. -/
theorem roomK_bd : ∀ {ks : KidsL} {left : Int} {d : Nat}, ks.Ok → left ≤ 1000 → -300000000000000 ≤ left → roomK ks left d ≤ 1000 ∧ -300000000000000 ≤ roomK ks left d
  | .nil, _, _, _, h1, h2 => ⟨h1, h2⟩
  | .cons _ es sub rest, left, d, hk, h1, h2 => by
    rw [roomK_cons]
    split
    · omega
    · obtain ⟨_, he, hs, hok, hr⟩ := hk
      have := he.len
      have h3 := roomK_bd (ks := sub) (left := left - es.length - sub.len) (d := d - 1) hok (by omega) (by omega)
      exact roomK_bd hr h3.1 h3.2
theorem roomK_drop {ks : KidsL} {n : Nat} {key : ByteArray} {es : List Ent} {sub rest : KidsL} (h : ks.drop n = .cons key es sub rest) (left : Int) (d : Nat) :
    roomK (ks.drop n) left d = if left < 0 ∨ d = 0 then -1 else roomK (ks.drop (n + 1)) (roomT es sub left (d - 1)) d := by
  rw [h, KidsL.drop_succ n ks h, roomK_cons]
end Go.Proofs.YtafdclkpeomomaaGreat

/- tributaryref08: room, Small, Right: the walks. -/
namespace Go.Proofs.YtafdclkpeomomaaGreat
open Go.RowKit

set_option maxHeartbeats 2000000 in
set_option maxRecDepth 1000000 in
theorem r8room_any (Q : Nat → Prop) : ∀ (N : Nat) (es : List Ent) (ks : KidsL) (left : Int) (d : Nat) (w : World) (ev kv : Value), sizeK ks < N → TreeAt Q w ev kv es ks → TrOk es ks → left ≤ 1000 → 0 ≤ left → d ≤ 100 →
    Calls Tryz.prog 99 #[.agg #[ev, kv], .int .i64 left, .int .i64 d] w fun e w' => e = .returned (.int .i64 (roomT es ks left d)) ∧ Frm NoS w w' := by
  intro N
  induction N with
  | zero => intros; exfalso; omega
  | succ N IHN =>
    intro es ks left d w ev kv hN ht hok hl1 hl2 hd
    obtain ⟨ae, ce, rfl⟩ := ht.ents.rd.sl
    obtain ⟨os, hkr, hfor⟩ := ht.kids
    obtain ⟨ak, ck, rfl⟩ := hkr.rd.sl
    have HKR := Lib.hid hkr.rd; clear hkr ht
    have HFOR := Lib.hid hfor; clear hfor
    have IH := Lib.hid IHN; clear IHN
    have HWB := Lib.hid (Frm.alloc NoS w (.cells #[.slice ae es.length ce, .slice ak ks.len ck] 25))
    have box1 : (w.alloc (.cells #[.slice ae es.length ce, .slice ak ks.len ck] 25)).cell? ⟨w.heap.size, 1, none⟩ = some (.slice ak ks.len ck) := cell_at' (heap_alloc_new w _) 1 rfl
    have B1 := Lib.hid box1; clear box1
    have hel := hok.es.len
    have hkl0 := hok.len
    have HOK := Lib.hid hok.ks; clear hok
    have HSZ := Lib.hid hN; clear hN
    have hrt : roomT es ks left d = roomK ks (left - es.length - ks.len) d := rfl
    rw [hrt]
    clear hrt
    generalize es.length = n at *
    generalize hkl : ks.len = m at *
    have HM := Lib.hid hkl; clear hkl
    obtain ⟨l0, hl0⟩ : ∃ l0 : Int, l0 = left - n - m := ⟨_, rfl⟩
    have hb0 : l0 ≤ 1000 ∧ -300000000000000 ≤ l0 := by omega
    rw [← hl0]
    go_enter Tryz.func99, Tryz.ntmps99
    go_wp2
    go_loopw [1, 20] (fun lv i ww => ∃ (k : Nat) (x : Int), k ≤ m ∧ i = .int .i64 k ∧ lv = .int .i64 x ∧ x ≤ 1000 ∧ -300000000000000 ≤ x ∧ roomK ks l0 d = roomK (ks.drop k) x d ∧ Frm NoS (w.alloc (.cells #[.slice ae n ce, .slice ak m ck] 25)) ww) (fun _ i _ => m - (intOf i).toNat)
    case atStart => exact ⟨0, l0, Nat.zero_le _, rfl, by rw [hl0], hb0.1, hb0.2, rfl, Frm.refl _ _⟩
    case round =>
      clear hl0
      obtain ⟨k, x, hk, rfl, rfl, hx1, hx2, hr, hw⟩ := hrel
      have HW := Lib.hid hw; clear hw
      have b1 := HW.out.cell' B1.out id
      by_cases hlt : k < m
      · obtain ⟨key, es', sub, rest, hdr⟩ := KidsL.drop_some (n := k) (ks := ks) (by rw [HM.out]; exact hlt)
        rw [roomK_drop hdr] at hr
        by_cases hx0 : x < 0
        · rw [if_pos (.inl hx0)] at hr
          have HR := Lib.hid hr; clear hr
          clear hdr
          go_wp2
          go_ret
          exact ⟨ret_int HR.out.symm, HWB.out.then1 HW.out⟩
        · by_cases hd0 : d = 0
          · subst hd0
            rw [if_pos (.inr rfl)] at hr
            have HR := Lib.hid hr; clear hr
            clear hdr
            go_wp2
            go_ret
            exact ⟨ret_int HR.out.symm, HWB.out.then1 HW.out⟩
          · rw [if_neg (by omega)] at hr
            rcases Rd.shape (HKR.out.keep0 (HWB.out.then1 HW.out)) with ⟨ad, he, h0⟩ | ⟨b, off, cc, he, hmax⟩
            · exfalso; have := HM.out; omega
            · injection he with e1 e2 e3
              subst e1 e3
              clear e2
              obtain ⟨ev', kv', c0, c1, c2, hta⟩ := kid_at (HKR.out.keep0 (HWB.out.then1 HW.out)) (HFOR.out.keep0 (HWB.out.then1 HW.out)) hdr
              obtain ⟨ae', ce', rfl⟩ := hta.ents.rd.sl
              obtain ⟨os', hkr', hfor'⟩ := hta.kids
              obtain ⟨ak', ck', rfl⟩ := hkr'.rd.sl
              clear hkr' hfor'
              have hok' := HOK.out.drop k
              rw [hdr] at hok'
              have hsub : TrOk es' sub := ⟨hok'.2.1, hok'.2.2.1, hok'.2.2.2.1⟩
              have hbd := roomK_bd (ks := sub) (left := x - es'.length - sub.len) (d := d - 1) hsub.ks (by omega) (by have := hsub.es.len; have := hsub.len; omega)
              obtain ⟨y, hy⟩ : ∃ y, y = roomT es' sub x (d - 1) := ⟨_, rfl⟩
              have HBD := Lib.hid (show y ≤ 1000 ∧ -300000000000000 ≤ y by rw [hy]; exact hbd); clear hbd
              have hih := IH.out es' sub x (d - 1) wr _ _ (by have := size_sub k hdr; have := HSZ.out; omega) hta hsub hx1 (by omega) (by omega)
              rw [show ((d - 1 : Nat) : Int) = (d : Int) - 1 by omega] at hih
              rw [← hy] at hih hr
              have HIH := Lib.hid hih; clear hih hta hok' hsub hdr hy
              have HR := Lib.hid hr; clear hr
              generalize es'.length = n' at *
              generalize sub.len = m' at *
              have hd1 : (d : Int) ≤ 100 := by omega
              have hd2 : (1 : Int) ≤ d := by omega
              have hdz : ((d : Int) == 0) = false := by simp; omega
              go_wp2_with (go_at_call 99; refine HIH.out.mono ?_; rintro e w3 ⟨rfl, hw3⟩; have HW3 := Lib.hid hw3; clear hw3)
              go_roundw
              case rel => exact ⟨k + 1, y, by omega, by go_num, rfl, HBD.out.1, HBD.out.2, HR.out, HW.out.then1 HW3.out⟩
              case measure => simp [intOf]; omega
      · obtain rfl : m = k := by omega
        rw [KidsL.drop_none (by rw [HM.out]; exact Nat.le_refl _)] at hr
        have HR := Lib.hid hr; clear hr
        go_wp2
        go_ret
        exact ⟨ret_int HR.out.symm, HWB.out.then1 HW.out⟩
set_option maxRecDepth 100000 in
theorem r8Small_any (Q : Nat → Prop) (es : List Ent) (ks : KidsL) (left : Int) (w : World) (ev kv : Value) (ht : TreeAt Q w ev kv es ks) (hok : TrOk es ks) (h1 : left ≤ 1000) (h2 : 0 ≤ left) :
    Calls Tryz.prog 51 #[.agg #[ev, kv], .int .i64 left] w fun e w' => e = .returned (.bool (decide (0 ≤ roomT es ks left 8))) ∧ Frm NoS w w' := by
  obtain ⟨ae, ce, rfl⟩ := ht.ents.rd.sl
  obtain ⟨os, hkr, hfor⟩ := ht.kids
  obtain ⟨ak, ck, rfl⟩ := hkr.rd.sl
  have hc : ∀ W, Frm NoS w W → Calls Tryz.prog 99 #[.agg #[.slice ae es.length ce, .slice ak ks.len ck], .int .i64 left, .int .i64 8] W fun e w' => e = .returned (.int .i64 (roomT es ks left 8)) ∧ Frm NoS W w' := fun W f => r8room_any Q _ es ks left 8 W _ _ (Nat.lt_succ_self _) (ht.keep0 f) hok h1 h2 (by omega)
  have HC := Lib.hid hc
  clear hkr hfor ht hok hc
  generalize roomT es ks left 8 = y at *
  generalize es.length = n at *
  generalize ks.len = m at *
  go_enter Tryz.func51, Tryz.ntmps51
  go_wp2_with (go_at_call 99; refine (HC.out _ (Frm.alloc _ _ _)).mono ?_; rintro e w3 ⟨rfl, hw3⟩; have HW3 := Lib.hid ((Frm.alloc NoS _ _).then1 hw3); clear hw3)
  go_ret
  exact ⟨rfl, HW3.out⟩
set_option maxRecDepth 100000 in
theorem r8Right_any (Q : Nat → Prop) (es : List Ent) (ks : KidsL) (w : World) (ev kv : Value) (ht : TreeAt Q w ev kv es ks) (hok : TrOk es ks) :
    Calls Tryz.prog 54 #[.agg #[ev, kv]] w fun e w' => e = .returned (.bool (rightT 5 es ks)) ∧ Frm NoS w w' := by
  obtain ⟨ae, ce, rfl⟩ := ht.ents.rd.sl
  obtain ⟨os, hkr, hfor⟩ := ht.kids
  obtain ⟨ak, ck, rfl⟩ := hkr.rd.sl
  have hc : ∀ W, Frm NoS w W → Calls Tryz.prog 103 #[.agg #[.slice ae es.length ce, .slice ak ks.len ck], .int .i64 5] W fun e w' => e = .returned (.bool (rightT 5 es ks)) ∧ Frm NoS W w' := fun W f => r8right_any Q _ es ks 5 W _ _ (Nat.lt_succ_self _) (ht.keep0 f) hok (by omega)
  have HC := Lib.hid hc
  clear hkr hfor ht hok hc
  generalize rightT 5 es ks = y at *
  generalize es.length = n at *
  generalize ks.len = m at *
  go_enter Tryz.func54, Tryz.ntmps54
  go_wp2_with (go_at_call 103; refine (HC.out _ (Frm.alloc _ _ _)).mono ?_; rintro e w3 ⟨rfl, hw3⟩; have HW3 := Lib.hid ((Frm.alloc NoS _ _).then1 hw3); clear hw3)
  go_ret
  exact ⟨rfl, HW3.out⟩
end Go.Proofs.YtafdclkpeomomaaGreat

/- tributaryref16: ToTree: the walk. -/
namespace Go.Proofs.YtafdclkpeomomaaGreat
open Go.RowKit

theorem r16tree_ok {w0 : World} {es : List Ent} {ks : KidsL} {bs r : List UInt8} (hg : GetOk bdR 5 bs es ks r) (v : Value) (w : World) (h : RIn w0 w v (some bs)) (h0 : w0.heap.size ≤ w.heap.size) (hl : bs.length ≤ 60000) :
    Calls Tryz.prog 108 #[.agg #[v, .bool false], .int .i64 5] w fun e w' => ∃ ev kv a l, e = .returned (.tuple #[.agg #[ev, kv], .agg #[.slice a r.length l, .bool false]]) ∧ TreeAt (fun b => w.heap.size ≤ b) w' ev kv es ks ∧ RIn w0 w' (.slice a r.length l) (some r) ∧ Frm NoS w w' := by
  refine Calls.mono (r16tree_any 5 v (some bs) w (Nat.le_refl _) h h0 hl) fun e w' ⟨ev, kv, es', ks', s, a, l, he, ht, hr, hi, hf⟩ => ?_
  rcases hr with ⟨b2, r2, h1, h2, h3⟩ | ⟨_, h2⟩
  · injection h1 with h1
    subst h1 h2
    have e2 : encT es' ks' ++ r2 = encT es ks ++ r := by rw [← h3.eq, ← hg.eq]
    obtain ⟨⟨rfl, rfl⟩, rfl⟩ := encT_pfx e2
    exact ⟨ev, kv, a, l, he, ht, hi, hf⟩
  · exact absurd hg (h2 _ _ _ _ rfl)
theorem r16tree_no {w0 : World} {st : Option (List UInt8)} (hg : ∀ bs es ks r, st = some bs → ¬ GetOk bdR 5 bs es ks r) (v : Value) (w : World) (h : RIn w0 w v st) (h0 : w0.heap.size ≤ w.heap.size) (hl : (leftOf st).length ≤ 60000) :
    Calls Tryz.prog 108 #[.agg #[v, .bool st.isNone], .int .i64 5] w fun e w' => ∃ a n c a2 n2 c2 a3 l3, e = .returned (.tuple #[.agg #[.slice a n c, .slice a2 n2 c2], .agg #[.slice a3 0 l3, .bool true]]) ∧ RIn w0 w' (.slice a3 0 l3) none ∧ Frm NoS w w' := by
  refine Calls.mono (r16tree_any 5 v st w (Nat.le_refl _) h h0 hl) fun e w' ⟨ev, kv, es', ks', s, a, l, he, ht, hr, hi, hf⟩ => ?_
  obtain ⟨a0, c0, rfl⟩ := ht.ents.rd.sl
  obtain ⟨os, hk, _⟩ := ht.kids
  obtain ⟨a1, c1, rfl⟩ := hk.rd.sl
  rcases hr with ⟨b2, r2, h1, h2, h3⟩ | ⟨rfl, _⟩
  · exact absurd h3 (hg _ _ _ _ h1)
  · exact ⟨_, _, _, _, _, _, a, l, he, hi, hf⟩
def ToTreePost (w0 w : World) (es : List Ent) (ks : KidsL) (s : Option (List UInt8)) (e : Ending) (w' : World) : Prop :=
  ∃ ev kv a l, e = .returned (.tuple #[.agg #[ev, kv], .agg #[.slice a (leftOf s).length l, .bool s.isNone]]) ∧ TreeAt (fun b => w.heap.size ≤ b) w' ev kv es ks ∧ RIn w0 w' (.slice a (leftOf s).length l) s ∧ Frm NoS w w'
theorem totFin {w0 w W W' : World} {es : List Ent} {ks : KidsL} {ev kv : Value} {a : Option Addr} {l : Nat} {s : Option (List UInt8)} (ht : TreeAt (fun b => w.heap.size + 1 + 1 + 1 ≤ b) W ev kv es ks) (hr : RIn w0 W (.slice a (leftOf s).length l) s) (h0 : w0.heap.size ≤ w.heap.size) (hf : Frm NoS w W) (f : Frm (XT w) W W') :
    ToTreePost w0 w es ks s (.returned (.tuple #[.agg #[ev, kv], .agg #[.slice a (leftOf s).length l, .bool s.isNone]])) W' := by
  refine ⟨ev, kv, a, l, rfl, ht.turn fun b hb hQ => ⟨f.block b hb fun hs => ?_, by have hQ : w.heap.size + 1 + 1 + 1 ≤ b := hQ; omega⟩, hr.keep f fun k hk hs => ?_, hf.trans f fun i hi hs => ?_⟩
  · have hQ : w.heap.size + 1 + 1 + 1 ≤ b := hQ
    rcases hs with hs | hs | hs <;> omega
  · rcases hs with hs | hs | hs <;> omega
  · rcases hs with hs | hs | hs <;> omega
theorem TrS.start3 {w0 w W : World} {a : Option Addr} {l : Nat} {st : Option (List UInt8)} (h : RIn w0 w (.slice a (leftOf st).length l) st) (h0 : w0.heap.size ≤ w.heap.size)
    (hW : W = ((w.alloc (.cells #[.slice a (leftOf st).length l, .bool st.isNone] 42)).alloc (.cells #[.slice none 0 0, .slice none 0 0] 25)).alloc (.cells #[.slice none 0 0, .bool false] 42)) :
    TrS w0 w W st ∧ RIn w0 W (.slice a (leftOf st).length l) st ∧ W.heap[w.heap.size]? = some (.cells #[.slice a (leftOf st).length l, .bool st.isNone] 42 (0, 0)) ∧ Frm NoS w W ∧ W.heap.size = w.heap.size + 1 + 1 + 1 := by
  subst hW
  have f0 : Frm NoS w (w.alloc (.cells #[.slice a (leftOf st).length l, .bool st.isNone] 42)) := Frm.alloc _ _ _
  have f1 : Frm NoS _ ((w.alloc (.cells #[.slice a (leftOf st).length l, .bool st.isNone] 42)).alloc (.cells #[.slice none 0 0, .slice none 0 0] 25)) := Frm.alloc _ _ _
  have f2 : Frm NoS _ (((w.alloc (.cells #[.slice a (leftOf st).length l, .bool st.isNone] 42)).alloc (.cells #[.slice none 0 0, .slice none 0 0] 25)).alloc (.cells #[.slice none 0 0, .bool false] 42)) := Frm.alloc _ _ _
  have g0 := f2.blk (f1.blk (heap_alloc_new w (.cells #[.slice a (leftOf st).length l, .bool st.isNone] 42)) id) id
  have g1 := f2.blk (heap_alloc_new (w.alloc (.cells #[.slice a (leftOf st).length l, .bool st.isNone] 42)) (.cells #[.slice none 0 0, .slice none 0 0] 25)) id
  have g2 := heap_alloc_new ((w.alloc (.cells #[.slice a (leftOf st).length l, .bool st.isNone] 42)).alloc (.cells #[.slice none 0 0, .slice none 0 0] 25)) (.cells #[.slice none 0 0, .bool false] 42)
  have sz : ∀ (u : World) (o : Obj), (u.alloc o).heap.size = u.heap.size + 1 := fun u o => by simp
  simp only [sz] at g1 g2
  have hf := (f0.then1 f1).then1 f2
  have hr := h.keep0 hf
  exact ⟨⟨⟨a, l, hr, g0⟩, g1, g2, h0⟩, hr, g0, hf, by simp only [sz]⟩
set_option maxHeartbeats 8000000 in
set_option maxRecDepth 1000000 in
theorem r16ToTree_at {w0 : World} {v : Value} {st s : Option (List UInt8)} {es : List Ent} {ks : KidsL} (w : World) (h : RIn w0 w v st) (h0 : w0.heap.size ≤ w.heap.size) (hc : TreeRes st es ks s) (hl : (leftOf st).length ≤ 60000) :
    Calls Tryz.prog 59 #[.agg #[v, .bool st.isNone]] w (ToTreePost w0 w es ks s) := by
  obtain ⟨a0, c0, rfl⟩ := h.shape
  obtain ⟨WB, hWB⟩ : ∃ W, W = ((w.alloc (.cells #[.slice a0 (leftOf st).length c0, .bool st.isNone] 42)).alloc (.cells #[.slice none 0 0, .slice none 0 0] 25)).alloc (.cells #[.slice none 0 0, .bool false] 42) := ⟨_, rfl⟩
  obtain ⟨hts, hrb, hbb, hfb, hsz⟩ := TrS.start3 h h0 hWB
  have HTS := Lib.hid hts; clear hts
  have HRB := Lib.hid hrb; clear hrb
  have HBB := Lib.hid hbb; clear hbb
  have HFB := Lib.hid hfb; clear hfb
  have HSZ := Lib.hid hsz; clear hsz
  have HH0 := Lib.hid h0; clear h0
  clear h
  by_cases hg : ∃ bs es ks r, st = some bs ∧ GetOk bdR 5 bs es ks r
  · obtain ⟨bs, es1, ks1, r, rfl, hg⟩ := hg
    have HC := Lib.hid (fun W v (hr : RIn w0 W v (some bs)) (f : w0.heap.size ≤ W.heap.size) => r16tree_ok hg v W hr f hl)
    have hok := (hg.tr bdR_ok (Nat.le_trans hl (by decide))).1
    have HRT := Lib.hid (fun W Q ev kv (h : TreeAt Q W ev kv es1 ks1) => r8Right_any Q es1 ks1 W ev kv h hok)
    clear hok
    have HWB := Lib.hid (show WB = ((w.alloc (.cells #[.slice a0 bs.length c0, .bool false] 42)).alloc (.cells #[.slice none 0 0, .slice none 0 0] 25)).alloc (.cells #[.slice none 0 0, .bool false] 42) from hWB); clear hWB
    have HBB := Lib.hid (show WB.heap[w.heap.size]? = some (.cells #[.slice a0 bs.length c0, .bool false] 42 (0, 0)) from HBB.out)
    show Calls Tryz.prog 59 #[.agg #[.slice a0 bs.length c0, .bool false]] w (ToTreePost w0 w es ks s)
    cases hr : rightT 5 es1 ks1 with
    | true =>
      rw [hr] at HRT
      obtain ⟨⟨rfl, rfl⟩, rfl⟩ := hc.det (tree_good (B := bdR) (st := some bs) (rest := r) (.inl ⟨bs, r, rfl, rfl, hg⟩) hr)
      clear hr hg hl hc
      go_enter Tryz.func59, Tryz.ntmps59
      go_wp2_with (first
        | (go_at_call 108; rw [← HWB.out]; go_loud (refine (HC.out WB _ HRB.out (Nat.le_trans HH0.out HFB.out.size)).mono ?_); rintro e w1 ⟨ev, kv, a3, l3, rfl, hta, hr1, hf1⟩; obtain ⟨a4, c4, rfl⟩ := hta.ents.rd.sl; obtain ⟨os5, hkr5, -⟩ := hta.kids; obtain ⟨a5, c5, rfl⟩ := hkr5.rd.sl; clear hkr5
           generalize es.length = n at *
           generalize ks.len = m at *
           have hbw := hf1.blk HBB.out id; have y0 := cell_at' hbw 0 rfl; have y1 := cell_at' hbw 1 rfl; have y2 := free_at' hbw 0; have y3 := free_at' hbw 1; have y4 := lt_of_block hbw
           have f2 := two_set w1 w.heap.size (.slice a3 r.length l3) (.bool false)
           have hsw : ((w1.setCell ⟨w.heap.size, 0, none⟩ (.slice a3 r.length l3)).setCell ⟨w.heap.size, 1, none⟩ (.bool false)).heap.size = w1.heap.size := by simp
           have hal : Frm NoS ((w1.setCell ⟨w.heap.size, 0, none⟩ (.slice a3 r.length l3)).setCell ⟨w.heap.size, 1, none⟩ (.bool false)) (((w1.setCell ⟨w.heap.size, 0, none⟩ (.slice a3 r.length l3)).setCell ⟨w.heap.size, 1, none⟩ (.bool false)).alloc (.cells #[.slice a4 n c4, .slice a5 m c5] 25)) := Frm.alloc _ _ _
           have HTS2 := Lib.hid ((HTS.out.put hf1 hr1 (L := r.length) rfl (b := false) rfl).keep hal)
           have hx2 := heap_alloc_new ((w1.setCell ⟨w.heap.size, 0, none⟩ (.slice a3 r.length l3)).setCell ⟨w.heap.size, 1, none⟩ (.bool false)) (.cells #[.slice a4 n c4, .slice a5 m c5] 25)
           rw [hsw] at hx2
           have HX2 := Lib.hid hx2; clear hx2 hsw
           have HB2 := Lib.hid (hal.blk (set_at' (set_at' hbw 0 (.slice a3 r.length l3)) 1 (.bool false)) id)
           have HF2 := Lib.hid (((HFB.out.then1 hf1).trans f2 fun i hi e => by have e : i = w.heap.size := e; omega).then1 hal)
           have HR2 := Lib.hid ((hr1.keep f2 fun k hk e => by have e : k = w.heap.size := e; have := HH0.out; omega).keep0 hal)
           have HTA2 := Lib.hid ((hta.turn (Q' := fun b => w.heap.size + 1 + 1 + 1 ≤ b) fun b hb hQ => ⟨f2.block b hb (fun e => by have e : b = w.heap.size := e; have := HSZ.out; have hQ : WB.heap.size ≤ b := hQ; omega), by have := HSZ.out; have hQ : WB.heap.size ≤ b := hQ; omega⟩).keep0 hal)
           clear hal f2 hta hr1 hf1 hbw)
        | (go_at_call 54; go_loud (refine (HRT.out _ _ _ _ HTA2.out).mono ?_); rintro e w3 ⟨rfl, hf3⟩; clear y0 y1 y2 y3 y4
           have g1 := (HTS2.out.keep hf3).r1
           have g2 := (HTS2.out.keep hf3).r2
           have x0 := cell_at' g1 0 rfl
           have x1 := cell_at' g1 1 rfl
           have f0 := free_at' g1 0
           have f1 := free_at' g1 1
           have hl1 := lt_of_block g1
           have x2 := cell_at' g2 0 rfl
           have x3 := cell_at' g2 1 rfl
           have f2 := free_at' g2 0
           have f3 := free_at' g2 1
           have hl2 := lt_of_block g2
           have G1 := Lib.hid g1; clear g1
           have G2 := Lib.hid g2; clear g2
           have hb3 := hf3.blk HB2.out id
           have y0 : w3.cell? ⟨w.heap.size, 0, none⟩ = some (.slice a3 r.length l3) := cell_at' hb3 0 rfl
           have y1 : w3.cell? ⟨w.heap.size, 1, none⟩ = some (.bool false) := cell_at' hb3 1 rfl
           have y4 := lt_of_block hb3
           have hx3 := hf3.blk HX2.out id
           have z0 : w3.cell? ⟨w1.heap.size, 0, none⟩ = some (.slice a4 n c4) := cell_at' hx3 0 rfl
           have z1 : w3.cell? ⟨w1.heap.size, 1, none⟩ = some (.slice a5 m c5) := cell_at' hx3 1 rfl
           have z4 := lt_of_block hx3
           have HF3 := Lib.hid hf3
           clear hf3 hb3 hx3))
      go_region
      all_goals
        clear x0 x1 x2 x3 f0 f1 f2 f3 hl1 hl2 y0 y1 y4 z0 z1 z4
        obtain ⟨y0, y1, y2, y3⟩ := stores4_at (x0 := .slice a4 n c4) (x1 := .slice a5 m c5) (y0 := .slice a3 r.length l3) (y1 := .bool false) G1.out G2.out _ rfl
        go_wp2
        exact bodyPost_ret (v := .tuple #[.agg #[.slice a4 n c4, .slice a5 m c5], .agg #[.slice a3 r.length l3, .bool false]]) (by simp [results, Tryz.results59, go_sem, y0, y1, y2, y3]) rfl (totFin (s := some r) (HTA2.out.keep0 HF3.out) (HR2.out.keep0 HF3.out) HH0.out (HF2.out.then1 HF3.out) ((stores4 w w3 _ _ _ _).then1 (Frm.drew NoS _)))
    | false =>
      rw [hr] at HRT
      obtain ⟨⟨rfl, rfl⟩, rfl⟩ := hc.det (tree_wrong (B := bdR) (st := some bs) (rest := r) (.inl ⟨bs, r, rfl, rfl, hg⟩) hr)
      clear hr hg hl hc
      go_enter Tryz.func59, Tryz.ntmps59
      go_wp2_with (first
        | (go_at_call 108; rw [← HWB.out]; go_loud (refine (HC.out WB _ HRB.out (Nat.le_trans HH0.out HFB.out.size)).mono ?_); rintro e w1 ⟨ev, kv, a3, l3, rfl, hta, hr1, hf1⟩; obtain ⟨a4, c4, rfl⟩ := hta.ents.rd.sl; obtain ⟨os5, hkr5, -⟩ := hta.kids; obtain ⟨a5, c5, rfl⟩ := hkr5.rd.sl; clear hkr5
           generalize es1.length = n at *
           generalize ks1.len = m at *
           have hbw := hf1.blk HBB.out id; have y0 := cell_at' hbw 0 rfl; have y1 := cell_at' hbw 1 rfl; have y2 := free_at' hbw 0; have y3 := free_at' hbw 1; have y4 := lt_of_block hbw
           have f2 := two_set w1 w.heap.size (.slice a3 r.length l3) (.bool false)
           have hsw : ((w1.setCell ⟨w.heap.size, 0, none⟩ (.slice a3 r.length l3)).setCell ⟨w.heap.size, 1, none⟩ (.bool false)).heap.size = w1.heap.size := by simp
           have hal : Frm NoS ((w1.setCell ⟨w.heap.size, 0, none⟩ (.slice a3 r.length l3)).setCell ⟨w.heap.size, 1, none⟩ (.bool false)) (((w1.setCell ⟨w.heap.size, 0, none⟩ (.slice a3 r.length l3)).setCell ⟨w.heap.size, 1, none⟩ (.bool false)).alloc (.cells #[.slice a4 n c4, .slice a5 m c5] 25)) := Frm.alloc _ _ _
           have HTS2 := Lib.hid ((HTS.out.put hf1 hr1 (L := r.length) rfl (b := false) rfl).keep hal)
           have hx2 := heap_alloc_new ((w1.setCell ⟨w.heap.size, 0, none⟩ (.slice a3 r.length l3)).setCell ⟨w.heap.size, 1, none⟩ (.bool false)) (.cells #[.slice a4 n c4, .slice a5 m c5] 25)
           rw [hsw] at hx2
           have HX2 := Lib.hid hx2; clear hx2 hsw
           have HB2 := Lib.hid (hal.blk (set_at' (set_at' hbw 0 (.slice a3 r.length l3)) 1 (.bool false)) id)
           have HF2 := Lib.hid (((HFB.out.then1 hf1).trans f2 fun i hi e => by have e : i = w.heap.size := e; omega).then1 hal)
           have HR2 := Lib.hid ((hr1.keep f2 fun k hk e => by have e : k = w.heap.size := e; have := HH0.out; omega).keep0 hal)
           have HTA2 := Lib.hid ((hta.turn (Q' := fun b => w.heap.size + 1 + 1 + 1 ≤ b) fun b hb hQ => ⟨f2.block b hb (fun e => by have e : b = w.heap.size := e; have := HSZ.out; have hQ : WB.heap.size ≤ b := hQ; omega), by have := HSZ.out; have hQ : WB.heap.size ≤ b := hQ; omega⟩).keep0 hal)
           clear hal f2 hta hr1 hf1 hbw)
        | (go_at_call 54; go_loud (refine (HRT.out _ _ _ _ HTA2.out).mono ?_); rintro e w3 ⟨rfl, hf3⟩; have HF3 := Lib.hid hf3; clear hf3)
        | (go_at_call 61; go_loud (refine (rbad_any _).mono ?_); rintro e w9 ⟨rfl, hf9⟩; clear y0 y1 y2 y3 y4
           have g1 := (HTS2.out.keep (HF3.out.then1 hf9)).r1
           have g2 := (HTS2.out.keep (HF3.out.then1 hf9)).r2
           have x0 := cell_at' g1 0 rfl
           have x1 := cell_at' g1 1 rfl
           have f0 := free_at' g1 0
           have f1 := free_at' g1 1
           have hl1 := lt_of_block g1
           have x2 := cell_at' g2 0 rfl
           have x3 := cell_at' g2 1 rfl
           have f2 := free_at' g2 0
           have f3 := free_at' g2 1
           have hl2 := lt_of_block g2
           have G1 := Lib.hid g1; clear g1
           have G2 := Lib.hid g2; clear g2
           have HF9 := Lib.hid (HF2.out.then1 (HF3.out.then1 hf9))
           clear hf9))
      clear x0 x1 x2 x3 f0 f1 f2 f3 hl1 hl2
      obtain ⟨y0, y1, y2, y3⟩ := stores4_at (x0 := .slice none 0 0) (x1 := .slice none 0 0) (y0 := .slice none 0 0) (y1 := .bool true) G1.out G2.out _ rfl
      exact bodyPost_ret (v := .tuple #[.agg #[.slice none 0 0, .slice none 0 0], .agg #[.slice none 0 0, .bool true]]) (by simp [results, Tryz.results59, go_sem, y0, y1, y2, y3]) rfl (totFin (a := none) (l := 0) (s := none) (tree_nilQ _ _) (RIn.bad w0 _) HH0.out HF9.out (stores4 w w9 _ _ _ _))
  · have hg' : ∀ bs es ks r, st = some bs → ¬ GetOk bdR 5 bs es ks r := fun bs es ks r h1 h2 => hg ⟨bs, es, ks, r, h1, h2⟩
    have HC := Lib.hid (fun W v (hr : RIn w0 W v st) (f : w0.heap.size ≤ W.heap.size) => r16tree_no hg' v W hr f hl)
    obtain ⟨⟨rfl, rfl⟩, rfl⟩ := hc.det (tree_bad (B := bdR) (es := []) (ks := .nil) wideR (.inr ⟨rfl, hg'⟩ : GetRes bdR 5 st [] .nil none))
    clear hg hg' hl hc
    generalize st.isNone = bd at *
    generalize (leftOf st).length = L0 at *
    have HWB := Lib.hid hWB; clear hWB
    go_enter Tryz.func59, Tryz.ntmps59
    go_wp2_with (first
        | (go_at_call 108; rw [← HWB.out]; go_loud (refine (HC.out WB _ HRB.out (Nat.le_trans HH0.out HFB.out.size)).mono ?_); rintro e w1 ⟨a4, n, c4, a5, m, c5, a3, l3, rfl, hr1, hf1⟩
           have hbw := hf1.blk HBB.out id; have y0 := cell_at' hbw 0 rfl; have y1 := cell_at' hbw 1 rfl; have y2 := free_at' hbw 0; have y3 := free_at' hbw 1; have y4 := lt_of_block hbw
           have f2 := two_set w1 w.heap.size (.slice a3 0 l3) (.bool true)
           have hsw : ((w1.setCell ⟨w.heap.size, 0, none⟩ (.slice a3 0 l3)).setCell ⟨w.heap.size, 1, none⟩ (.bool true)).heap.size = w1.heap.size := by simp
           have hal : Frm NoS ((w1.setCell ⟨w.heap.size, 0, none⟩ (.slice a3 0 l3)).setCell ⟨w.heap.size, 1, none⟩ (.bool true)) (((w1.setCell ⟨w.heap.size, 0, none⟩ (.slice a3 0 l3)).setCell ⟨w.heap.size, 1, none⟩ (.bool true)).alloc (.cells #[.slice a4 n c4, .slice a5 m c5] 25)) := Frm.alloc _ _ _
           have HTS2 := Lib.hid ((HTS.out.put hf1 hr1 (L := 0) rfl (b := true) rfl).keep hal)
           have hx2 := heap_alloc_new ((w1.setCell ⟨w.heap.size, 0, none⟩ (.slice a3 0 l3)).setCell ⟨w.heap.size, 1, none⟩ (.bool true)) (.cells #[.slice a4 n c4, .slice a5 m c5] 25)
           rw [hsw] at hx2
           have HX2 := Lib.hid hx2; clear hx2 hsw
           have HB2 := Lib.hid (hal.blk (set_at' (set_at' hbw 0 (.slice a3 0 l3)) 1 (.bool true)) id)
           have HF2 := Lib.hid (((HFB.out.then1 hf1).trans f2 fun i hi e => by have e : i = w.heap.size := e; omega).then1 hal)
           have HR2 := Lib.hid ((hr1.keep f2 fun k hk e => by have e : k = w.heap.size := e; have := HH0.out; omega).keep0 hal)
           clear hal f2 hr1 hf1 hbw)
        | (go_at_call 61; go_loud (refine (rbad_any _).mono ?_); rintro e w9 ⟨rfl, hf9⟩; clear y0 y1 y2 y3 y4
           have g1 := (HTS2.out.keep hf9).r1
           have g2 := (HTS2.out.keep hf9).r2
           have x0 := cell_at' g1 0 rfl
           have x1 := cell_at' g1 1 rfl
           have f0 := free_at' g1 0
           have f1 := free_at' g1 1
           have hl1 := lt_of_block g1
           have x2 := cell_at' g2 0 rfl
           have x3 := cell_at' g2 1 rfl
           have f2 := free_at' g2 0
           have f3 := free_at' g2 1
           have hl2 := lt_of_block g2
           have G1 := Lib.hid g1; clear g1
           have G2 := Lib.hid g2; clear g2
           have HF9 := Lib.hid (HF2.out.then1 hf9)
           clear hf9))
    clear x0 x1 x2 x3 f0 f1 f2 f3 hl1 hl2
    obtain ⟨y0, y1, y2, y3⟩ := stores4_at (x0 := .slice none 0 0) (x1 := .slice none 0 0) (y0 := .slice none 0 0) (y1 := .bool true) G1.out G2.out _ rfl
    exact bodyPost_ret (v := .tuple #[.agg #[.slice none 0 0, .slice none 0 0], .agg #[.slice none 0 0, .bool true]]) (by simp [results, Tryz.results59, go_sem, y0, y1, y2, y3]) rfl (totFin (a := none) (l := 0) (s := none) (tree_nilQ _ _) (RIn.bad w0 _) HH0.out HF9.out (stores4 w w9 _ _ _ _))
end Go.Proofs.YtafdclkpeomomaaGreat
