/- Words for the law MsgSet: BunGet, R7Vec. -/
import Derived.Test.YtcahemkomfaabaaGreatMsgSetG4
import Derived.Test.YtcahemkomfaabaaGreatMsgSetG11
import Derived.Test.YtcahemkomfaabaaGreatMsgSetG17
import Derived.Test.YtcahemkomfaabaaGreatMsgSetG24
import Derived.Test.YtcahemkomfaabaaGreatMsgSetG27
set_option linter.unusedSimpArgs false
set_option linter.unusedVariables false
set_option maxHeartbeats 32000000
set_option maxRecDepth 1000000
namespace Go.Proofs.YtcahemkomfaabaaGreat
open Go.RowKit
theorem ten_set (w : World) (b : Nat) (x0 x1 x2 x3 x4 x5 x6 x7 x8 x9 : Value) : Frm (Only b) w (((((((((((w).setCell ⟨b, 0, none⟩ (x0)).setCell ⟨b, 1, none⟩ (x1)).setCell ⟨b, 2, none⟩ (x2)).setCell ⟨b, 3, none⟩ (x3)).setCell ⟨b, 4, none⟩ (x4)).setCell ⟨b, 5, none⟩ (x5)).setCell ⟨b, 6, none⟩ (x6)).setCell ⟨b, 7, none⟩ (x7)).setCell ⟨b, 8, none⟩ (x8)).setCell ⟨b, 9, none⟩ (x9)) :=
 (((four_set w b x0 x1 x2 x3).trans ((((only_set _ b 4 x4).trans (only_set _ b 5 x5) fun _ _ h => h).trans (only_set _ b 6 x6) fun _ _ h => h).trans (only_set _ b 7 x7) fun _ _ h => h) fun _ _ h => h).trans (only_set _ b 8 x8) fun _ _ h => h).trans (only_set _ b 9 x9) fun _ _ h => h
theorem ten_cells {w : World} {b : Nat} {a0 a1 a2 a3 a4 a5 a6 a7 a8 a9 : Value} {T : TypeId} (h : w.heap[b]? = some (.cells #[a0, a1, a2, a3, a4, a5, a6, a7, a8, a9] T (0, 0))) (x0 x1 x2 x3 x4 x5 x6 x7 x8 x9 : Value) (W : World) (hW : W = ((((((((((w).setCell ⟨b, 0, none⟩ (x0)).setCell ⟨b, 1, none⟩ (x1)).setCell ⟨b, 2, none⟩ (x2)).setCell ⟨b, 3, none⟩ (x3)).setCell ⟨b, 4, none⟩ (x4)).setCell ⟨b, 5, none⟩ (x5)).setCell ⟨b, 6, none⟩ (x6)).setCell ⟨b, 7, none⟩ (x7)).setCell ⟨b, 8, none⟩ (x8)).setCell ⟨b, 9, none⟩ (x9)) :
 W.heap[b]? = some (.cells #[x0, x1, x2, x3, x4, x5, x6, x7, x8, x9] T (0, 0)) := by
 subst hW
 have e0 : ((w).setCell ⟨b, 0, none⟩ (x0)).heap[b]? = some (.cells #[x0, a1, a2, a3, a4, a5, a6, a7, a8, a9] T (0, 0)) := set_at' h 0 x0
 have e1 : (((w).setCell ⟨b, 0, none⟩ (x0)).setCell ⟨b, 1, none⟩ (x1)).heap[b]? = some (.cells #[x0, x1, a2, a3, a4, a5, a6, a7, a8, a9] T (0, 0)) := set_at' e0 1 x1
 have e2 : ((((w).setCell ⟨b, 0, none⟩ (x0)).setCell ⟨b, 1, none⟩ (x1)).setCell ⟨b, 2, none⟩ (x2)).heap[b]? = some (.cells #[x0, x1, x2, a3, a4, a5, a6, a7, a8, a9] T (0, 0)) := set_at' e1 2 x2
 have e3 : (((((w).setCell ⟨b, 0, none⟩ (x0)).setCell ⟨b, 1, none⟩ (x1)).setCell ⟨b, 2, none⟩ (x2)).setCell ⟨b, 3, none⟩ (x3)).heap[b]? = some (.cells #[x0, x1, x2, x3, a4, a5, a6, a7, a8, a9] T (0, 0)) := set_at' e2 3 x3
 have e4 : ((((((w).setCell ⟨b, 0, none⟩ (x0)).setCell ⟨b, 1, none⟩ (x1)).setCell ⟨b, 2, none⟩ (x2)).setCell ⟨b, 3, none⟩ (x3)).setCell ⟨b, 4, none⟩ (x4)).heap[b]? = some (.cells #[x0, x1, x2, x3, x4, a5, a6, a7, a8, a9] T (0, 0)) := set_at' e3 4 x4
 have e5 : (((((((w).setCell ⟨b, 0, none⟩ (x0)).setCell ⟨b, 1, none⟩ (x1)).setCell ⟨b, 2, none⟩ (x2)).setCell ⟨b, 3, none⟩ (x3)).setCell ⟨b, 4, none⟩ (x4)).setCell ⟨b, 5, none⟩ (x5)).heap[b]? = some (.cells #[x0, x1, x2, x3, x4, x5, a6, a7, a8, a9] T (0, 0)) := set_at' e4 5 x5
 have e6 : ((((((((w).setCell ⟨b, 0, none⟩ (x0)).setCell ⟨b, 1, none⟩ (x1)).setCell ⟨b, 2, none⟩ (x2)).setCell ⟨b, 3, none⟩ (x3)).setCell ⟨b, 4, none⟩ (x4)).setCell ⟨b, 5, none⟩ (x5)).setCell ⟨b, 6, none⟩ (x6)).heap[b]? = some (.cells #[x0, x1, x2, x3, x4, x5, x6, a7, a8, a9] T (0, 0)) := set_at' e5 6 x6
 have e7 : (((((((((w).setCell ⟨b, 0, none⟩ (x0)).setCell ⟨b, 1, none⟩ (x1)).setCell ⟨b, 2, none⟩ (x2)).setCell ⟨b, 3, none⟩ (x3)).setCell ⟨b, 4, none⟩ (x4)).setCell ⟨b, 5, none⟩ (x5)).setCell ⟨b, 6, none⟩ (x6)).setCell ⟨b, 7, none⟩ (x7)).heap[b]? = some (.cells #[x0, x1, x2, x3, x4, x5, x6, x7, a8, a9] T (0, 0)) := set_at' e6 7 x7
 have e8 : ((((((((((w).setCell ⟨b, 0, none⟩ (x0)).setCell ⟨b, 1, none⟩ (x1)).setCell ⟨b, 2, none⟩ (x2)).setCell ⟨b, 3, none⟩ (x3)).setCell ⟨b, 4, none⟩ (x4)).setCell ⟨b, 5, none⟩ (x5)).setCell ⟨b, 6, none⟩ (x6)).setCell ⟨b, 7, none⟩ (x7)).setCell ⟨b, 8, none⟩ (x8)).heap[b]? = some (.cells #[x0, x1, x2, x3, x4, x5, x6, x7, x8, a9] T (0, 0)) := set_at' e7 8 x8
 have e9 : (((((((((((w).setCell ⟨b, 0, none⟩ (x0)).setCell ⟨b, 1, none⟩ (x1)).setCell ⟨b, 2, none⟩ (x2)).setCell ⟨b, 3, none⟩ (x3)).setCell ⟨b, 4, none⟩ (x4)).setCell ⟨b, 5, none⟩ (x5)).setCell ⟨b, 6, none⟩ (x6)).setCell ⟨b, 7, none⟩ (x7)).setCell ⟨b, 8, none⟩ (x8)).setCell ⟨b, 9, none⟩ (x9)).heap[b]? = some (.cells #[x0, x1, x2, x3, x4, x5, x6, x7, x8, x9] T (0, 0)) := set_at' e8 9 x9
 exact e9
def BunTk (b : BunD) (s : Option (List UInt8)) (ib : Nat) (w : World) (e : Ending) (w' : World) : Prop :=
 ∃ ev kv cv, e = .returned (.agg #[.int .i64 b.dc, .int .i64 b.af, .int .i64 b.la, .int .i64 b.v0, .int .i64 b.v1, .int .i64 b.v2, .int .i64 b.v3, ev, kv, cv]) ∧ TreeAt (fun b => w.heap.size ≤ b) w' ev kv b.es b.ks ∧ CtxQ (fun b => w.heap.size ≤ b) w' cv b.c ∧ InSt w' ib s ∧ Frm (Only ib) w w'
structure GB (w W : World) (ib : Nat) (t : Option (List UInt8)) (B : Nat) (cs : Array Value) : Prop where
 ins : InSt W ib t
 arr : W.heap[B]? = some (.cells cs 64 (0, 0))
 res : W.heap[w.heap.size]? = some (.cells #[.int .i64 0, .int .i64 0, .int .i64 0, .int .i64 0, .int .i64 0, .int .i64 0, .int .i64 0, .slice none 0 0, .slice none 0 0, .slice none 0 0] 64 (0, 0))
 frm : Frm (Only ib) w W
 hib : ib < w.heap.size
 hB : w.heap.size < B
theorem GB.call {w W W1 : World} {ib B : Nat} {t t' : Option (List UInt8)} {cs : Array Value} (h : GB w W ib t B cs) (hi : InSt W1 ib t') (f : Frm (Only ib) W W1) : GB w W1 ib t' B cs :=
 ⟨hi, f.blk h.arr fun e => (by have e : B = ib := e; have := h.hib; have := h.hB; omega), f.blk h.res fun e => (by have e : w.heap.size = ib := e; have := h.hib; omega), h.frm.trans f fun _ _ s => s, h.hib, h.hB⟩
theorem GB.set {w W : World} {ib B : Nat} {t : Option (List UInt8)} {cs : Array Value} (h : GB w W ib t B cs) (j : Nat) (u : Value) : GB w (W.setCell ⟨B, j, none⟩ u) ib t B (cs.setIfInBounds j u) :=
 have f := only_set W B j u
 ⟨h.ins.keep f fun k hk e => (by have e : k = B := e; have := h.hib; have := h.hB; omega), set_at' h.arr j u, f.blk h.res fun e => (by have e : w.heap.size = B := e; have := h.hB; omega), h.frm.trans f fun i hi e => (by have e : i = B := e; have := h.hB; omega), h.hib, h.hB⟩
theorem GB.out {w W : World} {ib B : Nat} {s : Option (List UInt8)} {cs : Array Value} {ev kv cv : Value} (h : GB w W ib s B cs) (b : BunD) (ht : TreeAt (fun b => w.heap.size < b) W ev kv b.es b.ks) (hx : CtxQ (fun b => w.heap.size < b) W cv b.c) (W' : World) (f : Frm (Only w.heap.size) W W') :
 BunTk b s ib w (.returned (.agg #[.int .i64 b.dc, .int .i64 b.af, .int .i64 b.la, .int .i64 b.v0, .int .i64 b.v1, .int .i64 b.v2, .int .i64 b.v3, ev, kv, cv])) W' :=
 have turn : ∀ k, k < W.heap.size → w.heap.size < k → W'.heap[k]? = W.heap[k]? ∧ w.heap.size ≤ k := fun k hk hQ => ⟨f.block k hk fun e => (by have e : k = w.heap.size := e; omega), Nat.le_of_lt hQ⟩
 ⟨ev, kv, cv, rfl, ht.turn turn, RdQ.turn hx turn, h.ins.keep f fun k hk e => (by have e : k = w.heap.size := e; have := h.hib; omega), h.frm.trans f fun i hi e => (by have e : i = w.heap.size := e; omega)⟩
theorem bunGet_fit (ib : Nat) (st s : Option (List UInt8)) (b : BunD) (w : World) (hc : BunRes st b s) (h : InSt w ib st) (hl : (leftOf st).length ≤ 60000) (hfit : BunFit st) :
 Calls Tryz.prog 56 #[.pointer (some ⟨ib, 0, none⟩)] w (BunTk b s ib w) := by
 obtain ⟨dc, t1, g1⟩ := NumStep.total st 4
 obtain ⟨af, t2, g2⟩ := NumStep.total t1 1099511627776
 obtain ⟨la, t3, g3⟩ := NumStep.total t2 1099511627776
 obtain ⟨v0, v1, v2, v3, t4, g4⟩ := VecRes.total t3
 obtain ⟨es, ks, c, t5, g5⟩ := CauRes.total t4
 have hl4 : (leftOf t4).length ≤ 60000 := by
  have q1 := g1.left
  have q2 := g2.left
  have q3 := g3.left
  have q4 := g4.left
  omega
 have hf4 := hfit 4 1099511627776 _ _ _ _ _ _ _ _ _ _ _ (by decide) (by decide) (by decide) (by decide) g1 g2 g3 g4
 have hok := hf4.ok g5
 have hlt := h.lt
 have HI0 := Lib.hid (h.keep (Frm.alloc NoS w (.cells #[.int .i64 0, .int .i64 0, .int .i64 0, .int .i64 0, .int .i64 0, .int .i64 0, .int .i64 0, .slice none 0 0, .slice none 0 0, .slice none 0 0] 64)) fun _ _ => id)
 have HB0 := Lib.hid (heap_alloc_new w (.cells #[.int .i64 0, .int .i64 0, .int .i64 0, .int .i64 0, .int .i64 0, .int .i64 0, .int .i64 0, .slice none 0 0, .slice none 0 0, .slice none 0 0] 64))
 have HF0 := Lib.hid ((Frm.alloc NoS w (.cells #[.int .i64 0, .int .i64 0, .int .i64 0, .int .i64 0, .int .i64 0, .int .i64 0, .int .i64 0, .slice none 0 0, .slice none 0 0, .slice none 0 0] 64)).mono (T := Only ib) fun _ _ s => s.elim)
 have HLT := Lib.hid hlt; clear hlt h hl
 have HC := Lib.hid hc; clear hc
 have HG1 := Lib.hid g1
 have HG2 := Lib.hid g2
 have HG3 := Lib.hid g3
 have HV := Lib.hid (fun W (hi : InSt W ib t3) => pGetVector_at ib t3 t4 v0 v1 v2 v3 W g4 hi)
 have HX := Lib.hid (fun W (hi : InSt W ib t4) => pGetCausal_fit ib t4 t5 es ks c W g5 hi hl4 hf4)
 have HRT := Lib.hid (fun W Q ev kv cv (h : CauAt Q W ev kv cv es ks c) => bRight_any Q es ks c W dc af la v0 v1 v2 v3 ev kv cv h hok)
 have HPB := Lib.hid (fun hb => bun_bad (m1 := 4) (m2 := 1099511627776) (by decide) (by decide) (by decide) (by decide) (b := ⟨dc, af, la, v0, v1, v2, v3, es, ks, c⟩) g1 g2 g3 g4 g5 hb)
 have HPG := Lib.hid (fun (r : List UInt8) (e : t5 = some r) hr => bun_good (b := ⟨dc, af, la, v0, v1, v2, v3, es, ks, c⟩) g1 g2 g3 g4 (e ▸ g5) hr)
 clear g1 g2 g3 g4 g5 hok hl4 hf4 hfit
 cases t5 with
 | none =>
  obtain ⟨rfl, rfl⟩ := HC.out.det (HPB.out (.inl rfl))
  clear HRT HPB HPG
  · go_enter Tryz.func56, Tryz.ntmps56
    go_wp2_with (first
     | (go_at_call 53; first
       | (refine (inum_at ib t2 1099511627776 la t3 _ HI2.out HG3.out (by omega) (by omega)).mono ?_; rintro e w3 ⟨rfl, hi3, hf3⟩
          have hn : w.heap.size < w3.heap.size := by have h1 := lt_of_block (((HF12.out.trans hf3 fun _ _ h => h).blk HB0.out fun e => by have e : w.heap.size = ib := e; have := HLT.out; omega)); exact h1
          have HGB := Lib.hid (show GB w (w3.alloc (.cells #[.int .i64 dc, .int .i64 af, .int .i64 la, .int .i64 0, .int .i64 0, .int .i64 0, .int .i64 0, .slice none 0 0, .slice none 0 0, .slice none 0 0] 64)) ib t3 w3.heap.size #[.int .i64 dc, .int .i64 af, .int .i64 la, .int .i64 0, .int .i64 0, .int .i64 0, .int .i64 0, .slice none 0 0, .slice none 0 0, .slice none 0 0] from
           ⟨hi3.keep (Frm.alloc NoS w3 _) fun _ _ => id, heap_alloc_new w3 _, (Frm.alloc NoS w3 _).blk ((HF12.out.trans hf3 fun _ _ h => h).blk HB0.out fun e => (by have e : w.heap.size = ib := e; have := HLT.out; omega)) id, ((HF0.out.trans HF12.out fun _ _ h => h).trans hf3 fun _ _ h => h).trans (Frm.alloc NoS w3 _) fun _ _ s => s.elim, HLT.out, hn⟩)
          clear hi3 hf3)
       | (refine (inum_at ib t1 1099511627776 af t2 _ HI1.out HG2.out (by omega) (by omega)).mono ?_; rintro e w2 ⟨rfl, hi2, hf2⟩; have HI2 := Lib.hid hi2; have HF12 := Lib.hid (HF1.out.trans hf2 fun _ _ h => h); clear hi2 hf2)
       | (refine (inum_at ib st 4 dc t1 _ HI0.out HG1.out (by omega) (by omega)).mono ?_; rintro e w1 ⟨rfl, hi1, hf1⟩; have HI1 := Lib.hid hi1; have HF1 := Lib.hid hf1; clear hi1 hf1))
     | (go_at_call 54; refine (HV.out _ HGB.out.ins).mono ?_; rintro e w4 ⟨rfl, hi4, hf4⟩
        have sHGV0 : GB w ((w4).setCell ⟨w3.heap.size, 3, none⟩ (.int .i64 v0)) ib t4 w3.heap.size #[.int .i64 dc, .int .i64 af, .int .i64 la, .int .i64 v0, .int .i64 0, .int .i64 0, .int .i64 0, .slice none 0 0, .slice none 0 0, .slice none 0 0] := (HGB.out.call hi4 hf4).set 3 (.int .i64 v0)
        have sHGV1 : GB w (((w4).setCell ⟨w3.heap.size, 3, none⟩ (.int .i64 v0)).setCell ⟨w3.heap.size, 4, none⟩ (.int .i64 v1)) ib t4 w3.heap.size #[.int .i64 dc, .int .i64 af, .int .i64 la, .int .i64 v0, .int .i64 v1, .int .i64 0, .int .i64 0, .slice none 0 0, .slice none 0 0, .slice none 0 0] := sHGV0.set 4 (.int .i64 v1)
        have sHGV2 : GB w ((((w4).setCell ⟨w3.heap.size, 3, none⟩ (.int .i64 v0)).setCell ⟨w3.heap.size, 4, none⟩ (.int .i64 v1)).setCell ⟨w3.heap.size, 5, none⟩ (.int .i64 v2)) ib t4 w3.heap.size #[.int .i64 dc, .int .i64 af, .int .i64 la, .int .i64 v0, .int .i64 v1, .int .i64 v2, .int .i64 0, .slice none 0 0, .slice none 0 0, .slice none 0 0] := sHGV1.set 5 (.int .i64 v2)
        have sHGV3 : GB w (((((w4).setCell ⟨w3.heap.size, 3, none⟩ (.int .i64 v0)).setCell ⟨w3.heap.size, 4, none⟩ (.int .i64 v1)).setCell ⟨w3.heap.size, 5, none⟩ (.int .i64 v2)).setCell ⟨w3.heap.size, 6, none⟩ (.int .i64 v3)) ib t4 w3.heap.size #[.int .i64 dc, .int .i64 af, .int .i64 la, .int .i64 v0, .int .i64 v1, .int .i64 v2, .int .i64 v3, .slice none 0 0, .slice none 0 0, .slice none 0 0] := sHGV2.set 6 (.int .i64 v3)
        have HGV := Lib.hid sHGV3
        clear sHGV0 sHGV1 sHGV2 sHGV3
        have z3 := cell_at' (HGB.out.call hi4 hf4).arr 3 rfl
        have f3 := free_at' (HGB.out.call hi4 hf4).arr 3
        have z4 := cell_at' (HGB.out.call hi4 hf4).arr 4 rfl
        have f4 := free_at' (HGB.out.call hi4 hf4).arr 4
        have z5 := cell_at' (HGB.out.call hi4 hf4).arr 5 rfl
        have f5 := free_at' (HGB.out.call hi4 hf4).arr 5
        have z6 := cell_at' (HGB.out.call hi4 hf4).arr 6 rfl
        have f6 := free_at' (HGB.out.call hi4 hf4).arr 6
        have zl := lt_of_block (HGB.out.call hi4 hf4).arr
        clear hi4 hf4)
     | (go_at_call 57; refine (HX.out _ HGV.out.ins).mono ?_; rintro e w5 ⟨ev, kv, cv, rfl, hta, hrc, hi5, hf5⟩; obtain ⟨a3, c3, rfl⟩ := hta.ents.rd.sl; obtain ⟨os3, hkr3, -⟩ := hta.kids; obtain ⟨a4, c4, rfl⟩ := hkr3.rd.sl; obtain ⟨a5, c5, rfl⟩ := hrc.at_.sl; clear hkr3 z3 z4 z5 z6 f3 f4 f5 f6 zl
        have hb5 := lt_of_block HGV.out.arr
        have sHGX0 : GB w ((w5).setCell ⟨w3.heap.size, 7, none⟩ (.slice a3 es.length c3)) ib none w3.heap.size #[.int .i64 dc, .int .i64 af, .int .i64 la, .int .i64 v0, .int .i64 v1, .int .i64 v2, .int .i64 v3, .slice a3 es.length c3, .slice none 0 0, .slice none 0 0] := (HGV.out.call hi5 hf5).set 7 (.slice a3 es.length c3)
        have sHGX1 : GB w (((w5).setCell ⟨w3.heap.size, 7, none⟩ (.slice a3 es.length c3)).setCell ⟨w3.heap.size, 8, none⟩ (.slice a4 ks.len c4)) ib none w3.heap.size #[.int .i64 dc, .int .i64 af, .int .i64 la, .int .i64 v0, .int .i64 v1, .int .i64 v2, .int .i64 v3, .slice a3 es.length c3, .slice a4 ks.len c4, .slice none 0 0] := sHGX0.set 8 (.slice a4 ks.len c4)
        have sHGX2 : GB w ((((w5).setCell ⟨w3.heap.size, 7, none⟩ (.slice a3 es.length c3)).setCell ⟨w3.heap.size, 8, none⟩ (.slice a4 ks.len c4)).setCell ⟨w3.heap.size, 9, none⟩ (.slice a5 c.length c5)) ib none w3.heap.size #[.int .i64 dc, .int .i64 af, .int .i64 la, .int .i64 v0, .int .i64 v1, .int .i64 v2, .int .i64 v3, .slice a3 es.length c3, .slice a4 ks.len c4, .slice a5 c.length c5] := sHGX1.set 9 (.slice a5 c.length c5)
        have HGX := Lib.hid sHGX2
        clear sHGX0 sHGX1 sHGX2
        have hft : Frm (Only w3.heap.size) w5 ((((w5).setCell ⟨w3.heap.size, 7, none⟩ (.slice a3 es.length c3)).setCell ⟨w3.heap.size, 8, none⟩ (.slice a4 ks.len c4)).setCell ⟨w3.heap.size, 9, none⟩ (.slice a5 c.length c5)) := ((only_set w5 _ 7 _).trans (only_set _ _ 8 _) fun _ _ h => h).trans (only_set _ _ 9 _) fun _ _ h => h
        have hB := HGV.out.hB
        have turn : ∀ k, k < w5.heap.size → (((((w4).setCell ⟨w3.heap.size, 3, none⟩ (.int .i64 v0)).setCell ⟨w3.heap.size, 4, none⟩ (.int .i64 v1)).setCell ⟨w3.heap.size, 5, none⟩ (.int .i64 v2)).setCell ⟨w3.heap.size, 6, none⟩ (.int .i64 v3)).heap.size ≤ k → ((((w5).setCell ⟨w3.heap.size, 7, none⟩ (.slice a3 es.length c3)).setCell ⟨w3.heap.size, 8, none⟩ (.slice a4 ks.len c4)).setCell ⟨w3.heap.size, 9, none⟩ (.slice a5 c.length c5)).heap[k]? = w5.heap[k]? ∧ w.heap.size < k := fun k hk hQ => ⟨hft.block k hk fun e => (by have e : k = w3.heap.size := e; subst e; exact absurd (Nat.lt_of_lt_of_le hb5 hQ) (Nat.lt_irrefl _)), Nat.lt_trans hB (Nat.lt_of_lt_of_le hb5 hQ)⟩
        have HTA := Lib.hid (hta.turn turn)
        have HRC := Lib.hid (show CtxQ (fun k => w.heap.size < k) _ (.slice a5 c.length c5) c from RdQ.turn hrc turn)
        have z7 := cell_at' (HGV.out.call hi5 hf5).arr 7 rfl
        have f7 := free_at' (HGV.out.call hi5 hf5).arr 7
        have z8 := cell_at' (HGV.out.call hi5 hf5).arr 8 rfl
        have f8 := free_at' (HGV.out.call hi5 hf5).arr 8
        have z9 := cell_at' (HGV.out.call hi5 hf5).arr 9 rfl
        have f9 := free_at' (HGV.out.call hi5 hf5).arr 9
        have zl := lt_of_block (HGV.out.call hi5 hf5).arr
        have z0 : w5.cell? ⟨w3.heap.size, 0, none⟩ = some (.int .i64 dc) := cell_at' (HGV.out.call hi5 hf5).arr 0 rfl
        have z1 : w5.cell? ⟨w3.heap.size, 1, none⟩ = some (.int .i64 af) := cell_at' (HGV.out.call hi5 hf5).arr 1 rfl
        have z2 : w5.cell? ⟨w3.heap.size, 2, none⟩ = some (.int .i64 la) := cell_at' (HGV.out.call hi5 hf5).arr 2 rfl
        have z3 : w5.cell? ⟨w3.heap.size, 3, none⟩ = some (.int .i64 v0) := cell_at' (HGV.out.call hi5 hf5).arr 3 rfl
        have z4 : w5.cell? ⟨w3.heap.size, 4, none⟩ = some (.int .i64 v1) := cell_at' (HGV.out.call hi5 hf5).arr 4 rfl
        have z5 : w5.cell? ⟨w3.heap.size, 5, none⟩ = some (.int .i64 v2) := cell_at' (HGV.out.call hi5 hf5).arr 5 rfl
        have z6 : w5.cell? ⟨w3.heap.size, 6, none⟩ = some (.int .i64 v3) := cell_at' (HGV.out.call hi5 hf5).arr 6 rfl
        clear hft hta hrc hi5 hf5 turn hb5 hB
        generalize es.length = n at *
        generalize ks.len = m at *
        generalize c.length = k at *)
     | (go_at_call 55; refine (bad_go ib _ _ HGX.out.ins).mono ?_; rintro e w6 ⟨rfl, rfl⟩)
     | (go_at_call 109; obtain ⟨a, c, hh⟩ := HGX.out.ins.heap; refine (fail_go ib _ _ _ hh).mono ?_; rintro e w8 ⟨rfl, hi8, hf8⟩
        clear z0 z1 z2 z3 z4 z5 z6 z7 z8 z9 f7 f8 f9 zl
        have HG8 := Lib.hid (HGX.out.call (show InSt w8 ib none from hi8) hf8)
        clear hi8 hf8 hh
        have y0 := cell_at' HG8.out.res 0 rfl
        have g0 := free_at' HG8.out.res 0
        have y1 := cell_at' HG8.out.res 1 rfl
        have g1 := free_at' HG8.out.res 1
        have y2 := cell_at' HG8.out.res 2 rfl
        have g2 := free_at' HG8.out.res 2
        have y3 := cell_at' HG8.out.res 3 rfl
        have g3 := free_at' HG8.out.res 3
        have y4 := cell_at' HG8.out.res 4 rfl
        have g4 := free_at' HG8.out.res 4
        have y5 := cell_at' HG8.out.res 5 rfl
        have g5 := free_at' HG8.out.res 5
        have y6 := cell_at' HG8.out.res 6 rfl
        have g6 := free_at' HG8.out.res 6
        have y7 := cell_at' HG8.out.res 7 rfl
        have g7 := free_at' HG8.out.res 7
        have y8 := cell_at' HG8.out.res 8 rfl
        have g8 := free_at' HG8.out.res 8
        have y9 := cell_at' HG8.out.res 9 rfl
        have g9 := free_at' HG8.out.res 9
        have yl := lt_of_block HG8.out.res))
    clear y0 g0 y1 g1 y2 g2 y3 g3 y4 g4 y5 g5 y6 g6 y7 g7 y8 g8 y9 g9 yl
    have hten := ten_cells HG8.out.res (.int .i64 0) (.int .i64 0) (.int .i64 0) (.int .i64 0) (.int .i64 0) (.int .i64 0) (.int .i64 0) (.slice none 0 0) (.slice none 0 0) (.slice none 0 0) _ rfl
    have y0 := cell_at' hten 0 rfl
    have y1 := cell_at' hten 1 rfl
    have y2 := cell_at' hten 2 rfl
    have y3 := cell_at' hten 3 rfl
    have y4 := cell_at' hten 4 rfl
    have y5 := cell_at' hten 5 rfl
    have y6 := cell_at' hten 6 rfl
    have y7 := cell_at' hten 7 rfl
    have y8 := cell_at' hten 8 rfl
    have y9 := cell_at' hten 9 rfl
    exact bodyPost_ret (v := .agg #[.int .i64 0, .int .i64 0, .int .i64 0, .int .i64 0, .int .i64 0, .int .i64 0, .int .i64 0, .slice none 0 0, .slice none 0 0, .slice none 0 0]) (by simp [results, Tryz.results56, go_sem, y0, y1, y2, y3, y4, y5, y6, y7, y8, y9]) rfl (HG8.out.out BunD.zero (tree_nilQ _ _) (rdq_nil _ _) _ (ten_set w8 _ _ _ _ _ _ _ _ _ _ _))
 | some r =>
  by_cases hr : BunRight dc af la (vecF v0 v1 v2 v3) es ks c
  · rw [tf_true hr] at HRT
    obtain ⟨rfl, rfl⟩ := HC.out.det (HPG.out r rfl hr)
    clear hr HPB HPG
    go_enter Tryz.func56, Tryz.ntmps56
    go_wp2_with (first
     | (go_at_call 53; first
       | (refine (inum_at ib t2 1099511627776 la t3 _ HI2.out HG3.out (by omega) (by omega)).mono ?_; rintro e w3 ⟨rfl, hi3, hf3⟩
          have hn : w.heap.size < w3.heap.size := by have h1 := lt_of_block (((HF12.out.trans hf3 fun _ _ h => h).blk HB0.out fun e => by have e : w.heap.size = ib := e; have := HLT.out; omega)); exact h1
          have HGB := Lib.hid (show GB w (w3.alloc (.cells #[.int .i64 dc, .int .i64 af, .int .i64 la, .int .i64 0, .int .i64 0, .int .i64 0, .int .i64 0, .slice none 0 0, .slice none 0 0, .slice none 0 0] 64)) ib t3 w3.heap.size #[.int .i64 dc, .int .i64 af, .int .i64 la, .int .i64 0, .int .i64 0, .int .i64 0, .int .i64 0, .slice none 0 0, .slice none 0 0, .slice none 0 0] from
           ⟨hi3.keep (Frm.alloc NoS w3 _) fun _ _ => id, heap_alloc_new w3 _, (Frm.alloc NoS w3 _).blk ((HF12.out.trans hf3 fun _ _ h => h).blk HB0.out fun e => (by have e : w.heap.size = ib := e; have := HLT.out; omega)) id, ((HF0.out.trans HF12.out fun _ _ h => h).trans hf3 fun _ _ h => h).trans (Frm.alloc NoS w3 _) fun _ _ s => s.elim, HLT.out, hn⟩)
          clear hi3 hf3)
       | (refine (inum_at ib t1 1099511627776 af t2 _ HI1.out HG2.out (by omega) (by omega)).mono ?_; rintro e w2 ⟨rfl, hi2, hf2⟩; have HI2 := Lib.hid hi2; have HF12 := Lib.hid (HF1.out.trans hf2 fun _ _ h => h); clear hi2 hf2)
       | (refine (inum_at ib st 4 dc t1 _ HI0.out HG1.out (by omega) (by omega)).mono ?_; rintro e w1 ⟨rfl, hi1, hf1⟩; have HI1 := Lib.hid hi1; have HF1 := Lib.hid hf1; clear hi1 hf1))
     | (go_at_call 54; refine (HV.out _ HGB.out.ins).mono ?_; rintro e w4 ⟨rfl, hi4, hf4⟩
        have sHGV0 : GB w ((w4).setCell ⟨w3.heap.size, 3, none⟩ (.int .i64 v0)) ib t4 w3.heap.size #[.int .i64 dc, .int .i64 af, .int .i64 la, .int .i64 v0, .int .i64 0, .int .i64 0, .int .i64 0, .slice none 0 0, .slice none 0 0, .slice none 0 0] := (HGB.out.call hi4 hf4).set 3 (.int .i64 v0)
        have sHGV1 : GB w (((w4).setCell ⟨w3.heap.size, 3, none⟩ (.int .i64 v0)).setCell ⟨w3.heap.size, 4, none⟩ (.int .i64 v1)) ib t4 w3.heap.size #[.int .i64 dc, .int .i64 af, .int .i64 la, .int .i64 v0, .int .i64 v1, .int .i64 0, .int .i64 0, .slice none 0 0, .slice none 0 0, .slice none 0 0] := sHGV0.set 4 (.int .i64 v1)
        have sHGV2 : GB w ((((w4).setCell ⟨w3.heap.size, 3, none⟩ (.int .i64 v0)).setCell ⟨w3.heap.size, 4, none⟩ (.int .i64 v1)).setCell ⟨w3.heap.size, 5, none⟩ (.int .i64 v2)) ib t4 w3.heap.size #[.int .i64 dc, .int .i64 af, .int .i64 la, .int .i64 v0, .int .i64 v1, .int .i64 v2, .int .i64 0, .slice none 0 0, .slice none 0 0, .slice none 0 0] := sHGV1.set 5 (.int .i64 v2)
        have sHGV3 : GB w (((((w4).setCell ⟨w3.heap.size, 3, none⟩ (.int .i64 v0)).setCell ⟨w3.heap.size, 4, none⟩ (.int .i64 v1)).setCell ⟨w3.heap.size, 5, none⟩ (.int .i64 v2)).setCell ⟨w3.heap.size, 6, none⟩ (.int .i64 v3)) ib t4 w3.heap.size #[.int .i64 dc, .int .i64 af, .int .i64 la, .int .i64 v0, .int .i64 v1, .int .i64 v2, .int .i64 v3, .slice none 0 0, .slice none 0 0, .slice none 0 0] := sHGV2.set 6 (.int .i64 v3)
        have HGV := Lib.hid sHGV3
        clear sHGV0 sHGV1 sHGV2 sHGV3
        have z3 := cell_at' (HGB.out.call hi4 hf4).arr 3 rfl
        have f3 := free_at' (HGB.out.call hi4 hf4).arr 3
        have z4 := cell_at' (HGB.out.call hi4 hf4).arr 4 rfl
        have f4 := free_at' (HGB.out.call hi4 hf4).arr 4
        have z5 := cell_at' (HGB.out.call hi4 hf4).arr 5 rfl
        have f5 := free_at' (HGB.out.call hi4 hf4).arr 5
        have z6 := cell_at' (HGB.out.call hi4 hf4).arr 6 rfl
        have f6 := free_at' (HGB.out.call hi4 hf4).arr 6
        have zl := lt_of_block (HGB.out.call hi4 hf4).arr
        clear hi4 hf4)
     | (go_at_call 57; refine (HX.out _ HGV.out.ins).mono ?_; rintro e w5 ⟨ev, kv, cv, rfl, hta, hrc, hi5, hf5⟩; obtain ⟨a3, c3, rfl⟩ := hta.ents.rd.sl; obtain ⟨os3, hkr3, -⟩ := hta.kids; obtain ⟨a4, c4, rfl⟩ := hkr3.rd.sl; obtain ⟨a5, c5, rfl⟩ := hrc.at_.sl; clear hkr3 z3 z4 z5 z6 f3 f4 f5 f6 zl
        have hb5 := lt_of_block HGV.out.arr
        have sHGX0 : GB w ((w5).setCell ⟨w3.heap.size, 7, none⟩ (.slice a3 es.length c3)) ib (some r) w3.heap.size #[.int .i64 dc, .int .i64 af, .int .i64 la, .int .i64 v0, .int .i64 v1, .int .i64 v2, .int .i64 v3, .slice a3 es.length c3, .slice none 0 0, .slice none 0 0] := (HGV.out.call hi5 hf5).set 7 (.slice a3 es.length c3)
        have sHGX1 : GB w (((w5).setCell ⟨w3.heap.size, 7, none⟩ (.slice a3 es.length c3)).setCell ⟨w3.heap.size, 8, none⟩ (.slice a4 ks.len c4)) ib (some r) w3.heap.size #[.int .i64 dc, .int .i64 af, .int .i64 la, .int .i64 v0, .int .i64 v1, .int .i64 v2, .int .i64 v3, .slice a3 es.length c3, .slice a4 ks.len c4, .slice none 0 0] := sHGX0.set 8 (.slice a4 ks.len c4)
        have sHGX2 : GB w ((((w5).setCell ⟨w3.heap.size, 7, none⟩ (.slice a3 es.length c3)).setCell ⟨w3.heap.size, 8, none⟩ (.slice a4 ks.len c4)).setCell ⟨w3.heap.size, 9, none⟩ (.slice a5 c.length c5)) ib (some r) w3.heap.size #[.int .i64 dc, .int .i64 af, .int .i64 la, .int .i64 v0, .int .i64 v1, .int .i64 v2, .int .i64 v3, .slice a3 es.length c3, .slice a4 ks.len c4, .slice a5 c.length c5] := sHGX1.set 9 (.slice a5 c.length c5)
        have HGX := Lib.hid sHGX2
        clear sHGX0 sHGX1 sHGX2
        have hft : Frm (Only w3.heap.size) w5 ((((w5).setCell ⟨w3.heap.size, 7, none⟩ (.slice a3 es.length c3)).setCell ⟨w3.heap.size, 8, none⟩ (.slice a4 ks.len c4)).setCell ⟨w3.heap.size, 9, none⟩ (.slice a5 c.length c5)) := ((only_set w5 _ 7 _).trans (only_set _ _ 8 _) fun _ _ h => h).trans (only_set _ _ 9 _) fun _ _ h => h
        have hB := HGV.out.hB
        have turn : ∀ k, k < w5.heap.size → (((((w4).setCell ⟨w3.heap.size, 3, none⟩ (.int .i64 v0)).setCell ⟨w3.heap.size, 4, none⟩ (.int .i64 v1)).setCell ⟨w3.heap.size, 5, none⟩ (.int .i64 v2)).setCell ⟨w3.heap.size, 6, none⟩ (.int .i64 v3)).heap.size ≤ k → ((((w5).setCell ⟨w3.heap.size, 7, none⟩ (.slice a3 es.length c3)).setCell ⟨w3.heap.size, 8, none⟩ (.slice a4 ks.len c4)).setCell ⟨w3.heap.size, 9, none⟩ (.slice a5 c.length c5)).heap[k]? = w5.heap[k]? ∧ w.heap.size < k := fun k hk hQ => ⟨hft.block k hk fun e => (by have e : k = w3.heap.size := e; subst e; exact absurd (Nat.lt_of_lt_of_le hb5 hQ) (Nat.lt_irrefl _)), Nat.lt_trans hB (Nat.lt_of_lt_of_le hb5 hQ)⟩
        have HTA := Lib.hid (hta.turn turn)
        have HRC := Lib.hid (show CtxQ (fun k => w.heap.size < k) _ (.slice a5 c.length c5) c from RdQ.turn hrc turn)
        have z7 := cell_at' (HGV.out.call hi5 hf5).arr 7 rfl
        have f7 := free_at' (HGV.out.call hi5 hf5).arr 7
        have z8 := cell_at' (HGV.out.call hi5 hf5).arr 8 rfl
        have f8 := free_at' (HGV.out.call hi5 hf5).arr 8
        have z9 := cell_at' (HGV.out.call hi5 hf5).arr 9 rfl
        have f9 := free_at' (HGV.out.call hi5 hf5).arr 9
        have zl := lt_of_block (HGV.out.call hi5 hf5).arr
        have z0 : w5.cell? ⟨w3.heap.size, 0, none⟩ = some (.int .i64 dc) := cell_at' (HGV.out.call hi5 hf5).arr 0 rfl
        have z1 : w5.cell? ⟨w3.heap.size, 1, none⟩ = some (.int .i64 af) := cell_at' (HGV.out.call hi5 hf5).arr 1 rfl
        have z2 : w5.cell? ⟨w3.heap.size, 2, none⟩ = some (.int .i64 la) := cell_at' (HGV.out.call hi5 hf5).arr 2 rfl
        have z3 : w5.cell? ⟨w3.heap.size, 3, none⟩ = some (.int .i64 v0) := cell_at' (HGV.out.call hi5 hf5).arr 3 rfl
        have z4 : w5.cell? ⟨w3.heap.size, 4, none⟩ = some (.int .i64 v1) := cell_at' (HGV.out.call hi5 hf5).arr 4 rfl
        have z5 : w5.cell? ⟨w3.heap.size, 5, none⟩ = some (.int .i64 v2) := cell_at' (HGV.out.call hi5 hf5).arr 5 rfl
        have z6 : w5.cell? ⟨w3.heap.size, 6, none⟩ = some (.int .i64 v3) := cell_at' (HGV.out.call hi5 hf5).arr 6 rfl
        clear hft hta hrc hi5 hf5 turn hb5 hB
        generalize es.length = n at *
        generalize ks.len = m at *
        generalize c.length = k at *)
     | (go_at_call 55; refine (bad_go ib _ _ HGX.out.ins).mono ?_; rintro e w6 ⟨rfl, rfl⟩)
     | (go_at_call 34; refine (HRT.out _ _ _ _ _ ⟨HTA.out, HRC.out.at_⟩).mono ?_; rintro e w7 ⟨rfl, hf7⟩
        clear z0 z1 z2 z3 z4 z5 z6 z7 z8 z9 f7 f8 f9 zl
        have HG7 := Lib.hid (HGX.out.call (HGX.out.ins.keep hf7 fun _ _ => id) (hf7.mono fun _ _ s => s.elim))
        have HTA7 := Lib.hid (HTA.out.keep0 hf7)
        have HRC7 := Lib.hid (HRC.out.keep0 hf7)
        clear hf7
        have z0 : w7.cell? ⟨w3.heap.size, 0, none⟩ = some (.int .i64 dc) := cell_at' HG7.out.arr 0 rfl
        have z1 : w7.cell? ⟨w3.heap.size, 1, none⟩ = some (.int .i64 af) := cell_at' HG7.out.arr 1 rfl
        have z2 : w7.cell? ⟨w3.heap.size, 2, none⟩ = some (.int .i64 la) := cell_at' HG7.out.arr 2 rfl
        have z3 : w7.cell? ⟨w3.heap.size, 3, none⟩ = some (.int .i64 v0) := cell_at' HG7.out.arr 3 rfl
        have z4 : w7.cell? ⟨w3.heap.size, 4, none⟩ = some (.int .i64 v1) := cell_at' HG7.out.arr 4 rfl
        have z5 : w7.cell? ⟨w3.heap.size, 5, none⟩ = some (.int .i64 v2) := cell_at' HG7.out.arr 5 rfl
        have z6 : w7.cell? ⟨w3.heap.size, 6, none⟩ = some (.int .i64 v3) := cell_at' HG7.out.arr 6 rfl
        have z7 : w7.cell? ⟨w3.heap.size, 7, none⟩ = some (.slice a3 n c3) := cell_at' HG7.out.arr 7 rfl
        have z8 : w7.cell? ⟨w3.heap.size, 8, none⟩ = some (.slice a4 m c4) := cell_at' HG7.out.arr 8 rfl
        have z9 : w7.cell? ⟨w3.heap.size, 9, none⟩ = some (.slice a5 k c5) := cell_at' HG7.out.arr 9 rfl
        have zl := lt_of_block HG7.out.arr
        have y0 := cell_at' HG7.out.res 0 rfl
        have g0 := free_at' HG7.out.res 0
        have y1 := cell_at' HG7.out.res 1 rfl
        have g1 := free_at' HG7.out.res 1
        have y2 := cell_at' HG7.out.res 2 rfl
        have g2 := free_at' HG7.out.res 2
        have y3 := cell_at' HG7.out.res 3 rfl
        have g3 := free_at' HG7.out.res 3
        have y4 := cell_at' HG7.out.res 4 rfl
        have g4 := free_at' HG7.out.res 4
        have y5 := cell_at' HG7.out.res 5 rfl
        have g5 := free_at' HG7.out.res 5
        have y6 := cell_at' HG7.out.res 6 rfl
        have g6 := free_at' HG7.out.res 6
        have y7 := cell_at' HG7.out.res 7 rfl
        have g7 := free_at' HG7.out.res 7
        have y8 := cell_at' HG7.out.res 8 rfl
        have g8 := free_at' HG7.out.res 8
        have y9 := cell_at' HG7.out.res 9 rfl
        have g9 := free_at' HG7.out.res 9
        have yl := lt_of_block HG7.out.res))
    clear z0 z1 z2 z3 z4 z5 z6 z7 z8 z9 zl
    clear y0 g0 y1 g1 y2 g2 y3 g3 y4 g4 y5 g5 y6 g6 y7 g7 y8 g8 y9 g9 yl
    have hten := ten_cells HG7.out.res (.int .i64 dc) (.int .i64 af) (.int .i64 la) (.int .i64 v0) (.int .i64 v1) (.int .i64 v2) (.int .i64 v3) (.slice a3 n c3) (.slice a4 m c4) (.slice a5 k c5) _ rfl
    have y0 := cell_at' hten 0 rfl
    have y1 := cell_at' hten 1 rfl
    have y2 := cell_at' hten 2 rfl
    have y3 := cell_at' hten 3 rfl
    have y4 := cell_at' hten 4 rfl
    have y5 := cell_at' hten 5 rfl
    have y6 := cell_at' hten 6 rfl
    have y7 := cell_at' hten 7 rfl
    have y8 := cell_at' hten 8 rfl
    have y9 := cell_at' hten 9 rfl
    exact bodyPost_ret (v := .agg #[.int .i64 dc, .int .i64 af, .int .i64 la, .int .i64 v0, .int .i64 v1, .int .i64 v2, .int .i64 v3, .slice a3 n c3, .slice a4 m c4, .slice a5 k c5]) (by simp [results, Tryz.results56, go_sem, y0, y1, y2, y3, y4, y5, y6, y7, y8, y9]) rfl (HG7.out.out ⟨dc, af, la, v0, v1, v2, v3, es, ks, c⟩ HTA7.out HRC7.out _ (ten_set w7 _ _ _ _ _ _ _ _ _ _ _))
  · rw [tf_false hr] at HRT
    obtain ⟨rfl, rfl⟩ := HC.out.det (HPB.out (.inr hr))
    clear hr HPB HPG
    go_enter Tryz.func56, Tryz.ntmps56
    go_wp2_with (first
     | (go_at_call 53; first
       | (refine (inum_at ib t2 1099511627776 la t3 _ HI2.out HG3.out (by omega) (by omega)).mono ?_; rintro e w3 ⟨rfl, hi3, hf3⟩
          have hn : w.heap.size < w3.heap.size := by have h1 := lt_of_block (((HF12.out.trans hf3 fun _ _ h => h).blk HB0.out fun e => by have e : w.heap.size = ib := e; have := HLT.out; omega)); exact h1
          have HGB := Lib.hid (show GB w (w3.alloc (.cells #[.int .i64 dc, .int .i64 af, .int .i64 la, .int .i64 0, .int .i64 0, .int .i64 0, .int .i64 0, .slice none 0 0, .slice none 0 0, .slice none 0 0] 64)) ib t3 w3.heap.size #[.int .i64 dc, .int .i64 af, .int .i64 la, .int .i64 0, .int .i64 0, .int .i64 0, .int .i64 0, .slice none 0 0, .slice none 0 0, .slice none 0 0] from
           ⟨hi3.keep (Frm.alloc NoS w3 _) fun _ _ => id, heap_alloc_new w3 _, (Frm.alloc NoS w3 _).blk ((HF12.out.trans hf3 fun _ _ h => h).blk HB0.out fun e => (by have e : w.heap.size = ib := e; have := HLT.out; omega)) id, ((HF0.out.trans HF12.out fun _ _ h => h).trans hf3 fun _ _ h => h).trans (Frm.alloc NoS w3 _) fun _ _ s => s.elim, HLT.out, hn⟩)
          clear hi3 hf3)
       | (refine (inum_at ib t1 1099511627776 af t2 _ HI1.out HG2.out (by omega) (by omega)).mono ?_; rintro e w2 ⟨rfl, hi2, hf2⟩; have HI2 := Lib.hid hi2; have HF12 := Lib.hid (HF1.out.trans hf2 fun _ _ h => h); clear hi2 hf2)
       | (refine (inum_at ib st 4 dc t1 _ HI0.out HG1.out (by omega) (by omega)).mono ?_; rintro e w1 ⟨rfl, hi1, hf1⟩; have HI1 := Lib.hid hi1; have HF1 := Lib.hid hf1; clear hi1 hf1))
     | (go_at_call 54; refine (HV.out _ HGB.out.ins).mono ?_; rintro e w4 ⟨rfl, hi4, hf4⟩
        have sHGV0 : GB w ((w4).setCell ⟨w3.heap.size, 3, none⟩ (.int .i64 v0)) ib t4 w3.heap.size #[.int .i64 dc, .int .i64 af, .int .i64 la, .int .i64 v0, .int .i64 0, .int .i64 0, .int .i64 0, .slice none 0 0, .slice none 0 0, .slice none 0 0] := (HGB.out.call hi4 hf4).set 3 (.int .i64 v0)
        have sHGV1 : GB w (((w4).setCell ⟨w3.heap.size, 3, none⟩ (.int .i64 v0)).setCell ⟨w3.heap.size, 4, none⟩ (.int .i64 v1)) ib t4 w3.heap.size #[.int .i64 dc, .int .i64 af, .int .i64 la, .int .i64 v0, .int .i64 v1, .int .i64 0, .int .i64 0, .slice none 0 0, .slice none 0 0, .slice none 0 0] := sHGV0.set 4 (.int .i64 v1)
        have sHGV2 : GB w ((((w4).setCell ⟨w3.heap.size, 3, none⟩ (.int .i64 v0)).setCell ⟨w3.heap.size, 4, none⟩ (.int .i64 v1)).setCell ⟨w3.heap.size, 5, none⟩ (.int .i64 v2)) ib t4 w3.heap.size #[.int .i64 dc, .int .i64 af, .int .i64 la, .int .i64 v0, .int .i64 v1, .int .i64 v2, .int .i64 0, .slice none 0 0, .slice none 0 0, .slice none 0 0] := sHGV1.set 5 (.int .i64 v2)
        have sHGV3 : GB w (((((w4).setCell ⟨w3.heap.size, 3, none⟩ (.int .i64 v0)).setCell ⟨w3.heap.size, 4, none⟩ (.int .i64 v1)).setCell ⟨w3.heap.size, 5, none⟩ (.int .i64 v2)).setCell ⟨w3.heap.size, 6, none⟩ (.int .i64 v3)) ib t4 w3.heap.size #[.int .i64 dc, .int .i64 af, .int .i64 la, .int .i64 v0, .int .i64 v1, .int .i64 v2, .int .i64 v3, .slice none 0 0, .slice none 0 0, .slice none 0 0] := sHGV2.set 6 (.int .i64 v3)
        have HGV := Lib.hid sHGV3
        clear sHGV0 sHGV1 sHGV2 sHGV3
        have z3 := cell_at' (HGB.out.call hi4 hf4).arr 3 rfl
        have f3 := free_at' (HGB.out.call hi4 hf4).arr 3
        have z4 := cell_at' (HGB.out.call hi4 hf4).arr 4 rfl
        have f4 := free_at' (HGB.out.call hi4 hf4).arr 4
        have z5 := cell_at' (HGB.out.call hi4 hf4).arr 5 rfl
        have f5 := free_at' (HGB.out.call hi4 hf4).arr 5
        have z6 := cell_at' (HGB.out.call hi4 hf4).arr 6 rfl
        have f6 := free_at' (HGB.out.call hi4 hf4).arr 6
        have zl := lt_of_block (HGB.out.call hi4 hf4).arr
        clear hi4 hf4)
     | (go_at_call 57; refine (HX.out _ HGV.out.ins).mono ?_; rintro e w5 ⟨ev, kv, cv, rfl, hta, hrc, hi5, hf5⟩; obtain ⟨a3, c3, rfl⟩ := hta.ents.rd.sl; obtain ⟨os3, hkr3, -⟩ := hta.kids; obtain ⟨a4, c4, rfl⟩ := hkr3.rd.sl; obtain ⟨a5, c5, rfl⟩ := hrc.at_.sl; clear hkr3 z3 z4 z5 z6 f3 f4 f5 f6 zl
        have hb5 := lt_of_block HGV.out.arr
        have sHGX0 : GB w ((w5).setCell ⟨w3.heap.size, 7, none⟩ (.slice a3 es.length c3)) ib (some r) w3.heap.size #[.int .i64 dc, .int .i64 af, .int .i64 la, .int .i64 v0, .int .i64 v1, .int .i64 v2, .int .i64 v3, .slice a3 es.length c3, .slice none 0 0, .slice none 0 0] := (HGV.out.call hi5 hf5).set 7 (.slice a3 es.length c3)
        have sHGX1 : GB w (((w5).setCell ⟨w3.heap.size, 7, none⟩ (.slice a3 es.length c3)).setCell ⟨w3.heap.size, 8, none⟩ (.slice a4 ks.len c4)) ib (some r) w3.heap.size #[.int .i64 dc, .int .i64 af, .int .i64 la, .int .i64 v0, .int .i64 v1, .int .i64 v2, .int .i64 v3, .slice a3 es.length c3, .slice a4 ks.len c4, .slice none 0 0] := sHGX0.set 8 (.slice a4 ks.len c4)
        have sHGX2 : GB w ((((w5).setCell ⟨w3.heap.size, 7, none⟩ (.slice a3 es.length c3)).setCell ⟨w3.heap.size, 8, none⟩ (.slice a4 ks.len c4)).setCell ⟨w3.heap.size, 9, none⟩ (.slice a5 c.length c5)) ib (some r) w3.heap.size #[.int .i64 dc, .int .i64 af, .int .i64 la, .int .i64 v0, .int .i64 v1, .int .i64 v2, .int .i64 v3, .slice a3 es.length c3, .slice a4 ks.len c4, .slice a5 c.length c5] := sHGX1.set 9 (.slice a5 c.length c5)
        have HGX := Lib.hid sHGX2
        clear sHGX0 sHGX1 sHGX2
        have hft : Frm (Only w3.heap.size) w5 ((((w5).setCell ⟨w3.heap.size, 7, none⟩ (.slice a3 es.length c3)).setCell ⟨w3.heap.size, 8, none⟩ (.slice a4 ks.len c4)).setCell ⟨w3.heap.size, 9, none⟩ (.slice a5 c.length c5)) := ((only_set w5 _ 7 _).trans (only_set _ _ 8 _) fun _ _ h => h).trans (only_set _ _ 9 _) fun _ _ h => h
        have hB := HGV.out.hB
        have turn : ∀ k, k < w5.heap.size → (((((w4).setCell ⟨w3.heap.size, 3, none⟩ (.int .i64 v0)).setCell ⟨w3.heap.size, 4, none⟩ (.int .i64 v1)).setCell ⟨w3.heap.size, 5, none⟩ (.int .i64 v2)).setCell ⟨w3.heap.size, 6, none⟩ (.int .i64 v3)).heap.size ≤ k → ((((w5).setCell ⟨w3.heap.size, 7, none⟩ (.slice a3 es.length c3)).setCell ⟨w3.heap.size, 8, none⟩ (.slice a4 ks.len c4)).setCell ⟨w3.heap.size, 9, none⟩ (.slice a5 c.length c5)).heap[k]? = w5.heap[k]? ∧ w.heap.size < k := fun k hk hQ => ⟨hft.block k hk fun e => (by have e : k = w3.heap.size := e; subst e; exact absurd (Nat.lt_of_lt_of_le hb5 hQ) (Nat.lt_irrefl _)), Nat.lt_trans hB (Nat.lt_of_lt_of_le hb5 hQ)⟩
        have HTA := Lib.hid (hta.turn turn)
        have HRC := Lib.hid (show CtxQ (fun k => w.heap.size < k) _ (.slice a5 c.length c5) c from RdQ.turn hrc turn)
        have z7 := cell_at' (HGV.out.call hi5 hf5).arr 7 rfl
        have f7 := free_at' (HGV.out.call hi5 hf5).arr 7
        have z8 := cell_at' (HGV.out.call hi5 hf5).arr 8 rfl
        have f8 := free_at' (HGV.out.call hi5 hf5).arr 8
        have z9 := cell_at' (HGV.out.call hi5 hf5).arr 9 rfl
        have f9 := free_at' (HGV.out.call hi5 hf5).arr 9
        have zl := lt_of_block (HGV.out.call hi5 hf5).arr
        have z0 : w5.cell? ⟨w3.heap.size, 0, none⟩ = some (.int .i64 dc) := cell_at' (HGV.out.call hi5 hf5).arr 0 rfl
        have z1 : w5.cell? ⟨w3.heap.size, 1, none⟩ = some (.int .i64 af) := cell_at' (HGV.out.call hi5 hf5).arr 1 rfl
        have z2 : w5.cell? ⟨w3.heap.size, 2, none⟩ = some (.int .i64 la) := cell_at' (HGV.out.call hi5 hf5).arr 2 rfl
        have z3 : w5.cell? ⟨w3.heap.size, 3, none⟩ = some (.int .i64 v0) := cell_at' (HGV.out.call hi5 hf5).arr 3 rfl
        have z4 : w5.cell? ⟨w3.heap.size, 4, none⟩ = some (.int .i64 v1) := cell_at' (HGV.out.call hi5 hf5).arr 4 rfl
        have z5 : w5.cell? ⟨w3.heap.size, 5, none⟩ = some (.int .i64 v2) := cell_at' (HGV.out.call hi5 hf5).arr 5 rfl
        have z6 : w5.cell? ⟨w3.heap.size, 6, none⟩ = some (.int .i64 v3) := cell_at' (HGV.out.call hi5 hf5).arr 6 rfl
        clear hft hta hrc hi5 hf5 turn hb5 hB
        generalize es.length = n at *
        generalize ks.len = m at *
        generalize c.length = k at *)
     | (go_at_call 55; refine (bad_go ib _ _ HGX.out.ins).mono ?_; rintro e w6 ⟨rfl, rfl⟩)
     | (go_at_call 34; refine (HRT.out _ _ _ _ _ ⟨HTA.out, HRC.out.at_⟩).mono ?_; rintro e w7 ⟨rfl, hf7⟩
        clear z0 z1 z2 z3 z4 z5 z6 z7 z8 z9 f7 f8 f9 zl
        have HG7 := Lib.hid (HGX.out.call (HGX.out.ins.keep hf7 fun _ _ => id) (hf7.mono fun _ _ s => s.elim))
        clear hf7)
     | (go_at_call 109; obtain ⟨a, c, hh⟩ := HG7.out.ins.heap; refine (fail_go ib _ _ _ hh).mono ?_; rintro e w8 ⟨rfl, hi8, hf8⟩
        skip
        have HG8 := Lib.hid (HG7.out.call (show InSt w8 ib none from hi8) hf8)
        clear hi8 hf8 hh
        have y0 := cell_at' HG8.out.res 0 rfl
        have g0 := free_at' HG8.out.res 0
        have y1 := cell_at' HG8.out.res 1 rfl
        have g1 := free_at' HG8.out.res 1
        have y2 := cell_at' HG8.out.res 2 rfl
        have g2 := free_at' HG8.out.res 2
        have y3 := cell_at' HG8.out.res 3 rfl
        have g3 := free_at' HG8.out.res 3
        have y4 := cell_at' HG8.out.res 4 rfl
        have g4 := free_at' HG8.out.res 4
        have y5 := cell_at' HG8.out.res 5 rfl
        have g5 := free_at' HG8.out.res 5
        have y6 := cell_at' HG8.out.res 6 rfl
        have g6 := free_at' HG8.out.res 6
        have y7 := cell_at' HG8.out.res 7 rfl
        have g7 := free_at' HG8.out.res 7
        have y8 := cell_at' HG8.out.res 8 rfl
        have g8 := free_at' HG8.out.res 8
        have y9 := cell_at' HG8.out.res 9 rfl
        have g9 := free_at' HG8.out.res 9
        have yl := lt_of_block HG8.out.res))
    clear y0 g0 y1 g1 y2 g2 y3 g3 y4 g4 y5 g5 y6 g6 y7 g7 y8 g8 y9 g9 yl
    have hten := ten_cells HG8.out.res (.int .i64 0) (.int .i64 0) (.int .i64 0) (.int .i64 0) (.int .i64 0) (.int .i64 0) (.int .i64 0) (.slice none 0 0) (.slice none 0 0) (.slice none 0 0) _ rfl
    have y0 := cell_at' hten 0 rfl
    have y1 := cell_at' hten 1 rfl
    have y2 := cell_at' hten 2 rfl
    have y3 := cell_at' hten 3 rfl
    have y4 := cell_at' hten 4 rfl
    have y5 := cell_at' hten 5 rfl
    have y6 := cell_at' hten 6 rfl
    have y7 := cell_at' hten 7 rfl
    have y8 := cell_at' hten 8 rfl
    have y9 := cell_at' hten 9 rfl
    exact bodyPost_ret (v := .agg #[.int .i64 0, .int .i64 0, .int .i64 0, .int .i64 0, .int .i64 0, .int .i64 0, .int .i64 0, .slice none 0 0, .slice none 0 0, .slice none 0 0]) (by simp [results, Tryz.results56, go_sem, y0, y1, y2, y3, y4, y5, y6, y7, y8, y9]) rfl (HG8.out.out BunD.zero (tree_nilQ _ _) (rdq_nil _ _) _ (ten_set w8 _ _ _ _ _ _ _ _ _ _ _))
theorem rightR_second {l : RunL} (h : RightR l) : ∀ k, 0 < k → k < l.length → (l.getD k (0, 0)).1 ≠ 1 := by
 cases l with
 | nil => intro k _ hk; cases hk
 | cons r l =>
  intro k h0 hk
  obtain ⟨⟨g1, g2, g3⟩, -⟩ := h
  obtain ⟨j, rfl⟩ : ∃ j, k = j + 1 := ⟨k - 1, by omega⟩
  have hj : j < l.length := by simpa using hk
  exact runs_two g3 (by omega) _ (by
   show l.getD j (0, 0) ∈ l
   exact getD_mem (0, 0) hj)
theorem r7Vector_any (w : World) (v : Value) (ct : CtxL) (h : CtxAt w v ct) (hr : RightC ct) (hl : ct.length ≤ 100000) : Calls Tryz.prog 38 #[v] w fun e w' => e = .returned (.agg (vecC fun d => frontL (partL ct d))) ∧ Frm NoS w w' := by
 have HC := Lib.hid (fun W (d : Int) (fr : Frm NoS w W) => r7Part_any W v ct d (Rd.keep0 h fr) hl)
 obtain ⟨a, c, rfl⟩ := Rd.sl h
 have HRT := Lib.hid hr
 have HPR := Lib.hid (fun d h0 h4 => (hr.2 d h0 h4 : RightR (partL ct d)))
 clear h hr
 generalize hf : (fun d => frontL (partL ct d)) = f at *
 have HFF := Lib.hid (fun d => (by rw [← hf] : f d = frontL (partL ct d)))
 clear hf
 generalize ct.length = n at *
 obtain ⟨hb1, hfb, hbs⟩ := two_blocks w (.cells #[.int .i64 0, .int .i64 0, .int .i64 0, .int .i64 0] 23) #[.int .i64 0, .int .i64 0, .int .i64 0, .int .i64 0] 23
 have hb0 : ((w.alloc (.cells #[.int .i64 0, .int .i64 0, .int .i64 0, .int .i64 0] 23)).alloc (.cells #[.int .i64 0, .int .i64 0, .int .i64 0, .int .i64 0] 23)).heap[w.heap.size]? = some (.cells #[.int .i64 0, .int .i64 0, .int .i64 0, .int .i64 0] 23 (0, 0)) := (Frm.alloc NoS _ _).blk (heap_alloc_new w _) id
 have HB1 := Lib.hid hb1; clear hb1
 have HB0 := Lib.hid hb0; clear hb0
 have HFB := Lib.hid hfb; clear hfb
 have HBS := Lib.hid hbs; clear hbs
 go_enter Tryz.func38, Tryz.ntmps38
 go_wp2
 have hst : VecMk w ((w.alloc (.cells #[.int .i64 0, .int .i64 0, .int .i64 0, .int .i64 0] 23)).alloc (.cells #[.int .i64 0, .int .i64 0, .int .i64 0, .int .i64 0] 23)) ((w.alloc (.cells #[.int .i64 0, .int .i64 0, .int .i64 0, .int .i64 0] 23)).alloc (.cells #[.int .i64 0, .int .i64 0, .int .i64 0, .int .i64 0] 23)) (fun _ => 0) 23 := ⟨HB1.out, HB0.out, HFB.out, Frm.refl _ _⟩
 have HST := Lib.hid hst; clear hst
 go_loopw [5] (fun i ww => ∃ k : Nat, k ≤ 4 ∧ i = .int .i64 k ∧ VecMk w ((w.alloc (.cells #[.int .i64 0, .int .i64 0, .int .i64 0, .int .i64 0] 23)).alloc (.cells #[.int .i64 0, .int .i64 0, .int .i64 0, .int .i64 0] 23)) ww (upZ f k) 23) (fun i _ => 4 - (intOf i).toNat)
 case atStart => exact ⟨0, Nat.zero_le _, rfl, HST.out.congr fun d h0 h4 => by unfold upZ; rw [if_neg (by omega)]⟩
 case round =>
  obtain ⟨k, hk, rfl, hv⟩ := hrel
  have HV := Lib.hid hv; clear hv
  by_cases hlt : k < 4
  · have hki : (k : Int) < 4 := by omega
    have HPT := Lib.hid (HC.out wr (k : Int) HV.out.frm)
    have HFK := Lib.hid (HFF.out k)
    have HPK := Lib.hid (HPR.out k (by omega) hki)
    have HUP := Lib.hid (fun d => upZ_step f k d)
    generalize f k = x at *
    go_wp2_with (first
     | (go_at_call 93; refine HPT.out.mono ?_; rintro e w2 ⟨v2, rfl, ho2⟩; obtain ⟨a2, c2, rfl⟩ := ho2.shape; have HV1 := Lib.hid (HV.out.keep ho2.frm); have HFR := Lib.hid (HFK.out ▸ r6Front_any w2 _ (partL ct k) ho2.rd (rightR_second HPK.out)); clear ho2)
     | (go_at_call 92; refine HFR.out.mono ?_; rintro e w3 ⟨rfl, hw3⟩; have HV2 := Lib.hid (HV1.out.keep hw3); clear hw3; have z0 := HV2.out.a.cell hlt; have g0 := HV2.out.a.free k; have HV3 := Lib.hid (HV2.out.set hlt x)))
    clear z0 g0
    go_roundw
    case rel => exact ⟨k + 1, by omega, by go_num, HV3.out.congr fun d h0 h4 => HUP.out d⟩
    case measure => simp [intOf]; omega
  · obtain rfl : k = 4 := by omega
    have HV2 := Lib.hid (HV.out.congr fun d h0 h4 => upZ_all f h4)
    have a0' := HV2.out.a.cell (k := 0) (by decide)
    have a1' := HV2.out.a.cell (k := 1) (by decide)
    have a2' := HV2.out.a.cell (k := 2) (by decide)
    have a3' := HV2.out.a.cell (k := 3) (by decide)
    have r0 := HV2.out.r.cell (k := 0) (by decide)
    have r1 := HV2.out.r.cell (k := 1) (by decide)
    have r2 := HV2.out.r.cell (k := 2) (by decide)
    have r3 := HV2.out.r.cell (k := 3) (by decide)
    have g0 := HV2.out.r.free 0
    have g1 := HV2.out.r.free 1
    have g2 := HV2.out.r.free 2
    have g3 := HV2.out.r.free 3
    have HR := Lib.hid (HV2.out.r.set4 f)
    have HF := Lib.hid (HV2.out.frm.set4 (b := w.heap.size) (Nat.le_refl _) (.int .i64 (f 0)) (.int .i64 (f 1)) (.int .i64 (f 2)) (.int .i64 (f 3)))
    go_wp2
    clear a0' a1' a2' a3' r0 r1 r2 r3 g0 g1 g2 g3
    have r0 := HR.out.cell (k := 0) (by decide)
    have r1 := HR.out.cell (k := 1) (by decide)
    have r2 := HR.out.cell (k := 2) (by decide)
    have r3 := HR.out.cell (k := 3) (by decide)
    exact bodyPost_ret (v := .agg (vecC f)) (by simp [results, Tryz.results38, go_sem, r0, r1, r2, r3, vecC]) rfl ⟨rfl, HF.out⟩
end Go.Proofs.YtcahemkomfaabaaGreat
