/- Words for the law MsgSet: BunSm, BunOpen, Op3, Op4, Op5, OpS, Thing, Few16, OpEnc, PackVec, PackOp, Put1, PutOp, PutVec. -/
import Derived.Test.YtcahemkomfaabaaGreatMsgSetG1
import Derived.Test.YtcahemkomfaabaaGreatMsgSetG2
import Derived.Test.YtcahemkomfaabaaGreatMsgSetG7
import Derived.Test.YtcahemkomfaabaaGreatMsgSetG9
import Derived.Test.YtcahemkomfaabaaGreatMsgSetG10
import Derived.Test.YtcahemkomfaabaaGreatMsgSetG14
import Derived.Test.YtcahemkomfaabaaGreatMsgSetG15
import Derived.Test.YtcahemkomfaabaaGreatMsgSetG17
import Derived.Test.YtcahemkomfaabaaGreatMsgSetG24
import Derived.Test.YtcahemkomfaabaaGreatMsgSetG25
import Derived.Test.YtcahemkomfaabaaGreatMsgSetG26
import Derived.Laws.IdiomArrays
set_option linter.unusedSimpArgs false
set_option linter.unusedVariables false
set_option maxHeartbeats 32000000
set_option maxRecDepth 1000000
namespace Go.Proofs.YtcahemkomfaabaaGreat
open Go.RowKit
theorem r22Small_any (Q : Nat → Prop) (es : List Ent) (ks : KidsL) (c : CtxL) (left : Int) (w : World) (dc af la v0 v1 v2 v3 : Int) (ev kv cv : Value) (h : CauAt Q w ev kv cv es ks c) (hok : TrOk es ks) (hcl : c.length ≤ 140737488351232) (h1 : left ≤ 1000) (h2 : 0 ≤ left) :
 Calls Tryz.prog 22 #[.agg #[.int .i64 dc, .int .i64 af, .int .i64 la, .int .i64 v0, .int .i64 v1, .int .i64 v2, .int .i64 v3, ev, kv, cv], .int .i64 left] w fun e w' => e = .returned (.bool (decide (0 ≤ roomT es ks left 8) && decide ((c.length : Int) ≤ left))) ∧ Frm NoS w w' := by
 have HC := Lib.hid (fun W (f : Frm NoS w W) => r9Small_any Q es ks c left W _ _ _ (h.keep0 f) hok hcl h1 h2)
 obtain ⟨a0, c0, a1, c1, a2, c2, rfl, rfl, rfl⟩ := h.shape
 clear h hok
 generalize (decide (0 ≤ roomT es ks left 8) && decide ((c.length : Int) ≤ left)) = b at *
 generalize c.length = k at *
 go_enter Tryz.func22, Tryz.ntmps22
 go_wp2_with (go_at_call 29; refine (HC.out _ (Frm.alloc _ _ _)).mono ?_; rintro e w1 ⟨rfl, hw1⟩; have HW1 := Lib.hid ((Frm.alloc NoS _ _).then1 hw1); clear hw1)
 go_ret
 exact ⟨rfl, HW1.out⟩
end Go.Proofs.YtcahemkomfaabaaGreat
namespace Go.Proofs.YtcahemkomfaabaaGreat
open Go.RowKit Go.WideShapes Go.ChangeShapes
theorem Tryz.cells_bundle : Tryz.prog.cellsOf 60 = 10 := by kernel_rfl
section
variable {H : Type} {enc : TypeId × Value → H} {w : World}
theorem open_vec_cells {fuel : Nat} {c0 c1 c2 c3 : Value} {x : DataW H × List MemPlace} (h : DataW.trod enc Tryz.prog w 0 (fun _ => true) true fuel 23 [c0, c1, c2, c3] = some x) :
 ∃ v0 v1 v2 v3 : Int, c0 = .int .i64 v0 ∧ c1 = .int .i64 v1 ∧ c2 = .int .i64 v2 ∧ c3 = .int .i64 v3 ∧ ∀ v ∈ [v0, v1, v2, v3], -9223372036854775808 ≤ v ∧ v ≤ 9223372036854775807 := by
 obtain ⟨z0, z1, z2, z3, m, _, k0, k1, k2, k3⟩ := trod_array4 Tryz.underlying23 Tryz.cells_I64 h
 obtain ⟨v0, e0, _, w0⟩ := DataW.trod_int Tryz.underlying2 k0
 obtain ⟨v1, e1, _, w1⟩ := DataW.trod_int Tryz.underlying2 k1
 obtain ⟨v2, e2, _, w2⟩ := DataW.trod_int Tryz.underlying2 k2
 obtain ⟨v3, e3, _, w3⟩ := DataW.trod_int Tryz.underlying2 k3
 simp at e0 e1 e2 e3
 refine ⟨v0, v1, v2, v3, e0, e1, e2, e3, fun v hv => ?_⟩
 simp only [List.mem_cons, List.not_mem_nil, or_false] at hv
 rcases hv with rfl | rfl | rfl | rfl
 · exact wfInt w0
 · exact wfInt w1
 · exact wfInt w2
 · exact wfInt w3
end
end Go.Proofs.YtcahemkomfaabaaGreat
namespace Go.Proofs.YtcahemkomfaabaaGreat
open Go.RowKit Go.WideShapes Go.ChangeShapes
structure Th where
 kind : Int
 cv : Value
 ev : Value
 kv : Value
 xv : Value
 pv : Value
 a : Int
 s : ByteArray
 n : Int
 v0 : Int
 v1 : Int
 v2 : Int
 v3 : Int
 c : CtxL
 es : List Ent
 ks : KidsL
 xc : CtxL
 ss : List ByteArray
def Th.zero : Th := ⟨0, .slice none 0 0, .slice none 0 0, .slice none 0 0, .slice none 0 0, .slice none 0 0, 0, ByteArray.empty, 0, 0, 0, 0, 0, [], [], .nil, [], []⟩
instance : Inhabited Th := ⟨Th.zero⟩
theorem four_set (w : World) (b : Nat) (u0 u1 u2 u3 : Value) : Frm (Only b) w ((((w.setCell ⟨b, 0, none⟩ u0).setCell ⟨b, 1, none⟩ u1).setCell ⟨b, 2, none⟩ u2).setCell ⟨b, 3, none⟩ u3) := ((two_set w b u0 u1).trans (only_set _ b 2 u2) fun _ _ h => h).trans (only_set _ b 3 u3) fun _ _ h => h
theorem four_cells {w : World} {b : Nat} {a0 a1 a2 a3 : Value} {T : TypeId} (h : w.heap[b]? = some (.cells #[a0, a1, a2, a3] T (0, 0))) (u0 u1 u2 u3 : Value) (W : World) (hW : W = (((w.setCell ⟨b, 0, none⟩ u0).setCell ⟨b, 1, none⟩ u1).setCell ⟨b, 2, none⟩ u2).setCell ⟨b, 3, none⟩ u3) :
 W.cell? ⟨b, 0, none⟩ = some u0 ∧ W.cell? ⟨b, 1, none⟩ = some u1 ∧ W.cell? ⟨b, 2, none⟩ = some u2 ∧ W.cell? ⟨b, 3, none⟩ = some u3 := by
 subst hW
 have g := set_at' (set_at' (set_at' (set_at' h 0 u0) 1 u1) 2 u2) 3 u3
 exact ⟨cell_at' g 0 rfl, cell_at' g 1 rfl, cell_at' g 2 rfl, cell_at' g 3 rfl⟩
structure GV (w W : World) (ib : Nat) (t : Option (List UInt8)) (cs : Array Value) : Prop where
 ins : InSt W ib t
 arr : W.heap[w.heap.size + 1]? = some (.cells cs 23 (0, 0))
 res : W.heap[w.heap.size]? = some (.cells #[.int .i64 0, .int .i64 0, .int .i64 0, .int .i64 0] 23 (0, 0))
 frm : Frm (Only ib) w W
 hib : ib < w.heap.size
theorem GV.call {w W W1 : World} {ib : Nat} {t t' : Option (List UInt8)} {cs : Array Value} (h : GV w W ib t cs) (hi : InSt W1 ib t') (f : Frm (Only ib) W W1) : GV w W1 ib t' cs :=
 ⟨hi, f.blk h.arr fun e => (by have e : w.heap.size + 1 = ib := e; have := h.hib; omega), f.blk h.res fun e => (by have e : w.heap.size = ib := e; have := h.hib; omega), h.frm.trans f fun _ _ s => s, h.hib⟩
theorem GV.set {w W : World} {ib : Nat} {t : Option (List UInt8)} {cs : Array Value} (h : GV w W ib t cs) (j : Nat) (u : Value) : GV w (W.setCell ⟨w.heap.size + 1, j, none⟩ u) ib t (cs.setIfInBounds j u) :=
 have f := only_set W (w.heap.size + 1) j u
 ⟨h.ins.keep f fun k hk e => (by have e : k = w.heap.size + 1 := e; have := h.hib; omega), set_at' h.arr j u, f.blk h.res fun e => (by have e : w.heap.size = w.heap.size + 1 := e; omega), h.frm.trans f fun i hi e => (by have e : i = w.heap.size + 1 := e; omega), h.hib⟩
def VecTk (v0 v1 v2 v3 : Int) (s : Option (List UInt8)) (ib : Nat) (w : World) (e : Ending) (w' : World) : Prop :=
 e = .returned (.agg #[.int .i64 v0, .int .i64 v1, .int .i64 v2, .int .i64 v3]) ∧ InSt w' ib s ∧ Frm (Only ib) w w'
theorem GV.out {w W : World} {ib : Nat} {s : Option (List UInt8)} {cs : Array Value} (h : GV w W ib s cs) (v0 v1 v2 v3 : Int) (W' : World) (f : Frm (Only w.heap.size) W W') : VecTk v0 v1 v2 v3 s ib w (.returned (.agg #[.int .i64 v0, .int .i64 v1, .int .i64 v2, .int .i64 v3])) W' :=
 ⟨rfl, h.ins.keep f fun k hk e => (by have e : k = w.heap.size := e; have := h.hib; omega), h.frm.trans f fun i hi e => (by have e : i = w.heap.size := e; omega)⟩
theorem pGetVector_at (ib : Nat) (st s : Option (List UInt8)) (u0 u1 u2 u3 : Int) (w : World) (hc : VecRes st u0 u1 u2 u3 s) (h : InSt w ib st) :
 Calls Tryz.prog 54 #[.pointer (some ⟨ib, 0, none⟩)] w (VecTk u0 u1 u2 u3 s ib w) := by
 obtain ⟨v0, v1, v2, v3, t1, t2, t3, t4, g0, g1, g2, g3⟩ := V4.total 1099511627776 st
 have HV4 := Lib.hid (show V4 1099511627776 st v0 v1 v2 v3 t4 from ⟨t1, t2, t3, g0, g1, g2, g3⟩)
 have HC := Lib.hid hc; clear hc
 have HG0 := Lib.hid g0
 have HG1 := Lib.hid g1
 have HG2 := Lib.hid g2
 have HG3 := Lib.hid g3
 have HFU := Lib.hid (fun W => cFull_any W v0 v1 v2 v3)
 unfold vecV at HFU
 clear g0 g1 g2 g3
 have hb1 := heap_alloc_new (w.alloc (.cells #[.int .i64 0, .int .i64 0, .int .i64 0, .int .i64 0] 23)) (.cells #[.int .i64 0, .int .i64 0, .int .i64 0, .int .i64 0] 23)
 rw [show (w.alloc (.cells #[.int .i64 0, .int .i64 0, .int .i64 0, .int .i64 0] 23)).heap.size = w.heap.size + 1 by simp] at hb1
 have HST := Lib.hid (show GV w ((w.alloc (.cells #[.int .i64 0, .int .i64 0, .int .i64 0, .int .i64 0] 23)).alloc (.cells #[.int .i64 0, .int .i64 0, .int .i64 0, .int .i64 0] 23)) ib st #[.int .i64 0, .int .i64 0, .int .i64 0, .int .i64 0] from
  ⟨(h.keep (Frm.alloc NoS _ _) fun _ _ => id).keep (Frm.alloc NoS _ _) fun _ _ => id, hb1, (Frm.alloc NoS _ _).blk (heap_alloc_new w _) id, ((Frm.alloc NoS w _).alloc1).mono fun _ _ s => s.elim, h.lt⟩)
 clear h hb1
 go_enter Tryz.func54, Tryz.ntmps54
 go_wp2
 go_loopw [7] (fun j W => ∃ (J : Nat) (x0 x1 x2 x3 : Int) (t : Option (List UInt8)), ((J = 0 ∧ x0 = 0 ∧ x1 = 0 ∧ x2 = 0 ∧ x3 = 0 ∧ t = st) ∨ (J = 1 ∧ x0 = v0 ∧ x1 = 0 ∧ x2 = 0 ∧ x3 = 0 ∧ t = t1) ∨ (J = 2 ∧ x0 = v0 ∧ x1 = v1 ∧ x2 = 0 ∧ x3 = 0 ∧ t = t2) ∨ (J = 3 ∧ x0 = v0 ∧ x1 = v1 ∧ x2 = v2 ∧ x3 = 0 ∧ t = t3) ∨ (J = 4 ∧ x0 = v0 ∧ x1 = v1 ∧ x2 = v2 ∧ x3 = v3 ∧ t = t4)) ∧ j = .int .i64 J ∧ GV w W ib t #[.int .i64 x0, .int .i64 x1, .int .i64 x2, .int .i64 x3]) (fun j _ => 4 - (intOf j).toNat)
 case atStart => exact ⟨0, 0, 0, 0, 0, st, .inl ⟨rfl, rfl, rfl, rfl, rfl, rfl⟩, rfl, HST.out⟩
 case round =>
  obtain ⟨J, x0, x1, x2, x3, t, hcase, rfl, hs⟩ := hrel
  rcases hcase with ⟨rfl, rfl, rfl, rfl, rfl, rfl⟩ | ⟨rfl, rfl, rfl, rfl, rfl, rfl⟩ | ⟨rfl, rfl, rfl, rfl, rfl, rfl⟩ | ⟨rfl, rfl, rfl, rfl, rfl, rfl⟩ | ⟨rfl, rfl, rfl, rfl, rfl, rfl⟩
  · have HC1 := Lib.hid (inum_at ib _ 1099511627776 _ _ wr hs.ins HG0.out (by omega) (by omega))
    have HS := Lib.hid hs; clear hs
    go_wp2_with (go_at_call 53; refine HC1.out.mono ?_; rintro e W1 ⟨rfl, hi5, hf5⟩; have z8 := free_at' (HS.out.call hi5 hf5).arr 0; have z9 := cell_at' (HS.out.call hi5 hf5).arr 0 rfl; have z7 := lt_of_block (HS.out.call hi5 hf5).arr; have HN := Lib.hid (fun u => (HS.out.call hi5 hf5).set 0 u); clear hi5 hf5)
    go_roundw
    case rel => exact ⟨1, _, _, _, _, _, .inr (.inl ⟨rfl, rfl, rfl, rfl, rfl, rfl⟩), by go_num, HN.out _⟩
    case measure => simp [intOf]
  · have HC1 := Lib.hid (inum_at ib _ 1099511627776 _ _ wr hs.ins HG1.out (by omega) (by omega))
    have HS := Lib.hid hs; clear hs
    go_wp2_with (go_at_call 53; refine HC1.out.mono ?_; rintro e W1 ⟨rfl, hi5, hf5⟩; have z8 := free_at' (HS.out.call hi5 hf5).arr 1; have z9 := cell_at' (HS.out.call hi5 hf5).arr 1 rfl; have z7 := lt_of_block (HS.out.call hi5 hf5).arr; have HN := Lib.hid (fun u => (HS.out.call hi5 hf5).set 1 u); clear hi5 hf5)
    go_roundw
    case rel => exact ⟨2, _, _, _, _, _, .inr (.inr (.inl ⟨rfl, rfl, rfl, rfl, rfl, rfl⟩)), by go_num, HN.out _⟩
    case measure => simp [intOf]
  · have HC1 := Lib.hid (inum_at ib _ 1099511627776 _ _ wr hs.ins HG2.out (by omega) (by omega))
    have HS := Lib.hid hs; clear hs
    go_wp2_with (go_at_call 53; refine HC1.out.mono ?_; rintro e W1 ⟨rfl, hi5, hf5⟩; have z8 := free_at' (HS.out.call hi5 hf5).arr 2; have z9 := cell_at' (HS.out.call hi5 hf5).arr 2 rfl; have z7 := lt_of_block (HS.out.call hi5 hf5).arr; have HN := Lib.hid (fun u => (HS.out.call hi5 hf5).set 2 u); clear hi5 hf5)
    go_roundw
    case rel => exact ⟨3, _, _, _, _, _, .inr (.inr (.inr (.inl ⟨rfl, rfl, rfl, rfl, rfl, rfl⟩))), by go_num, HN.out _⟩
    case measure => simp [intOf]
  · have HC1 := Lib.hid (inum_at ib _ 1099511627776 _ _ wr hs.ins HG3.out (by omega) (by omega))
    have HS := Lib.hid hs; clear hs
    go_wp2_with (go_at_call 53; refine HC1.out.mono ?_; rintro e W1 ⟨rfl, hi5, hf5⟩; have z8 := free_at' (HS.out.call hi5 hf5).arr 3; have z9 := cell_at' (HS.out.call hi5 hf5).arr 3 rfl; have z7 := lt_of_block (HS.out.call hi5 hf5).arr; have HN := Lib.hid (fun u => (HS.out.call hi5 hf5).set 3 u); clear hi5 hf5)
    go_roundw
    case rel => exact ⟨4, _, _, _, _, _, .inr (.inr (.inr (.inr (⟨rfl, rfl, rfl, rfl, rfl, rfl⟩)))), by go_num, HN.out _⟩
    case measure => simp [intOf]
  · have HS := Lib.hid hs; clear hs
    have z0 : wr.cell? ⟨w.heap.size + 1, 0, none⟩ = some (.int .i64 x0) := cell_at' HS.out.arr 0 rfl
    have z1 : wr.cell? ⟨w.heap.size + 1, 1, none⟩ = some (.int .i64 x1) := cell_at' HS.out.arr 1 rfl
    have z2 : wr.cell? ⟨w.heap.size + 1, 2, none⟩ = some (.int .i64 x2) := cell_at' HS.out.arr 2 rfl
    have z3 : wr.cell? ⟨w.heap.size + 1, 3, none⟩ = some (.int .i64 x3) := cell_at' HS.out.arr 3 rfl
    have zl := lt_of_block HS.out.arr
    cases t with
    | none =>
     obtain ⟨⟨rfl, rfl, rfl, rfl⟩, rfl⟩ := HC.out.det (vec_bad (by decide) (by decide) HV4.out (.inl rfl))
     by_cases hmay : MayV (vecF x0 x1 x2 x3)
     · have HMAY := Lib.hid hmay; clear hmay
       go_wp2_with (first
        | (go_at_call 30; refine (HFU.out _).mono ?_; rintro e w2 ⟨hf2, hfy, -⟩; obtain ⟨v', he, hown, -⟩ := hfy HMAY.out; subst he; obtain ⟨aF, cF, rfl⟩ := hown.rd.sl; clear hown hfy
           have HS2 := Lib.hid (HS.out.call (HS.out.ins.keep hf2 fun _ _ => id) (hf2.mono fun _ _ s => s.elim))
           clear z0 z1 z2 z3 zl hf2
           generalize (fullL (vecF x0 x1 x2 x3)).length = nF at *
           have z0 : w2.cell? ⟨w.heap.size + 1, 0, none⟩ = some (.int .i64 x0) := cell_at' HS2.out.arr 0 rfl
           have z1 : w2.cell? ⟨w.heap.size + 1, 1, none⟩ = some (.int .i64 x1) := cell_at' HS2.out.arr 1 rfl
           have z2 : w2.cell? ⟨w.heap.size + 1, 2, none⟩ = some (.int .i64 x2) := cell_at' HS2.out.arr 2 rfl
           have z3 : w2.cell? ⟨w.heap.size + 1, 3, none⟩ = some (.int .i64 x3) := cell_at' HS2.out.arr 3 rfl
           have zl := lt_of_block HS2.out.arr
           have y0 := cell_at' HS2.out.res 0 rfl
           have y1 := cell_at' HS2.out.res 1 rfl
           have y2 := cell_at' HS2.out.res 2 rfl
           have y3 := cell_at' HS2.out.res 3 rfl
           have f0 := free_at' HS2.out.res 0
           have f1 := free_at' HS2.out.res 1
           have f2 := free_at' HS2.out.res 2
           have f3 := free_at' HS2.out.res 3
           have hl2 := lt_of_block HS2.out.res)
        | (go_at_call 55; refine (bad_go ib _ _ HS2.out.ins).mono ?_; rintro e w3 ⟨rfl, rfl⟩)
        | (go_at_call 109; obtain ⟨a, c, hh⟩ := HS2.out.ins.heap; refine (fail_go ib _ _ _ hh).mono ?_; rintro e w4 ⟨rfl, hi4, hf4⟩
           have HS4 := Lib.hid (HS2.out.call (show InSt w4 ib none from hi4) hf4)
           clear y0 y1 y2 y3 f0 f1 f2 f3 hl2 z0 z1 z2 z3 zl hi4 hf4 hh
           have y0 := cell_at' HS4.out.res 0 rfl
           have y1 := cell_at' HS4.out.res 1 rfl
           have y2 := cell_at' HS4.out.res 2 rfl
           have y3 := cell_at' HS4.out.res 3 rfl
           have f0 := free_at' HS4.out.res 0
           have f1 := free_at' HS4.out.res 1
           have f2 := free_at' HS4.out.res 2
           have f3 := free_at' HS4.out.res 3
           have hl2 := lt_of_block HS4.out.res))
       clear y0 y1 y2 y3 f0 f1 f2 f3 hl2
       obtain ⟨y0, y1, y2, y3⟩ := four_cells HS4.out.res (.int .i64 0) (.int .i64 0) (.int .i64 0) (.int .i64 0) _ rfl
       exact bodyPost_ret (v := .agg #[.int .i64 0, .int .i64 0, .int .i64 0, .int .i64 0]) (by simp [results, Tryz.results54, go_sem, y0, y1, y2, y3]) rfl (HS4.out.out 0 0 0 0 _ (four_set w4 _ _ _ _ _))
     · have HMAY := Lib.hid hmay; clear hmay
       go_wp2_with (first
        | (go_at_call 30; refine (HFU.out _).mono ?_; rintro e w2 ⟨hf2, -, hfn⟩; have he := hfn HMAY.out; subst he; clear hfn
           have HS2 := Lib.hid (HS.out.call (HS.out.ins.keep hf2 fun _ _ => id) (hf2.mono fun _ _ s => s.elim))
           clear z0 z1 z2 z3 zl hf2)
        | (go_at_call 55; refine (bad_go ib _ _ HS2.out.ins).mono ?_; rintro e w3 ⟨rfl, rfl⟩)
        | (go_at_call 109; obtain ⟨a, c, hh⟩ := HS2.out.ins.heap; refine (fail_go ib _ _ _ hh).mono ?_; rintro e w4 ⟨rfl, hi4, hf4⟩
           have HS4 := Lib.hid (HS2.out.call (show InSt w4 ib none from hi4) hf4)
           clear hi4 hf4 hh
           have y0 := cell_at' HS4.out.res 0 rfl
           have y1 := cell_at' HS4.out.res 1 rfl
           have y2 := cell_at' HS4.out.res 2 rfl
           have y3 := cell_at' HS4.out.res 3 rfl
           have f0 := free_at' HS4.out.res 0
           have f1 := free_at' HS4.out.res 1
           have f2 := free_at' HS4.out.res 2
           have f3 := free_at' HS4.out.res 3
           have hl2 := lt_of_block HS4.out.res))
       clear y0 y1 y2 y3 f0 f1 f2 f3 hl2
       obtain ⟨y0, y1, y2, y3⟩ := four_cells HS4.out.res (.int .i64 0) (.int .i64 0) (.int .i64 0) (.int .i64 0) _ rfl
       exact bodyPost_ret (v := .agg #[.int .i64 0, .int .i64 0, .int .i64 0, .int .i64 0]) (by simp [results, Tryz.results54, go_sem, y0, y1, y2, y3]) rfl (HS4.out.out 0 0 0 0 _ (four_set w4 _ _ _ _ _))
    | some r =>
     by_cases hmay : MayV (vecF x0 x1 x2 x3)
     · obtain ⟨⟨rfl, rfl, rfl, rfl⟩, rfl⟩ := HC.out.det (vec_good HV4.out hmay)
       have HMAY := Lib.hid hmay; clear hmay
       go_wp2_with (first
        | (go_at_call 30; refine (HFU.out _).mono ?_; rintro e w2 ⟨hf2, hfy, -⟩; obtain ⟨v', he, hown, -⟩ := hfy HMAY.out; subst he; obtain ⟨aF, cF, rfl⟩ := hown.rd.sl; clear hown hfy
           have HS2 := Lib.hid (HS.out.call (HS.out.ins.keep hf2 fun _ _ => id) (hf2.mono fun _ _ s => s.elim))
           clear z0 z1 z2 z3 zl hf2
           generalize (fullL (vecF u0 u1 u2 u3)).length = nF at *
           have z0 : w2.cell? ⟨w.heap.size + 1, 0, none⟩ = some (.int .i64 u0) := cell_at' HS2.out.arr 0 rfl
           have z1 : w2.cell? ⟨w.heap.size + 1, 1, none⟩ = some (.int .i64 u1) := cell_at' HS2.out.arr 1 rfl
           have z2 : w2.cell? ⟨w.heap.size + 1, 2, none⟩ = some (.int .i64 u2) := cell_at' HS2.out.arr 2 rfl
           have z3 : w2.cell? ⟨w.heap.size + 1, 3, none⟩ = some (.int .i64 u3) := cell_at' HS2.out.arr 3 rfl
           have zl := lt_of_block HS2.out.arr
           have y0 := cell_at' HS2.out.res 0 rfl
           have y1 := cell_at' HS2.out.res 1 rfl
           have y2 := cell_at' HS2.out.res 2 rfl
           have y3 := cell_at' HS2.out.res 3 rfl
           have f0 := free_at' HS2.out.res 0
           have f1 := free_at' HS2.out.res 1
           have f2 := free_at' HS2.out.res 2
           have f3 := free_at' HS2.out.res 3
           have hl2 := lt_of_block HS2.out.res)
        | (go_at_call 55; refine (bad_go ib _ _ HS2.out.ins).mono ?_; rintro e w3 ⟨rfl, rfl⟩))
       clear y0 y1 y2 y3 f0 f1 f2 f3 hl2 z0 z1 z2 z3 zl
       obtain ⟨y0, y1, y2, y3⟩ := four_cells HS2.out.res (.int .i64 u0) (.int .i64 u1) (.int .i64 u2) (.int .i64 u3) _ rfl
       exact bodyPost_ret (v := .agg #[.int .i64 u0, .int .i64 u1, .int .i64 u2, .int .i64 u3]) (by simp [results, Tryz.results54, go_sem, y0, y1, y2, y3]) rfl (HS2.out.out u0 u1 u2 u3 _ (four_set w2 _ _ _ _ _))
     · obtain ⟨⟨rfl, rfl, rfl, rfl⟩, rfl⟩ := HC.out.det (vec_bad (by decide) (by decide) HV4.out (.inr hmay))
       have HMAY := Lib.hid hmay; clear hmay
       go_wp2_with (first
        | (go_at_call 30; refine (HFU.out _).mono ?_; rintro e w2 ⟨hf2, -, hfn⟩; have he := hfn HMAY.out; subst he; clear hfn
           have HS2 := Lib.hid (HS.out.call (HS.out.ins.keep hf2 fun _ _ => id) (hf2.mono fun _ _ s => s.elim))
           clear z0 z1 z2 z3 zl hf2)
        | (go_at_call 55; refine (bad_go ib _ _ HS2.out.ins).mono ?_; rintro e w3 ⟨rfl, rfl⟩)
        | (go_at_call 109; obtain ⟨a, c, hh⟩ := HS2.out.ins.heap; refine (fail_go ib _ _ _ hh).mono ?_; rintro e w4 ⟨rfl, hi4, hf4⟩
           have HS4 := Lib.hid (HS2.out.call (show InSt w4 ib none from hi4) hf4)
           clear hi4 hf4 hh
           have y0 := cell_at' HS4.out.res 0 rfl
           have y1 := cell_at' HS4.out.res 1 rfl
           have y2 := cell_at' HS4.out.res 2 rfl
           have y3 := cell_at' HS4.out.res 3 rfl
           have f0 := free_at' HS4.out.res 0
           have f1 := free_at' HS4.out.res 1
           have f2 := free_at' HS4.out.res 2
           have f3 := free_at' HS4.out.res 3
           have hl2 := lt_of_block HS4.out.res))
       clear y0 y1 y2 y3 f0 f1 f2 f3 hl2
       obtain ⟨y0, y1, y2, y3⟩ := four_cells HS4.out.res (.int .i64 0) (.int .i64 0) (.int .i64 0) (.int .i64 0) _ rfl
       exact bodyPost_ret (v := .agg #[.int .i64 0, .int .i64 0, .int .i64 0, .int .i64 0]) (by simp [results, Tryz.results54, go_sem, y0, y1, y2, y3]) rfl (HS4.out.out 0 0 0 0 _ (four_set w4 _ _ _ _ _))
def Put1 (w : World) (ob : Nat) (v : Value) (bs cs : List UInt8) (ww : World) : Prop :=
 ∃ v', OutAt ww ob v' (bs ++ cs) ∧ Fresh w v v' ∧ Frm (OutS ob v) w ww
variable {w ww w' : World} {ob : Nat} {v : Value} {bs cs ds : List UInt8}
theorem Put1.start (h : OutAt w ob v bs) : Put1 w ob v bs [] w := ⟨v, by rwa [List.append_nil], Fresh.refl _ _, Frm.refl _ _⟩
theorem OutAt.keep0 (h : OutAt w ob v bs) (f : Frm NoS w w') : OutAt w' ob v bs := h.keep f id fun _ _ => id
theorem Put1.keep0 (h : Put1 w ob v bs cs ww) (f : Frm NoS ww w') : Put1 w ob v bs cs w' := by
 obtain ⟨v', h1, h2, h3⟩ := h
 exact ⟨v', h1.keep0 f, h2, h3.then1 f⟩
theorem Put1.base (h : Put1 ww ob v bs cs w') (f : Frm NoS w ww) : Put1 w ob v bs cs w' := by
 obtain ⟨v', h1, h2, h3⟩ := h
 exact ⟨v', h1, Fresh.trans (Fresh.refl w v) f.size h2, (f.mono (T := OutS ob v) fun _ _ h => h.elim).trans h3 fun _ _ h => h⟩
theorem Put1.cast {cs' : List UInt8} (h : Put1 w ob v bs cs w') (e : cs = cs') : Put1 w ob v bs cs' w' := e ▸ h
theorem Put1.trans {v' : Value} (h2 : Fresh w v v') (h3 : Frm (OutS ob v) w ww) (k : Put1 ww ob v' (bs ++ cs) ds w') : Put1 w ob v bs (cs ++ ds) w' := by
 obtain ⟨v2, k1, k2, k3⟩ := k
 exact ⟨v2, by rw [← List.append_assoc]; exact k1, h2.trans h3.size k2, h3.trans k3 (outS_fresh h2)⟩
theorem Put1.call {f : FuncId} {args : Array Value} {E : Ending} (h : Put1 w ob v bs cs ww)
 (k : ∀ v', OutAt ww ob v' (bs ++ cs) → (∀ b, b < w.heap.size → OutS ob v' b → OutS ob v b) → Frm (OutS ob v) w ww → Calls Tryz.prog f args ww fun e w' => e = E ∧ Put1 ww ob v' (bs ++ cs) ds w') :
 Calls Tryz.prog f args ww fun e w' => e = E ∧ Put1 w ob v bs (cs ++ ds) w' := by
 obtain ⟨v', h1, h2, h3⟩ := h
 exact (k v' h1 (outS_fresh h2) h3).mono fun e w' ⟨he, hp⟩ => ⟨he, Put1.trans h2 h3 hp⟩
theorem outS_lt (h : OutAt w ob v bs) : ∀ b, OutS ob v b → b < w.heap.size := fun b hb => by
 rcases hb with hb | hb
 · rw [hb]; exact lt_of_block h.cell
 · exact own_lt h.own b hb
theorem Put1.cell {ww' : World} {p : Addr} {u : Value} (h : Put1 ww ob v bs cs ww') (hu : ww.cell? p = some u) (hn : ¬ OutS ob v p.block) : ww'.cell? p = some u := by
 obtain ⟨_, _, _, f⟩ := h
 exact f.cell' hu hn
theorem putNum (h : Put1 w ob v bs cs ww) (x : Int) (hx : inR x) (hl : bs.length + cs.length ≤ 95000000) :
 Calls Tryz.prog 40 #[.pointer (some ⟨ob, 0, none⟩), .int .i64 x] ww fun e w' => e = .returned (.tuple #[]) ∧ Put1 w ob v bs (cs ++ numB x) w' :=
 h.call fun v' ho _ _ => num_go ob x ww v' _ ho hx.1 hx.2 (by rw [List.length_append]; omega)
theorem putText (h : Put1 w ob v bs cs ww) (s : ByteArray) (hl : bs.length + cs.length + s.size ≤ 95000000) :
 Calls Tryz.prog 174 #[.pointer (some ⟨ob, 0, none⟩), .string s] ww fun e w' => e = .returned (.tuple #[]) ∧ Put1 w ob v bs (cs ++ textB s) w' :=
 h.call fun v' ho _ _ => text_go ob s ww v' _ ho (by rw [List.length_append]; omega)
theorem RdQ.put {Q : Nat → Prop} {u : Value} {n : Nat} {xs : List Value} (h : RdQ Q w u n xs) (hq : ∀ b, OutS ob v b → ¬ Q b) (hp : Put1 w ob v bs cs ww) : Rd ww u n xs := by
 obtain ⟨_, _, _, f⟩ := hp
 exact (h.keep f fun b _ hs => hq b hs).rd
theorem vec_index (v0 v1 v2 v3 : Int) : (∀ W, (Instr.index 23 (.agg #[.int .i64 v0, .int .i64 v1, .int .i64 v2, .int .i64 v3]) (.int .i64 0)).run Tryz.prog W = .ok (.int .i64 v0) W) ∧ (∀ W, (Instr.index 23 (.agg #[.int .i64 v0, .int .i64 v1, .int .i64 v2, .int .i64 v3]) (.int .i64 1)).run Tryz.prog W = .ok (.int .i64 v1) W) ∧
 (∀ W, (Instr.index 23 (.agg #[.int .i64 v0, .int .i64 v1, .int .i64 v2, .int .i64 v3]) (.int .i64 2)).run Tryz.prog W = .ok (.int .i64 v2) W) ∧ ∀ W, (Instr.index 23 (.agg #[.int .i64 v0, .int .i64 v1, .int .i64 v2, .int .i64 v3]) (.int .i64 3)).run Tryz.prog W = .ok (.int .i64 v3) W :=
 ⟨fun _ => by kernel_rfl, fun _ => by kernel_rfl, fun _ => by kernel_rfl, fun _ => by kernel_rfl⟩
theorem pPutVector_any (ob : Nat) (w : World) (v : Value) (bs : List UInt8) (v0 v1 v2 v3 : Int) (ho : OutAt w ob v bs) (hb : bs.length ≤ 80000000) :
 Calls Tryz.prog 41 #[.pointer (some ⟨ob, 0, none⟩), .agg #[.int .i64 v0, .int .i64 v1, .int .i64 v2, .int .i64 v3]] w fun e w' => e = .returned (.tuple #[]) ∧ (MayV (vecF v0 v1 v2 v3) → Put1 w ob v bs (encV v0 v1 v2 v3) w') ∧ (¬ MayV (vecF v0 v1 v2 v3) → Put1 w ob v bs (encV 0 0 0 0) w') := by
 have HFU := Lib.hid (fun W => cFull_any W v0 v1 v2 v3)
 unfold vecV at HFU
 have hal : Frm NoS w (w.alloc (.cells #[.int .i64 v0, .int .i64 v1, .int .i64 v2, .int .i64 v3] 23)) := Frm.alloc _ _ _
 have HBX := Lib.hid (heap_alloc_new w (.cells #[.int .i64 v0, .int .i64 v1, .int .i64 v2, .int .i64 v3] 23))
 have HNO := Lib.hid (show ¬ OutS ob v w.heap.size from fun h => by have := outS_lt ho _ h; omega)
 have HPS := Lib.hid (fun W (f : Frm NoS (w.alloc (.cells #[.int .i64 v0, .int .i64 v1, .int .i64 v2, .int .i64 v3] 23)) W) => (Put1.start (ho.keep0 hal)).keep0 f)
 have HO := Lib.hid ho; clear ho
 have HAL := Lib.hid hal; clear hal
 by_cases hm : MayV (vecF v0 v1 v2 v3)
 · obtain ⟨i0, i1, i2, i3⟩ := vec_index v0 v1 v2 v3
   have hbd := mayV4 hm
   have HB := Lib.hid (show inR v0 ∧ inR v1 ∧ inR v2 ∧ inR v3 ∧ True from ⟨⟨by omega, by omega⟩, ⟨by omega, by omega⟩, ⟨by omega, by omega⟩, ⟨by omega, by omega⟩, trivial⟩)
   have HIN0 := Lib.hid HB.out.1
   have HIN1 := Lib.hid HB.out.2.1
   have HIN2 := Lib.hid HB.out.2.2.1
   have HIN3 := Lib.hid HB.out.2.2.2.1
   have HL0 := Lib.hid (show (numB v0).length ≤ 10 from numB_le10 (by omega) (by omega))
   have HL1 := Lib.hid (show (numB v1).length ≤ 10 from numB_le10 (by omega) (by omega))
   have HL2 := Lib.hid (show (numB v2).length ≤ 10 from numB_le10 (by omega) (by omega))
   have HM := Lib.hid hm; clear hm hbd
   go_enter Tryz.func41, Tryz.ntmps41
   go_wp2_with (go_at_call 30; refine (HFU.out _).mono ?_; rintro e w1 ⟨hf1, h1, -⟩; obtain ⟨u', he, hown, -⟩ := h1 HM.out; subst he; obtain ⟨aF, cF, rfl⟩ := hown.rd.sl; clear hown h1; generalize (fullL (vecF v0 v1 v2 v3)).length = nF at *; have hb1 := hf1.blk HBX.out id; have y0 := cell_at' hb1 0 rfl; have y1 := cell_at' hb1 1 rfl; have y2 := cell_at' hb1 2 rfl; have y3 := cell_at' hb1 3 rfl; have yl := lt_of_block hb1; have HP0 := Lib.hid (HPS.out w1 hf1); clear hf1 hb1)
   clear y0 y1 y2 y3 yl
   go_loopw [17] (fun i ww => ∃ (k : Nat) (cs : List UInt8), ((k = 0 ∧ cs = []) ∨ (k = 1 ∧ cs = numB v0) ∨ (k = 2 ∧ cs = numB v0 ++ numB v1) ∨ (k = 3 ∧ cs = numB v0 ++ numB v1 ++ numB v2) ∨ (k = 4 ∧ cs = numB v0 ++ numB v1 ++ numB v2 ++ numB v3)) ∧ i = .int .i64 k ∧ Put1 (w.alloc (.cells #[.int .i64 v0, .int .i64 v1, .int .i64 v2, .int .i64 v3] 23)) ob v bs cs ww) (fun i _ => 4 - (intOf i).toNat)
   case atStart => exact ⟨0, [], .inl ⟨rfl, rfl⟩, rfl, HP0.out⟩
   case round =>
    obtain ⟨k, cs, hcase, rfl, hp⟩ := hrel
    have HP := Lib.hid hp; clear hp
    rcases hcase with ⟨rfl, rfl⟩ | ⟨rfl, rfl⟩ | ⟨rfl, rfl⟩ | ⟨rfl, rfl⟩ | ⟨rfl, rfl⟩
    · go_wp2_with (go_at_call 40; refine (putNum HP.out v0 (by first | exact HIN0.out | exact ⟨by omega, by omega⟩) (by have h0 := HL0.out; have h1 := HL1.out; have h2 := HL2.out; (try simp only [List.length_append, List.length_nil]); omega)).mono ?_; rintro e w5 ⟨rfl, hp5⟩; have HP5 := Lib.hid hp5; clear hp5)
      go_roundw
      case rel => exact ⟨1, _, .inr (.inl ⟨rfl, rfl⟩), by go_num, HP5.out.cast (by rw [List.nil_append])⟩
      case measure => simp [intOf]
    · go_wp2_with (go_at_call 40; refine (putNum HP.out v1 (by first | exact HIN1.out | exact ⟨by omega, by omega⟩) (by have h0 := HL0.out; have h1 := HL1.out; have h2 := HL2.out; (try simp only [List.length_append, List.length_nil]); omega)).mono ?_; rintro e w5 ⟨rfl, hp5⟩; have HP5 := Lib.hid hp5; clear hp5)
      go_roundw
      case rel => exact ⟨2, _, .inr (.inr (.inl ⟨rfl, rfl⟩)), by go_num, HP5.out⟩
      case measure => simp [intOf]
    · go_wp2_with (go_at_call 40; refine (putNum HP.out v2 (by first | exact HIN2.out | exact ⟨by omega, by omega⟩) (by have h0 := HL0.out; have h1 := HL1.out; have h2 := HL2.out; (try simp only [List.length_append, List.length_nil]); omega)).mono ?_; rintro e w5 ⟨rfl, hp5⟩; have HP5 := Lib.hid hp5; clear hp5)
      go_roundw
      case rel => exact ⟨3, _, .inr (.inr (.inr (.inl ⟨rfl, rfl⟩))), by go_num, HP5.out⟩
      case measure => simp [intOf]
    · go_wp2_with (go_at_call 40; refine (putNum HP.out v3 (by first | exact HIN3.out | exact ⟨by omega, by omega⟩) (by have h0 := HL0.out; have h1 := HL1.out; have h2 := HL2.out; (try simp only [List.length_append, List.length_nil]); omega)).mono ?_; rintro e w5 ⟨rfl, hp5⟩; have HP5 := Lib.hid hp5; clear hp5)
      go_roundw
      case rel => exact ⟨4, _, .inr (.inr (.inr (.inr (⟨rfl, rfl⟩)))), by go_num, HP5.out⟩
      case measure => simp [intOf]
    · go_wp2
      go_end0
      exact ⟨rfl, fun _ => (HP.out.base HAL.out).cast (by unfold encV; simp only [List.append_assoc]), fun h => absurd HM.out h⟩
 · obtain ⟨i0, i1, i2, i3⟩ := vec_index 0 0 0 0
   have HL0 := Lib.hid (show (numB 0).length ≤ 10 from numB_le10 (by omega) (by omega))
   have HL1 := Lib.hid (show (numB 0).length ≤ 10 from numB_le10 (by omega) (by omega))
   have HL2 := Lib.hid (show (numB 0).length ≤ 10 from numB_le10 (by omega) (by omega))
   have HM := Lib.hid hm; clear hm
   go_enter Tryz.func41, Tryz.ntmps41
   go_wp2_with (go_at_call 30; refine (HFU.out _).mono ?_; rintro e w1 ⟨hf1, -, h1⟩; have he := h1 HM.out; subst he; clear h1; have hb1 := hf1.blk HBX.out id; have y0 := cell_at' hb1 0 rfl; have y1 := cell_at' hb1 1 rfl; have y2 := cell_at' hb1 2 rfl; have y3 := cell_at' hb1 3 rfl; have f0 := free_at' hb1 0; have f1 := free_at' hb1 1; have f2 := free_at' hb1 2; have f3 := free_at' hb1 3; have yl := lt_of_block hb1; have HW1 := Lib.hid (HAL.out.then1 hf1); clear hf1 hb1)
   have hw2 : Frm NoS w ((((w1.setCell ⟨w.heap.size, 0, none⟩ (.int .i64 0)).setCell ⟨w.heap.size, 1, none⟩ (.int .i64 0)).setCell ⟨w.heap.size, 2, none⟩ (.int .i64 0)).setCell ⟨w.heap.size, 3, none⟩ (.int .i64 0)) := HW1.out.trans (four_set w1 w.heap.size _ _ _ _) fun i hi e => by have e : i = w.heap.size := e; omega
   clear y0 y1 y2 y3 f0 f1 f2 f3 yl
   generalize (((w1.setCell ⟨w.heap.size, 0, none⟩ (.int .i64 0)).setCell ⟨w.heap.size, 1, none⟩ (.int .i64 0)).setCell ⟨w.heap.size, 2, none⟩ (.int .i64 0)).setCell ⟨w.heap.size, 3, none⟩ (.int .i64 0) = W2 at *
   have HW2 := Lib.hid hw2
   have HP0 := Lib.hid (Put1.start (HO.out.keep0 hw2)); clear hw2
   go_loopw [17] (fun i ww => ∃ (k : Nat) (cs : List UInt8), ((k = 0 ∧ cs = []) ∨ (k = 1 ∧ cs = numB 0) ∨ (k = 2 ∧ cs = numB 0 ++ numB 0) ∨ (k = 3 ∧ cs = numB 0 ++ numB 0 ++ numB 0) ∨ (k = 4 ∧ cs = numB 0 ++ numB 0 ++ numB 0 ++ numB 0)) ∧ i = .int .i64 k ∧ Put1 W2 ob v bs cs ww) (fun i _ => 4 - (intOf i).toNat)
   case atStart => exact ⟨0, [], .inl ⟨rfl, rfl⟩, rfl, HP0.out⟩
   case round =>
    obtain ⟨k, cs, hcase, rfl, hp⟩ := hrel
    have HP := Lib.hid hp; clear hp
    rcases hcase with ⟨rfl, rfl⟩ | ⟨rfl, rfl⟩ | ⟨rfl, rfl⟩ | ⟨rfl, rfl⟩ | ⟨rfl, rfl⟩
    · go_wp2_with (go_at_call 40; refine (putNum HP.out 0 (by first | exact HIN0.out | exact ⟨by omega, by omega⟩) (by have h0 := HL0.out; have h1 := HL1.out; have h2 := HL2.out; (try simp only [List.length_append, List.length_nil]); omega)).mono ?_; rintro e w5 ⟨rfl, hp5⟩; have HP5 := Lib.hid hp5; clear hp5)
      go_roundw
      case rel => exact ⟨1, _, .inr (.inl ⟨rfl, rfl⟩), by go_num, HP5.out.cast (by rw [List.nil_append])⟩
      case measure => simp [intOf]
    · go_wp2_with (go_at_call 40; refine (putNum HP.out 0 (by first | exact HIN1.out | exact ⟨by omega, by omega⟩) (by have h0 := HL0.out; have h1 := HL1.out; have h2 := HL2.out; (try simp only [List.length_append, List.length_nil]); omega)).mono ?_; rintro e w5 ⟨rfl, hp5⟩; have HP5 := Lib.hid hp5; clear hp5)
      go_roundw
      case rel => exact ⟨2, _, .inr (.inr (.inl ⟨rfl, rfl⟩)), by go_num, HP5.out⟩
      case measure => simp [intOf]
    · go_wp2_with (go_at_call 40; refine (putNum HP.out 0 (by first | exact HIN2.out | exact ⟨by omega, by omega⟩) (by have h0 := HL0.out; have h1 := HL1.out; have h2 := HL2.out; (try simp only [List.length_append, List.length_nil]); omega)).mono ?_; rintro e w5 ⟨rfl, hp5⟩; have HP5 := Lib.hid hp5; clear hp5)
      go_roundw
      case rel => exact ⟨3, _, .inr (.inr (.inr (.inl ⟨rfl, rfl⟩))), by go_num, HP5.out⟩
      case measure => simp [intOf]
    · go_wp2_with (go_at_call 40; refine (putNum HP.out 0 (by first | exact HIN3.out | exact ⟨by omega, by omega⟩) (by have h0 := HL0.out; have h1 := HL1.out; have h2 := HL2.out; (try simp only [List.length_append, List.length_nil]); omega)).mono ?_; rintro e w5 ⟨rfl, hp5⟩; have HP5 := Lib.hid hp5; clear hp5)
      go_roundw
      case rel => exact ⟨4, _, .inr (.inr (.inr (.inr (⟨rfl, rfl⟩)))), by go_num, HP5.out⟩
      case measure => simp [intOf]
    · go_wp2
      go_end0
      exact ⟨rfl, fun h => absurd h HM.out, fun _ => (HP.out.base HW2.out).cast (by unfold encV; simp only [List.append_assoc])⟩
end Go.Proofs.YtcahemkomfaabaaGreat
