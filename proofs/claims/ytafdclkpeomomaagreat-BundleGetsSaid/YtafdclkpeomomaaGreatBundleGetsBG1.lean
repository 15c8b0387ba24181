/- Words for the law BundleGets: R22To, NilQ, R8Same, R9Same, Same3, Awake0, Awake. -/
import Derived.Test.YtafdclkpeomomaaGreatBundleGetsG24
import Derived.Test.YtafdclkpeomomaaGreatBundleGetsG29
import Derived.Test.YtafdclkpeomomaaGreatBundleGetsG31
import Derived.Test.YtafdclkpeomomaaGreatBundleGetsG17
import Derived.Test.YtafdclkpeomomaaGreatBundleGetsG15
import Derived.Test.YtafdclkpeomomaaGreatBundleGetsG18
import Derived.Test.YtafdclkpeomomaaGreatBundleGetsG11
import Derived.Test.YtafdclkpeomomaaGreatBundleGetsG22
import Derived.Test.YtafdclkpeomomaaGreatBundleGetsG23
set_option linter.unusedSimpArgs false
set_option linter.unusedVariables false
/- tributaryref22: To: the walk. Printed by wip/r22togen.py. -/
namespace Go.Proofs.YtafdclkpeomomaaGreat
open Go.RowKit

theorem Stg.rfld {w0 w wr W W1 : World} {B : Nat} {T : TypeId} {cs : Array Value} {v v' : Value} {t t' : Option (List UInt8)} (h : Stg w0 w wr W B T cs v t) (hr : RIn w0 W1 v' t') (j : Nat) (x : Value) : RIn w0 (W1.setCell ⟨B, j, none⟩ x) v' t' :=
  hr.keep (only_set W1 B j x) fun k hk hs => by have hs : k = B := hs; have := h.h0; have := h.new; have := h.old; omega
def ToBunPost (w0 w : World) (b : BunD) (s : Option (List UInt8)) (e : Ending) (w' : World) : Prop :=
  ∃ ev kv cv a l, e = .returned (.tuple #[.agg #[.int .i64 b.dc, .int .i64 b.af, .int .i64 b.la, .int .i64 b.v0, .int .i64 b.v1, .int .i64 b.v2, .int .i64 b.v3, ev, kv, cv], .agg #[.slice a (leftOf s).length l, .bool s.isNone]]) ∧ TreeAt (fun b => w.heap.size ≤ b) w' ev kv b.es b.ks ∧ CtxQ (fun b => w.heap.size ≤ b) w' cv b.c ∧ RIn w0 w' (.slice a (leftOf s).length l) s ∧ Frm NoS w w'
theorem bunFin {w0 w W W' : World} (b : BunD) {ev kv cv : Value} {a : Option Addr} {l : Nat} {s : Option (List UInt8)} (ht : TreeAt (fun b => w.heap.size + 1 + 1 + 1 ≤ b) W ev kv b.es b.ks) (hx : CtxQ (fun b => w.heap.size + 1 + 1 + 1 ≤ b) W cv b.c) (hr : RIn w0 W (.slice a (leftOf s).length l) s) (h0 : w0.heap.size ≤ w.heap.size) (hf : Frm NoS w W) (f : Frm (XT w) W W') :
    ToBunPost w0 w b s (.returned (.tuple #[.agg #[.int .i64 b.dc, .int .i64 b.af, .int .i64 b.la, .int .i64 b.v0, .int .i64 b.v1, .int .i64 b.v2, .int .i64 b.v3, ev, kv, cv], .agg #[.slice a (leftOf s).length l, .bool s.isNone]])) W' := by
  have turn : ∀ b, b < W.heap.size → w.heap.size + 1 + 1 + 1 ≤ b → W'.heap[b]? = W.heap[b]? ∧ w.heap.size ≤ b := fun b hb hQ => ⟨f.block b hb fun hs => (by rcases hs with hs | hs | hs <;> omega), by omega⟩
  refine ⟨ev, kv, cv, a, l, rfl, ht.turn turn, RdQ.turn hx turn, hr.keep f fun k hk hs => ?_, hf.trans f fun i hi hs => ?_⟩
  · rcases hs with hs | hs | hs <;> omega
  · rcases hs with hs | hs | hs <;> omega
theorem stores12 (w W : World) (x0 x1 x2 x3 x4 x5 x6 x7 x8 x9 y0 y1 : Value) : Frm (XT w) W (((((((((((((W).setCell ⟨w.heap.size + 1, 0, none⟩ (x0)).setCell ⟨w.heap.size + 1, 1, none⟩ (x1)).setCell ⟨w.heap.size + 1, 2, none⟩ (x2)).setCell ⟨w.heap.size + 1, 3, none⟩ (x3)).setCell ⟨w.heap.size + 1, 4, none⟩ (x4)).setCell ⟨w.heap.size + 1, 5, none⟩ (x5)).setCell ⟨w.heap.size + 1, 6, none⟩ (x6)).setCell ⟨w.heap.size + 1, 7, none⟩ (x7)).setCell ⟨w.heap.size + 1, 8, none⟩ (x8)).setCell ⟨w.heap.size + 1, 9, none⟩ (x9)).setCell ⟨w.heap.size + 1 + 1, 0, none⟩ (y0)).setCell ⟨w.heap.size + 1 + 1, 1, none⟩ (y1)) :=
  (((ten_set W (w.heap.size + 1) x0 x1 x2 x3 x4 x5 x6 x7 x8 x9).mono fun k _ hk => .inr (.inl hk)).trans ((two_set _ (w.heap.size + 1 + 1) y0 y1).mono fun k _ hk => .inr (.inr hk)) fun _ _ h => h)
theorem stores12_at {w W : World} {x0 x1 x2 x3 x4 x5 x6 x7 x8 x9 y0 y1 : Value} {a0 a1 a2 a3 a4 a5 a6 a7 a8 a9 c d : Value} (h1 : W.heap[w.heap.size + 1]? = some (.cells #[a0, a1, a2, a3, a4, a5, a6, a7, a8, a9] 51 (0, 0))) (h2 : W.heap[w.heap.size + 1 + 1]? = some (.cells #[c, d] 42 (0, 0))) (W' : World)
    (hW : W' = ((((((((((((W).setCell ⟨w.heap.size + 1, 0, none⟩ (x0)).setCell ⟨w.heap.size + 1, 1, none⟩ (x1)).setCell ⟨w.heap.size + 1, 2, none⟩ (x2)).setCell ⟨w.heap.size + 1, 3, none⟩ (x3)).setCell ⟨w.heap.size + 1, 4, none⟩ (x4)).setCell ⟨w.heap.size + 1, 5, none⟩ (x5)).setCell ⟨w.heap.size + 1, 6, none⟩ (x6)).setCell ⟨w.heap.size + 1, 7, none⟩ (x7)).setCell ⟨w.heap.size + 1, 8, none⟩ (x8)).setCell ⟨w.heap.size + 1, 9, none⟩ (x9)).setCell ⟨w.heap.size + 1 + 1, 0, none⟩ (y0)).setCell ⟨w.heap.size + 1 + 1, 1, none⟩ (y1)) :
    W'.heap[w.heap.size + 1]? = some (.cells #[x0, x1, x2, x3, x4, x5, x6, x7, x8, x9] 51 (0, 0)) ∧ W'.heap[w.heap.size + 1 + 1]? = some (.cells #[y0, y1] 42 (0, 0)) := by
  have g1 := ten_cells h1 x0 x1 x2 x3 x4 x5 x6 x7 x8 x9 _ rfl
  have f1 := ten_set W (w.heap.size + 1) x0 x1 x2 x3 x4 x5 x6 x7 x8 x9
  have f2 := two_set (((((((((((W).setCell ⟨w.heap.size + 1, 0, none⟩ (x0)).setCell ⟨w.heap.size + 1, 1, none⟩ (x1)).setCell ⟨w.heap.size + 1, 2, none⟩ (x2)).setCell ⟨w.heap.size + 1, 3, none⟩ (x3)).setCell ⟨w.heap.size + 1, 4, none⟩ (x4)).setCell ⟨w.heap.size + 1, 5, none⟩ (x5)).setCell ⟨w.heap.size + 1, 6, none⟩ (x6)).setCell ⟨w.heap.size + 1, 7, none⟩ (x7)).setCell ⟨w.heap.size + 1, 8, none⟩ (x8)).setCell ⟨w.heap.size + 1, 9, none⟩ (x9)) (w.heap.size + 1 + 1) y0 y1
  have g2 := f1.blk h2 fun e => by have e : w.heap.size + 1 + 1 = w.heap.size + 1 := e; omega
  subst hW
  exact ⟨f2.blk g1 fun e => (by have e : w.heap.size + 1 = w.heap.size + 1 + 1 := e; omega), set_at' (set_at' g2 0 y0) 1 y1⟩
set_option maxHeartbeats 16000000 in
set_option maxRecDepth 1000000 in
theorem r22To_at {w0 : World} {v : Value} {st s : Option (List UInt8)} {b : BunD} (w : World) (h : RIn w0 w v st) (h0 : w0.heap.size ≤ w.heap.size) (hc : BunRes st b s) (hl : (leftOf st).length ≤ 6000) :
    Calls Tryz.prog 23 #[.agg #[v, .bool st.isNone]] w (ToBunPost w0 w b s) := by
  obtain ⟨a0, c0, rfl⟩ := h.shape
  obtain ⟨dc, t1, g1⟩ := NumStep.total st 1099511627776
  obtain ⟨af, t2, g2⟩ := NumStep.total t1 1099511627776
  obtain ⟨la, t3, g3⟩ := NumStep.total t2 1099511627776
  obtain ⟨v0, v1, v2, v3, t4, g4⟩ := VecRes.total t3
  obtain ⟨es, ks, c, t5, g5⟩ := CauRes.total t4
  have hl4 : (leftOf t4).length ≤ 6000 := by
    have q1 := g1.left
    have q2 := g2.left
    have q3 := g3.left
    have q4 := g4.left
    omega
  have hok := g5.ok hl4
  have HC := Lib.hid hc; clear hc
  have HG1 := Lib.hid (fun W v (hs : RIn w0 W v st) => rnum_at hs g1 (by decide) (by decide))
  have HG2 := Lib.hid (fun W v (hs : RIn w0 W v t1) => rnum_at hs g2 (by decide) (by decide))
  have HG3 := Lib.hid (fun W v (hs : RIn w0 W v t2) => rnum_at hs g3 (by decide) (by decide))
  unfold RPost at HG1 HG2 HG3
  have HV := Lib.hid (fun W v (hr : RIn w0 W v t3) (f : w0.heap.size ≤ W.heap.size) => r16ToVector_at W hr f g4)
  unfold ToVecPost at HV
  have HX := Lib.hid (fun W v (hr : RIn w0 W v t4) (f : w0.heap.size ≤ W.heap.size) => r16ToCausal_at W hr f g5 hl4)
  unfold ToCauPost at HX
  have HRT := Lib.hid (fun W Q ev kv cv (h : CauAt Q W ev kv cv es ks c) => r22Right_any Q es ks c W dc af la v0 v1 v2 v3 ev kv cv h hok)
  have HPB := Lib.hid (fun hb => bun_bad (m1 := 1099511627776) (m2 := 1099511627776) (by decide) (by decide) (by decide) (by decide) (b := ⟨dc, af, la, v0, v1, v2, v3, es, ks, c⟩) g1 g2 g3 g4 g5 hb)
  have HPG := Lib.hid (fun (r : List UInt8) (e : t5 = some r) hr => bun_good (b := ⟨dc, af, la, v0, v1, v2, v3, es, ks, c⟩) g1 g2 g3 g4 (e ▸ g5) hr)
  clear g1 g2 g3 g4 g5 hok hl4
  obtain ⟨WB, hWB⟩ : ∃ W, W = (((w.alloc (.cells #[.slice a0 (leftOf st).length c0, .bool st.isNone] 42)).alloc (.cells #[.int .i64 0, .int .i64 0, .int .i64 0, .int .i64 0, .int .i64 0, .int .i64 0, .int .i64 0, .slice none 0 0, .slice none 0 0, .slice none 0 0] 51)).alloc (.cells #[.slice none 0 0, .bool false] 42)).alloc (.cells #[.int .i64 0, .int .i64 0, .int .i64 0, .int .i64 0, .int .i64 0, .int .i64 0, .int .i64 0, .slice none 0 0, .slice none 0 0, .slice none 0 0] 51) := ⟨_, rfl⟩
  obtain ⟨wr, hst, hk1, hk2, hkf, hsz, hsr⟩ := Stg.start4 h h0 _ _ _ _ hWB
  have HST := Lib.hid hst; clear hst
  have HK1 := Lib.hid hk1; clear hk1
  have HK2 := Lib.hid hk2; clear hk2
  have HKF := Lib.hid hkf; clear hkf hsz hsr
  have HH0 := Lib.hid h0; clear h0
  clear h hl
  have HRS := Lib.hid (fun (W : World) (f : Frm (Only w.heap.size) wr W) => (⟨f.blk HK1.out fun e => (by have e : w.heap.size + 1 = w.heap.size := e; omega), f.blk HK2.out fun e => (by have e : w.heap.size + 1 + 1 = w.heap.size := e; omega), HKF.out.trans f fun i hi e => (by have e : i = w.heap.size := e; omega)⟩ :
    W.heap[w.heap.size + 1]? = some (.cells #[.int .i64 0, .int .i64 0, .int .i64 0, .int .i64 0, .int .i64 0, .int .i64 0, .int .i64 0, .slice none 0 0, .slice none 0 0, .slice none 0 0] 51 (0, 0)) ∧ W.heap[w.heap.size + 1 + 1]? = some (.cells #[.slice none 0 0, .bool false] 42 (0, 0)) ∧ Frm NoS w W))
  generalize hb0 : st.isNone = b0 at *
  generalize hm0 : (leftOf st).length = L0 at *
  have HB0 := Lib.hid hb0; clear hb0
  have HM0 := Lib.hid hm0; clear hm0
  generalize hb1 : t1.isNone = b1 at *
  generalize hm1 : (leftOf t1).length = L1 at *
  have HB1 := Lib.hid hb1; clear hb1
  have HM1 := Lib.hid hm1; clear hm1
  generalize hb2 : t2.isNone = b2 at *
  generalize hm2 : (leftOf t2).length = L2 at *
  have HB2 := Lib.hid hb2; clear hb2
  have HM2 := Lib.hid hm2; clear hm2
  generalize hb3 : t3.isNone = b3 at *
  generalize hm3 : (leftOf t3).length = L3 at *
  have HB3 := Lib.hid hb3; clear hb3
  have HM3 := Lib.hid hm3; clear hm3
  generalize hb4 : t4.isNone = b4 at *
  generalize hm4 : (leftOf t4).length = L4 at *
  have HB4 := Lib.hid hb4; clear hb4
  have HM4 := Lib.hid hm4; clear hm4
  have HWB := Lib.hid hWB; clear hWB
  cases t5 with
  | none =>
    clear HRT
    simp only [show (leftOf (none : Option (List UInt8))).length = 0 from rfl, show (none : Option (List UInt8)).isNone = true from rfl] at HX
    obtain ⟨rfl, rfl⟩ := HC.out.det (HPB.out (.inl rfl))
    clear HPB HPG
    go_enter Tryz.func23, Tryz.ntmps23
    go_wp2_with (first
          | (go_at_call 68; first
            | (refine (HG3.out _ _ HS2.out.rin).mono ?_; rintro e3 w3 ⟨a3, c3, rfl, hr3, hf3⟩
               clear z1 q1
               clear y0 y1 y2 y3 y4 y5 y6 y7
               obtain ⟨y0, y1, y2, y3, y4, y5, y6, y7⟩ := (HS2.out.call hf3).facts1 HB2.out
               have z2 := (HS2.out.call hf3).free 2
               have q2 := (HS2.out.call hf3).cell 2 rfl
               have sHS32 : Stg w0 w wr ((w3).setCell ⟨w.heap.size + 1 + 1 + 1, 2, none⟩ (.int .i64 la)) (w.heap.size + 1 + 1 + 1) 51 #[.int .i64 dc, .int .i64 af, .int .i64 la, .int .i64 0, .int .i64 0, .int .i64 0, .int .i64 0, .slice none 0 0, .slice none 0 0, .slice none 0 0] _ _ := (HS2.out.call hf3).fld 2 (.int .i64 la)
               have rHS32 := HST.out.rfld hr3 2 (.int .i64 la)
               have HS3 := Lib.hid (sHS32.put1 rHS32 HB3.out)
               clear sHS32 rHS32
               clear hr3 hf3)
            | (refine (HG2.out _ _ HS1.out.rin).mono ?_; rintro e2 w2 ⟨a2, c2, rfl, hr2, hf2⟩
               clear z0 q0
               clear y0 y1 y2 y3 y4 y5 y6 y7
               obtain ⟨y0, y1, y2, y3, y4, y5, y6, y7⟩ := (HS1.out.call hf2).facts1 HB1.out
               have z1 := (HS1.out.call hf2).free 1
               have q1 := (HS1.out.call hf2).cell 1 rfl
               have sHS21 : Stg w0 w wr ((w2).setCell ⟨w.heap.size + 1 + 1 + 1, 1, none⟩ (.int .i64 af)) (w.heap.size + 1 + 1 + 1) 51 #[.int .i64 dc, .int .i64 af, .int .i64 0, .int .i64 0, .int .i64 0, .int .i64 0, .int .i64 0, .slice none 0 0, .slice none 0 0, .slice none 0 0] _ _ := (HS1.out.call hf2).fld 1 (.int .i64 af)
               have rHS21 := HST.out.rfld hr2 1 (.int .i64 af)
               have HS2 := Lib.hid (sHS21.put1 rHS21 HB2.out)
               clear sHS21 rHS21
               clear hr2 hf2)
            | (rw [← HWB.out]; go_loud (refine (HG1.out _ _ HST.out.rin).mono ?_); rintro e1 w1 ⟨a1, c1, rfl, hr1, hf1⟩
               obtain ⟨y0, y1, y2, y3, y4, y5, y6, y7⟩ := (HST.out.call hf1).facts1 HB0.out
               have z0 := (HST.out.call hf1).free 0
               have q0 := (HST.out.call hf1).cell 0 rfl
               have uHS1 := (HST.out.call hf1).put1 hr1 HB1.out
               have sHS10 : Stg w0 w wr ((((w1).setCell ⟨w.heap.size, 0, none⟩ (.slice a1 L1 c1)).setCell ⟨w.heap.size, 1, none⟩ (.bool b1)).setCell ⟨w.heap.size + 1 + 1 + 1, 0, none⟩ (.int .i64 dc)) (w.heap.size + 1 + 1 + 1) 51 #[.int .i64 dc, .int .i64 0, .int .i64 0, .int .i64 0, .int .i64 0, .int .i64 0, .int .i64 0, .slice none 0 0, .slice none 0 0, .slice none 0 0] (.slice a1 L1 c1) t1 := uHS1.fld 0 (.int .i64 dc)
               have HS1 := Lib.hid sHS10
               clear uHS1 sHS10
               clear hr1 hf1))
          | (go_at_call 69; go_loud (refine (HV.out _ _ HS3.out.rin (Nat.le_trans HS3.out.h0 (Nat.le_of_lt (lt_of_block HS3.out.box)))).mono ?_); rintro e4 w4 ⟨a4, c4, rfl, hr4, hf4⟩
             clear z2 q2
             clear y0 y1 y2 y3 y4 y5 y6 y7
             obtain ⟨y0, y1, y2, y3, y4, y5, y6, y7⟩ := (HS3.out.call hf4).facts1 HB3.out
             have z3 := (HS3.out.call hf4).free 3
             have q3 := (HS3.out.call hf4).cell 3 rfl
             have z4 := (HS3.out.call hf4).free 4
             have q4 := (HS3.out.call hf4).cell 4 rfl
             have z5 := (HS3.out.call hf4).free 5
             have q5 := (HS3.out.call hf4).cell 5 rfl
             have z6 := (HS3.out.call hf4).free 6
             have q6 := (HS3.out.call hf4).cell 6 rfl
             have sHS43 : Stg w0 w wr ((w4).setCell ⟨w.heap.size + 1 + 1 + 1, 3, none⟩ (.int .i64 v0)) (w.heap.size + 1 + 1 + 1) 51 #[.int .i64 dc, .int .i64 af, .int .i64 la, .int .i64 v0, .int .i64 0, .int .i64 0, .int .i64 0, .slice none 0 0, .slice none 0 0, .slice none 0 0] _ _ := (HS3.out.call hf4).fld 3 (.int .i64 v0)
             have rHS43 := HST.out.rfld hr4 3 (.int .i64 v0)
             have sHS44 : Stg w0 w wr (((w4).setCell ⟨w.heap.size + 1 + 1 + 1, 3, none⟩ (.int .i64 v0)).setCell ⟨w.heap.size + 1 + 1 + 1, 4, none⟩ (.int .i64 v1)) (w.heap.size + 1 + 1 + 1) 51 #[.int .i64 dc, .int .i64 af, .int .i64 la, .int .i64 v0, .int .i64 v1, .int .i64 0, .int .i64 0, .slice none 0 0, .slice none 0 0, .slice none 0 0] _ _ := sHS43.fld 4 (.int .i64 v1)
             have rHS44 := HST.out.rfld rHS43 4 (.int .i64 v1)
             have sHS45 : Stg w0 w wr ((((w4).setCell ⟨w.heap.size + 1 + 1 + 1, 3, none⟩ (.int .i64 v0)).setCell ⟨w.heap.size + 1 + 1 + 1, 4, none⟩ (.int .i64 v1)).setCell ⟨w.heap.size + 1 + 1 + 1, 5, none⟩ (.int .i64 v2)) (w.heap.size + 1 + 1 + 1) 51 #[.int .i64 dc, .int .i64 af, .int .i64 la, .int .i64 v0, .int .i64 v1, .int .i64 v2, .int .i64 0, .slice none 0 0, .slice none 0 0, .slice none 0 0] _ _ := sHS44.fld 5 (.int .i64 v2)
             have rHS45 := HST.out.rfld rHS44 5 (.int .i64 v2)
             have sHS46 : Stg w0 w wr (((((w4).setCell ⟨w.heap.size + 1 + 1 + 1, 3, none⟩ (.int .i64 v0)).setCell ⟨w.heap.size + 1 + 1 + 1, 4, none⟩ (.int .i64 v1)).setCell ⟨w.heap.size + 1 + 1 + 1, 5, none⟩ (.int .i64 v2)).setCell ⟨w.heap.size + 1 + 1 + 1, 6, none⟩ (.int .i64 v3)) (w.heap.size + 1 + 1 + 1) 51 #[.int .i64 dc, .int .i64 af, .int .i64 la, .int .i64 v0, .int .i64 v1, .int .i64 v2, .int .i64 v3, .slice none 0 0, .slice none 0 0, .slice none 0 0] _ _ := sHS45.fld 6 (.int .i64 v3)
             have rHS46 := HST.out.rfld rHS45 6 (.int .i64 v3)
             have HS4 := Lib.hid (sHS46.put1 rHS46 HB4.out)
             clear sHS43 rHS43 sHS44 rHS44 sHS45 rHS45 sHS46 rHS46
             clear hr4 hf4)
          | (go_at_call 18; go_loud (refine (HX.out _ _ HS4.out.rin (Nat.le_trans HS4.out.h0 (Nat.le_of_lt (lt_of_block HS4.out.box)))).mono ?_); rintro e5 w5 ⟨ev, kv, cv, a5, c5, rfl, hta, hrc, hr5, hf5⟩
             obtain ⟨d3, e3, rfl⟩ := hta.ents.rd.sl
             obtain ⟨os3, hkr3, -⟩ := hta.kids
             obtain ⟨d4, e4, rfl⟩ := hkr3.rd.sl
             obtain ⟨d5, e5, rfl⟩ := hrc.at_.sl
             clear hkr3
             clear z3 q3 z4 q4 z5 q5 z6 q6
             clear y0 y1 y2 y3 y4 y5 y6 y7
             obtain ⟨y0, y1, y2, y3, y4, y5, y6, y7⟩ := (HS4.out.call hf5).facts1 HB4.out
             have z7 := (HS4.out.call hf5).free 7
             have q7 := (HS4.out.call hf5).cell 7 rfl
             have z8 := (HS4.out.call hf5).free 8
             have q8 := (HS4.out.call hf5).cell 8 rfl
             have z9 := (HS4.out.call hf5).free 9
             have q9 := (HS4.out.call hf5).cell 9 rfl
             have p0 : w5.cell? ⟨w.heap.size + 1 + 1 + 1, 0, none⟩ = some (.int .i64 dc) := (HS4.out.call hf5).cell 0 rfl
             have p1 : w5.cell? ⟨w.heap.size + 1 + 1 + 1, 1, none⟩ = some (.int .i64 af) := (HS4.out.call hf5).cell 1 rfl
             have p2 : w5.cell? ⟨w.heap.size + 1 + 1 + 1, 2, none⟩ = some (.int .i64 la) := (HS4.out.call hf5).cell 2 rfl
             have p3 : w5.cell? ⟨w.heap.size + 1 + 1 + 1, 3, none⟩ = some (.int .i64 v0) := (HS4.out.call hf5).cell 3 rfl
             have p4 : w5.cell? ⟨w.heap.size + 1 + 1 + 1, 4, none⟩ = some (.int .i64 v1) := (HS4.out.call hf5).cell 4 rfl
             have p5 : w5.cell? ⟨w.heap.size + 1 + 1 + 1, 5, none⟩ = some (.int .i64 v2) := (HS4.out.call hf5).cell 5 rfl
             have p6 : w5.cell? ⟨w.heap.size + 1 + 1 + 1, 6, none⟩ = some (.int .i64 v3) := (HS4.out.call hf5).cell 6 rfl
             have sHS57 : Stg w0 w wr ((w5).setCell ⟨w.heap.size + 1 + 1 + 1, 7, none⟩ (.slice d3 es.length e3)) (w.heap.size + 1 + 1 + 1) 51 #[.int .i64 dc, .int .i64 af, .int .i64 la, .int .i64 v0, .int .i64 v1, .int .i64 v2, .int .i64 v3, .slice d3 es.length e3, .slice none 0 0, .slice none 0 0] _ _ := (HS4.out.call hf5).fld 7 (.slice d3 es.length e3)
             have rHS57 := HST.out.rfld hr5 7 (.slice d3 es.length e3)
             have sHS58 : Stg w0 w wr (((w5).setCell ⟨w.heap.size + 1 + 1 + 1, 7, none⟩ (.slice d3 es.length e3)).setCell ⟨w.heap.size + 1 + 1 + 1, 8, none⟩ (.slice d4 ks.len e4)) (w.heap.size + 1 + 1 + 1) 51 #[.int .i64 dc, .int .i64 af, .int .i64 la, .int .i64 v0, .int .i64 v1, .int .i64 v2, .int .i64 v3, .slice d3 es.length e3, .slice d4 ks.len e4, .slice none 0 0] _ _ := sHS57.fld 8 (.slice d4 ks.len e4)
             have rHS58 := HST.out.rfld rHS57 8 (.slice d4 ks.len e4)
             have sHS59 : Stg w0 w wr ((((w5).setCell ⟨w.heap.size + 1 + 1 + 1, 7, none⟩ (.slice d3 es.length e3)).setCell ⟨w.heap.size + 1 + 1 + 1, 8, none⟩ (.slice d4 ks.len e4)).setCell ⟨w.heap.size + 1 + 1 + 1, 9, none⟩ (.slice d5 c.length e5)) (w.heap.size + 1 + 1 + 1) 51 #[.int .i64 dc, .int .i64 af, .int .i64 la, .int .i64 v0, .int .i64 v1, .int .i64 v2, .int .i64 v3, .slice d3 es.length e3, .slice d4 ks.len e4, .slice d5 c.length e5] _ _ := sHS58.fld 9 (.slice d5 c.length e5)
             have rHS59 := HST.out.rfld rHS58 9 (.slice d5 c.length e5)
             have HS5 := Lib.hid (sHS59.put1 rHS59 (b := true) rfl)
             clear sHS57 rHS57 sHS58 rHS58 sHS59 rHS59
             have hsz1 := lt_of_block HS4.out.blk
             have hft : Frm (fun k => k = w.heap.size + 1 + 1 + 1 ∨ k = w.heap.size) w5 ((((((w5).setCell ⟨w.heap.size + 1 + 1 + 1, 7, none⟩ (.slice d3 es.length e3)).setCell ⟨w.heap.size + 1 + 1 + 1, 8, none⟩ (.slice d4 ks.len e4)).setCell ⟨w.heap.size + 1 + 1 + 1, 9, none⟩ (.slice d5 c.length e5)).setCell ⟨w.heap.size, 0, none⟩ (.slice a5 0 c5)).setCell ⟨w.heap.size, 1, none⟩ (.bool true)) :=
               ((((only_set w5 (w.heap.size + 1 + 1 + 1) 7 _).trans (only_set _ (w.heap.size + 1 + 1 + 1) 8 _) fun _ _ h => h).trans (only_set _ (w.heap.size + 1 + 1 + 1) 9 _) fun _ _ h => h).mono fun k _ hk => .inl hk).trans ((two_set _ w.heap.size _ _).mono fun k _ hk => .inr hk) fun _ _ h => h
             have turn : ∀ k, k < w5.heap.size → (((((((w4).setCell ⟨w.heap.size + 1 + 1 + 1, 3, none⟩ (.int .i64 v0)).setCell ⟨w.heap.size + 1 + 1 + 1, 4, none⟩ (.int .i64 v1)).setCell ⟨w.heap.size + 1 + 1 + 1, 5, none⟩ (.int .i64 v2)).setCell ⟨w.heap.size + 1 + 1 + 1, 6, none⟩ (.int .i64 v3)).setCell ⟨w.heap.size, 0, none⟩ (.slice a4 L4 c4)).setCell ⟨w.heap.size, 1, none⟩ (.bool b4)).heap.size ≤ k → ((((((w5).setCell ⟨w.heap.size + 1 + 1 + 1, 7, none⟩ (.slice d3 es.length e3)).setCell ⟨w.heap.size + 1 + 1 + 1, 8, none⟩ (.slice d4 ks.len e4)).setCell ⟨w.heap.size + 1 + 1 + 1, 9, none⟩ (.slice d5 c.length e5)).setCell ⟨w.heap.size, 0, none⟩ (.slice a5 0 c5)).setCell ⟨w.heap.size, 1, none⟩ (.bool true)).heap[k]? = w5.heap[k]? ∧ w.heap.size + 1 + 1 + 1 ≤ k := fun k hk hQ => ⟨hft.block k hk fun hs => (by have h9 := Nat.lt_of_lt_of_le hsz1 hQ; clear hft hsz1; rcases hs with hs | hs <;> omega), Nat.le_of_lt (Nat.lt_of_lt_of_le hsz1 hQ)⟩
             have HTA := Lib.hid (hta.turn turn)
             have HRC := Lib.hid (show CtxQ (fun k => w.heap.size + 1 + 1 + 1 ≤ k) _ (.slice d5 c.length e5) c from RdQ.turn hrc turn)
             obtain ⟨g1, g2, hfw⟩ := HRS.out w5 (HS4.out.call hf5).frm
             have k0 := cell_at' g1 0 rfl
             have i0 := free_at' g1 0
             have k1 := cell_at' g1 1 rfl
             have i1 := free_at' g1 1
             have k2 := cell_at' g1 2 rfl
             have i2 := free_at' g1 2
             have k3 := cell_at' g1 3 rfl
             have i3 := free_at' g1 3
             have k4 := cell_at' g1 4 rfl
             have i4 := free_at' g1 4
             have k5 := cell_at' g1 5 rfl
             have i5 := free_at' g1 5
             have k6 := cell_at' g1 6 rfl
             have i6 := free_at' g1 6
             have k7 := cell_at' g1 7 rfl
             have i7 := free_at' g1 7
             have k8 := cell_at' g1 8 rfl
             have i8 := free_at' g1 8
             have k9 := cell_at' g1 9 rfl
             have i9 := free_at' g1 9
             have hl1 := lt_of_block g1
             have k10 := cell_at' g2 0 rfl
             have i10 := free_at' g2 0
             have k11 := cell_at' g2 1 rfl
             have i11 := free_at' g2 1
             have hl2 := lt_of_block g2
             clear g1 g2 hfw
             clear hft turn hta hrc hr5 hf5 hsz1
             generalize es.length = n at *
             generalize ks.len = m at *
             generalize c.length = k at *))
    clear k0 i0 k1 i1 k2 i2 k3 i3 k4 i4 k5 i5 k6 i6 k7 i7 k8 i8 k9 i9 k10 i10 k11 i11 hl1 hl2
    clear p0 p1 p2 p3 p4 p5 p6 z7 q7 z8 q8 z9 q9 y0 y1 y2 y3 y4 y5 y6 y7
    obtain ⟨g1, g2, hfw⟩ := HRS.out _ HS5.out.frm
    have G1 := Lib.hid g1; clear g1
    have G2 := Lib.hid g2; clear g2
    obtain ⟨hten, htwo⟩ := stores12_at (x0 := .int .i64 0) (x1 := .int .i64 0) (x2 := .int .i64 0) (x3 := .int .i64 0) (x4 := .int .i64 0) (x5 := .int .i64 0) (x6 := .int .i64 0) (x7 := .slice none 0 0) (x8 := .slice none 0 0) (x9 := .slice none 0 0) (y0 := .slice none 0 0) (y1 := .bool true) G1.out G2.out _ rfl
    have y0 := cell_at' hten 0 rfl
    have y1 := cell_at' hten 1 rfl
    have y2 := cell_at' hten 2 rfl
    have y3 := cell_at' hten 3 rfl
    have y4 := cell_at' hten 4 rfl
    have y5 := cell_at' hten 5 rfl
    have y6 := cell_at' hten 6 rfl
    have y7 := cell_at' hten 7 rfl
    have y8 := cell_at' hten 8 rfl
    have y9 := cell_at' hten 9 rfl
    have y10 := cell_at' htwo 0 rfl
    have y11 := cell_at' htwo 1 rfl
    exact bodyPost_ret (v := .tuple #[.agg #[.int .i64 0, .int .i64 0, .int .i64 0, .int .i64 0, .int .i64 0, .int .i64 0, .int .i64 0, .slice none 0 0, .slice none 0 0, .slice none 0 0], .agg #[.slice none 0 0, .bool true]]) (by simp [results, Tryz.results23, go_sem, y0, y1, y2, y3, y4, y5, y6, y7, y8, y9, y10, y11]) rfl (bunFin BunD.zero (tree_nilQ _ _) (rdq_nil _ _) (a := none) (l := 0) (s := none) (RIn.bad w0 _) HH0.out hfw (stores12 w _ _ _ _ _ _ _ _ _ _ _ _ _ ))
  | some r =>
    simp only [show (leftOf (some r)).length = r.length from rfl, show (some r).isNone = false from rfl] at HX
    by_cases hr : BunRight dc af la (vecF v0 v1 v2 v3) es ks c
    · rw [tf_true hr] at HRT
      obtain ⟨rfl, rfl⟩ := HC.out.det (HPG.out r rfl hr)
      clear hr HPB HPG
      go_enter Tryz.func23, Tryz.ntmps23
      go_wp2_with (first
          | (go_at_call 68; first
            | (refine (HG3.out _ _ HS2.out.rin).mono ?_; rintro e3 w3 ⟨a3, c3, rfl, hr3, hf3⟩
               clear z1 q1
               clear y0 y1 y2 y3 y4 y5 y6 y7
               obtain ⟨y0, y1, y2, y3, y4, y5, y6, y7⟩ := (HS2.out.call hf3).facts1 HB2.out
               have z2 := (HS2.out.call hf3).free 2
               have q2 := (HS2.out.call hf3).cell 2 rfl
               have sHS32 : Stg w0 w wr ((w3).setCell ⟨w.heap.size + 1 + 1 + 1, 2, none⟩ (.int .i64 la)) (w.heap.size + 1 + 1 + 1) 51 #[.int .i64 dc, .int .i64 af, .int .i64 la, .int .i64 0, .int .i64 0, .int .i64 0, .int .i64 0, .slice none 0 0, .slice none 0 0, .slice none 0 0] _ _ := (HS2.out.call hf3).fld 2 (.int .i64 la)
               have rHS32 := HST.out.rfld hr3 2 (.int .i64 la)
               have HS3 := Lib.hid (sHS32.put1 rHS32 HB3.out)
               clear sHS32 rHS32
               clear hr3 hf3)
            | (refine (HG2.out _ _ HS1.out.rin).mono ?_; rintro e2 w2 ⟨a2, c2, rfl, hr2, hf2⟩
               clear z0 q0
               clear y0 y1 y2 y3 y4 y5 y6 y7
               obtain ⟨y0, y1, y2, y3, y4, y5, y6, y7⟩ := (HS1.out.call hf2).facts1 HB1.out
               have z1 := (HS1.out.call hf2).free 1
               have q1 := (HS1.out.call hf2).cell 1 rfl
               have sHS21 : Stg w0 w wr ((w2).setCell ⟨w.heap.size + 1 + 1 + 1, 1, none⟩ (.int .i64 af)) (w.heap.size + 1 + 1 + 1) 51 #[.int .i64 dc, .int .i64 af, .int .i64 0, .int .i64 0, .int .i64 0, .int .i64 0, .int .i64 0, .slice none 0 0, .slice none 0 0, .slice none 0 0] _ _ := (HS1.out.call hf2).fld 1 (.int .i64 af)
               have rHS21 := HST.out.rfld hr2 1 (.int .i64 af)
               have HS2 := Lib.hid (sHS21.put1 rHS21 HB2.out)
               clear sHS21 rHS21
               clear hr2 hf2)
            | (rw [← HWB.out]; go_loud (refine (HG1.out _ _ HST.out.rin).mono ?_); rintro e1 w1 ⟨a1, c1, rfl, hr1, hf1⟩
               obtain ⟨y0, y1, y2, y3, y4, y5, y6, y7⟩ := (HST.out.call hf1).facts1 HB0.out
               have z0 := (HST.out.call hf1).free 0
               have q0 := (HST.out.call hf1).cell 0 rfl
               have uHS1 := (HST.out.call hf1).put1 hr1 HB1.out
               have sHS10 : Stg w0 w wr ((((w1).setCell ⟨w.heap.size, 0, none⟩ (.slice a1 L1 c1)).setCell ⟨w.heap.size, 1, none⟩ (.bool b1)).setCell ⟨w.heap.size + 1 + 1 + 1, 0, none⟩ (.int .i64 dc)) (w.heap.size + 1 + 1 + 1) 51 #[.int .i64 dc, .int .i64 0, .int .i64 0, .int .i64 0, .int .i64 0, .int .i64 0, .int .i64 0, .slice none 0 0, .slice none 0 0, .slice none 0 0] (.slice a1 L1 c1) t1 := uHS1.fld 0 (.int .i64 dc)
               have HS1 := Lib.hid sHS10
               clear uHS1 sHS10
               clear hr1 hf1))
          | (go_at_call 69; go_loud (refine (HV.out _ _ HS3.out.rin (Nat.le_trans HS3.out.h0 (Nat.le_of_lt (lt_of_block HS3.out.box)))).mono ?_); rintro e4 w4 ⟨a4, c4, rfl, hr4, hf4⟩
             clear z2 q2
             clear y0 y1 y2 y3 y4 y5 y6 y7
             obtain ⟨y0, y1, y2, y3, y4, y5, y6, y7⟩ := (HS3.out.call hf4).facts1 HB3.out
             have z3 := (HS3.out.call hf4).free 3
             have q3 := (HS3.out.call hf4).cell 3 rfl
             have z4 := (HS3.out.call hf4).free 4
             have q4 := (HS3.out.call hf4).cell 4 rfl
             have z5 := (HS3.out.call hf4).free 5
             have q5 := (HS3.out.call hf4).cell 5 rfl
             have z6 := (HS3.out.call hf4).free 6
             have q6 := (HS3.out.call hf4).cell 6 rfl
             have sHS43 : Stg w0 w wr ((w4).setCell ⟨w.heap.size + 1 + 1 + 1, 3, none⟩ (.int .i64 v0)) (w.heap.size + 1 + 1 + 1) 51 #[.int .i64 dc, .int .i64 af, .int .i64 la, .int .i64 v0, .int .i64 0, .int .i64 0, .int .i64 0, .slice none 0 0, .slice none 0 0, .slice none 0 0] _ _ := (HS3.out.call hf4).fld 3 (.int .i64 v0)
             have rHS43 := HST.out.rfld hr4 3 (.int .i64 v0)
             have sHS44 : Stg w0 w wr (((w4).setCell ⟨w.heap.size + 1 + 1 + 1, 3, none⟩ (.int .i64 v0)).setCell ⟨w.heap.size + 1 + 1 + 1, 4, none⟩ (.int .i64 v1)) (w.heap.size + 1 + 1 + 1) 51 #[.int .i64 dc, .int .i64 af, .int .i64 la, .int .i64 v0, .int .i64 v1, .int .i64 0, .int .i64 0, .slice none 0 0, .slice none 0 0, .slice none 0 0] _ _ := sHS43.fld 4 (.int .i64 v1)
             have rHS44 := HST.out.rfld rHS43 4 (.int .i64 v1)
             have sHS45 : Stg w0 w wr ((((w4).setCell ⟨w.heap.size + 1 + 1 + 1, 3, none⟩ (.int .i64 v0)).setCell ⟨w.heap.size + 1 + 1 + 1, 4, none⟩ (.int .i64 v1)).setCell ⟨w.heap.size + 1 + 1 + 1, 5, none⟩ (.int .i64 v2)) (w.heap.size + 1 + 1 + 1) 51 #[.int .i64 dc, .int .i64 af, .int .i64 la, .int .i64 v0, .int .i64 v1, .int .i64 v2, .int .i64 0, .slice none 0 0, .slice none 0 0, .slice none 0 0] _ _ := sHS44.fld 5 (.int .i64 v2)
             have rHS45 := HST.out.rfld rHS44 5 (.int .i64 v2)
             have sHS46 : Stg w0 w wr (((((w4).setCell ⟨w.heap.size + 1 + 1 + 1, 3, none⟩ (.int .i64 v0)).setCell ⟨w.heap.size + 1 + 1 + 1, 4, none⟩ (.int .i64 v1)).setCell ⟨w.heap.size + 1 + 1 + 1, 5, none⟩ (.int .i64 v2)).setCell ⟨w.heap.size + 1 + 1 + 1, 6, none⟩ (.int .i64 v3)) (w.heap.size + 1 + 1 + 1) 51 #[.int .i64 dc, .int .i64 af, .int .i64 la, .int .i64 v0, .int .i64 v1, .int .i64 v2, .int .i64 v3, .slice none 0 0, .slice none 0 0, .slice none 0 0] _ _ := sHS45.fld 6 (.int .i64 v3)
             have rHS46 := HST.out.rfld rHS45 6 (.int .i64 v3)
             have HS4 := Lib.hid (sHS46.put1 rHS46 HB4.out)
             clear sHS43 rHS43 sHS44 rHS44 sHS45 rHS45 sHS46 rHS46
             clear hr4 hf4)
          | (go_at_call 18; go_loud (refine (HX.out _ _ HS4.out.rin (Nat.le_trans HS4.out.h0 (Nat.le_of_lt (lt_of_block HS4.out.box)))).mono ?_); rintro e5 w5 ⟨ev, kv, cv, a5, c5, rfl, hta, hrc, hr5, hf5⟩
             obtain ⟨d3, e3, rfl⟩ := hta.ents.rd.sl
             obtain ⟨os3, hkr3, -⟩ := hta.kids
             obtain ⟨d4, e4, rfl⟩ := hkr3.rd.sl
             obtain ⟨d5, e5, rfl⟩ := hrc.at_.sl
             clear hkr3
             clear z3 q3 z4 q4 z5 q5 z6 q6
             clear y0 y1 y2 y3 y4 y5 y6 y7
             obtain ⟨y0, y1, y2, y3, y4, y5, y6, y7⟩ := (HS4.out.call hf5).facts1 HB4.out
             have z7 := (HS4.out.call hf5).free 7
             have q7 := (HS4.out.call hf5).cell 7 rfl
             have z8 := (HS4.out.call hf5).free 8
             have q8 := (HS4.out.call hf5).cell 8 rfl
             have z9 := (HS4.out.call hf5).free 9
             have q9 := (HS4.out.call hf5).cell 9 rfl
             have p0 : w5.cell? ⟨w.heap.size + 1 + 1 + 1, 0, none⟩ = some (.int .i64 dc) := (HS4.out.call hf5).cell 0 rfl
             have p1 : w5.cell? ⟨w.heap.size + 1 + 1 + 1, 1, none⟩ = some (.int .i64 af) := (HS4.out.call hf5).cell 1 rfl
             have p2 : w5.cell? ⟨w.heap.size + 1 + 1 + 1, 2, none⟩ = some (.int .i64 la) := (HS4.out.call hf5).cell 2 rfl
             have p3 : w5.cell? ⟨w.heap.size + 1 + 1 + 1, 3, none⟩ = some (.int .i64 v0) := (HS4.out.call hf5).cell 3 rfl
             have p4 : w5.cell? ⟨w.heap.size + 1 + 1 + 1, 4, none⟩ = some (.int .i64 v1) := (HS4.out.call hf5).cell 4 rfl
             have p5 : w5.cell? ⟨w.heap.size + 1 + 1 + 1, 5, none⟩ = some (.int .i64 v2) := (HS4.out.call hf5).cell 5 rfl
             have p6 : w5.cell? ⟨w.heap.size + 1 + 1 + 1, 6, none⟩ = some (.int .i64 v3) := (HS4.out.call hf5).cell 6 rfl
             have sHS57 : Stg w0 w wr ((w5).setCell ⟨w.heap.size + 1 + 1 + 1, 7, none⟩ (.slice d3 es.length e3)) (w.heap.size + 1 + 1 + 1) 51 #[.int .i64 dc, .int .i64 af, .int .i64 la, .int .i64 v0, .int .i64 v1, .int .i64 v2, .int .i64 v3, .slice d3 es.length e3, .slice none 0 0, .slice none 0 0] _ _ := (HS4.out.call hf5).fld 7 (.slice d3 es.length e3)
             have rHS57 := HST.out.rfld hr5 7 (.slice d3 es.length e3)
             have sHS58 : Stg w0 w wr (((w5).setCell ⟨w.heap.size + 1 + 1 + 1, 7, none⟩ (.slice d3 es.length e3)).setCell ⟨w.heap.size + 1 + 1 + 1, 8, none⟩ (.slice d4 ks.len e4)) (w.heap.size + 1 + 1 + 1) 51 #[.int .i64 dc, .int .i64 af, .int .i64 la, .int .i64 v0, .int .i64 v1, .int .i64 v2, .int .i64 v3, .slice d3 es.length e3, .slice d4 ks.len e4, .slice none 0 0] _ _ := sHS57.fld 8 (.slice d4 ks.len e4)
             have rHS58 := HST.out.rfld rHS57 8 (.slice d4 ks.len e4)
             have sHS59 : Stg w0 w wr ((((w5).setCell ⟨w.heap.size + 1 + 1 + 1, 7, none⟩ (.slice d3 es.length e3)).setCell ⟨w.heap.size + 1 + 1 + 1, 8, none⟩ (.slice d4 ks.len e4)).setCell ⟨w.heap.size + 1 + 1 + 1, 9, none⟩ (.slice d5 c.length e5)) (w.heap.size + 1 + 1 + 1) 51 #[.int .i64 dc, .int .i64 af, .int .i64 la, .int .i64 v0, .int .i64 v1, .int .i64 v2, .int .i64 v3, .slice d3 es.length e3, .slice d4 ks.len e4, .slice d5 c.length e5] _ _ := sHS58.fld 9 (.slice d5 c.length e5)
             have rHS59 := HST.out.rfld rHS58 9 (.slice d5 c.length e5)
             have HS5 := Lib.hid (sHS59.put1 rHS59 (b := false) rfl)
             clear sHS57 rHS57 sHS58 rHS58 sHS59 rHS59
             have hsz1 := lt_of_block HS4.out.blk
             have hft : Frm (fun k => k = w.heap.size + 1 + 1 + 1 ∨ k = w.heap.size) w5 ((((((w5).setCell ⟨w.heap.size + 1 + 1 + 1, 7, none⟩ (.slice d3 es.length e3)).setCell ⟨w.heap.size + 1 + 1 + 1, 8, none⟩ (.slice d4 ks.len e4)).setCell ⟨w.heap.size + 1 + 1 + 1, 9, none⟩ (.slice d5 c.length e5)).setCell ⟨w.heap.size, 0, none⟩ (.slice a5 r.length c5)).setCell ⟨w.heap.size, 1, none⟩ (.bool false)) :=
               ((((only_set w5 (w.heap.size + 1 + 1 + 1) 7 _).trans (only_set _ (w.heap.size + 1 + 1 + 1) 8 _) fun _ _ h => h).trans (only_set _ (w.heap.size + 1 + 1 + 1) 9 _) fun _ _ h => h).mono fun k _ hk => .inl hk).trans ((two_set _ w.heap.size _ _).mono fun k _ hk => .inr hk) fun _ _ h => h
             have turn : ∀ k, k < w5.heap.size → (((((((w4).setCell ⟨w.heap.size + 1 + 1 + 1, 3, none⟩ (.int .i64 v0)).setCell ⟨w.heap.size + 1 + 1 + 1, 4, none⟩ (.int .i64 v1)).setCell ⟨w.heap.size + 1 + 1 + 1, 5, none⟩ (.int .i64 v2)).setCell ⟨w.heap.size + 1 + 1 + 1, 6, none⟩ (.int .i64 v3)).setCell ⟨w.heap.size, 0, none⟩ (.slice a4 L4 c4)).setCell ⟨w.heap.size, 1, none⟩ (.bool b4)).heap.size ≤ k → ((((((w5).setCell ⟨w.heap.size + 1 + 1 + 1, 7, none⟩ (.slice d3 es.length e3)).setCell ⟨w.heap.size + 1 + 1 + 1, 8, none⟩ (.slice d4 ks.len e4)).setCell ⟨w.heap.size + 1 + 1 + 1, 9, none⟩ (.slice d5 c.length e5)).setCell ⟨w.heap.size, 0, none⟩ (.slice a5 r.length c5)).setCell ⟨w.heap.size, 1, none⟩ (.bool false)).heap[k]? = w5.heap[k]? ∧ w.heap.size + 1 + 1 + 1 ≤ k := fun k hk hQ => ⟨hft.block k hk fun hs => (by have h9 := Nat.lt_of_lt_of_le hsz1 hQ; clear hft hsz1; rcases hs with hs | hs <;> omega), Nat.le_of_lt (Nat.lt_of_lt_of_le hsz1 hQ)⟩
             have HTA := Lib.hid (hta.turn turn)
             have HRC := Lib.hid (show CtxQ (fun k => w.heap.size + 1 + 1 + 1 ≤ k) _ (.slice d5 c.length e5) c from RdQ.turn hrc turn)
             clear hft turn hta hrc hr5 hf5 hsz1
             generalize es.length = n at *
             generalize ks.len = m at *
             generalize c.length = k at *)
          | (go_at_call 44; go_loud (refine (HRT.out _ _ _ _ _ ⟨HTA.out, HRC.out.at_⟩).mono ?_); rintro e w7 ⟨rfl, hf7⟩
             clear p0 p1 p2 p3 p4 p5 p6 z7 q7 z8 q8 z9 q9 y0 y1 y2 y3 y4 y5 y6 y7
             have HS7 := Lib.hid (HS5.out.call hf7)
             have HTA7 := Lib.hid (HTA.out.keep0 hf7)
             have HRC7 := Lib.hid (HRC.out.keep0 hf7)
             obtain ⟨g1, g2, hfw⟩ := HRS.out w7 HS7.out.frm
             have k0 := cell_at' g1 0 rfl
             have i0 := free_at' g1 0
             have k1 := cell_at' g1 1 rfl
             have i1 := free_at' g1 1
             have k2 := cell_at' g1 2 rfl
             have i2 := free_at' g1 2
             have k3 := cell_at' g1 3 rfl
             have i3 := free_at' g1 3
             have k4 := cell_at' g1 4 rfl
             have i4 := free_at' g1 4
             have k5 := cell_at' g1 5 rfl
             have i5 := free_at' g1 5
             have k6 := cell_at' g1 6 rfl
             have i6 := free_at' g1 6
             have k7 := cell_at' g1 7 rfl
             have i7 := free_at' g1 7
             have k8 := cell_at' g1 8 rfl
             have i8 := free_at' g1 8
             have k9 := cell_at' g1 9 rfl
             have i9 := free_at' g1 9
             have hl1 := lt_of_block g1
             have k10 := cell_at' g2 0 rfl
             have i10 := free_at' g2 0
             have k11 := cell_at' g2 1 rfl
             have i11 := free_at' g2 1
             have hl2 := lt_of_block g2
             have G1 := Lib.hid g1; clear g1
             have G2 := Lib.hid g2; clear g2
             have HFW := Lib.hid hfw
             clear hf7 hfw
             obtain ⟨y0, y1, y2, y3, y4, y5, y6, y7⟩ := HS7.out.facts1 (b := false) rfl
             have p0 : w7.cell? ⟨w.heap.size + 1 + 1 + 1, 0, none⟩ = some (.int .i64 dc) := HS7.out.cell 0 rfl
             have p1 : w7.cell? ⟨w.heap.size + 1 + 1 + 1, 1, none⟩ = some (.int .i64 af) := HS7.out.cell 1 rfl
             have p2 : w7.cell? ⟨w.heap.size + 1 + 1 + 1, 2, none⟩ = some (.int .i64 la) := HS7.out.cell 2 rfl
             have p3 : w7.cell? ⟨w.heap.size + 1 + 1 + 1, 3, none⟩ = some (.int .i64 v0) := HS7.out.cell 3 rfl
             have p4 : w7.cell? ⟨w.heap.size + 1 + 1 + 1, 4, none⟩ = some (.int .i64 v1) := HS7.out.cell 4 rfl
             have p5 : w7.cell? ⟨w.heap.size + 1 + 1 + 1, 5, none⟩ = some (.int .i64 v2) := HS7.out.cell 5 rfl
             have p6 : w7.cell? ⟨w.heap.size + 1 + 1 + 1, 6, none⟩ = some (.int .i64 v3) := HS7.out.cell 6 rfl
             have p7 : w7.cell? ⟨w.heap.size + 1 + 1 + 1, 7, none⟩ = some (.slice d3 n e3) := HS7.out.cell 7 rfl
             have p8 : w7.cell? ⟨w.heap.size + 1 + 1 + 1, 8, none⟩ = some (.slice d4 m e4) := HS7.out.cell 8 rfl
             have p9 : w7.cell? ⟨w.heap.size + 1 + 1 + 1, 9, none⟩ = some (.slice d5 k e5) := HS7.out.cell 9 rfl))
      go_region
      all_goals
        clear k0 i0 k1 i1 k2 i2 k3 i3 k4 i4 k5 i5 k6 i6 k7 i7 k8 i8 k9 i9 k10 i10 k11 i11 hl1 hl2
        clear p0 p1 p2 p3 p4 p5 p6 p7 p8 p9 y0 y1 y2 y3 y4 y5 y6 y7
        obtain ⟨hten, htwo⟩ := stores12_at (x0 := .int .i64 dc) (x1 := .int .i64 af) (x2 := .int .i64 la) (x3 := .int .i64 v0) (x4 := .int .i64 v1) (x5 := .int .i64 v2) (x6 := .int .i64 v3) (x7 := .slice d3 n e3) (x8 := .slice d4 m e4) (x9 := .slice d5 k e5) (y0 := .slice a5 r.length c5) (y1 := .bool false) G1.out G2.out _ rfl
        have y0 := cell_at' hten 0 rfl
        have y1 := cell_at' hten 1 rfl
        have y2 := cell_at' hten 2 rfl
        have y3 := cell_at' hten 3 rfl
        have y4 := cell_at' hten 4 rfl
        have y5 := cell_at' hten 5 rfl
        have y6 := cell_at' hten 6 rfl
        have y7 := cell_at' hten 7 rfl
        have y8 := cell_at' hten 8 rfl
        have y9 := cell_at' hten 9 rfl
        have y10 := cell_at' htwo 0 rfl
        have y11 := cell_at' htwo 1 rfl
        go_wp2
        exact bodyPost_ret (v := .tuple #[.agg #[.int .i64 dc, .int .i64 af, .int .i64 la, .int .i64 v0, .int .i64 v1, .int .i64 v2, .int .i64 v3, .slice d3 n e3, .slice d4 m e4, .slice d5 k e5], .agg #[.slice a5 r.length c5, .bool false]]) (by simp [results, Tryz.results23, go_sem, y0, y1, y2, y3, y4, y5, y6, y7, y8, y9, y10, y11]) rfl (bunFin ⟨dc, af, la, v0, v1, v2, v3, es, ks, c⟩ HTA7.out HRC7.out (s := some r) HS7.out.rin HH0.out HFW.out ((stores12 w w7 _ _ _ _ _ _ _ _ _ _ _ _ ).then1 (Frm.drew NoS _)))
    · rw [tf_false hr] at HRT
      obtain ⟨rfl, rfl⟩ := HC.out.det (HPB.out (.inr hr))
      clear hr HPB HPG
      go_enter Tryz.func23, Tryz.ntmps23
      go_wp2_with (first
          | (go_at_call 68; first
            | (refine (HG3.out _ _ HS2.out.rin).mono ?_; rintro e3 w3 ⟨a3, c3, rfl, hr3, hf3⟩
               clear z1 q1
               clear y0 y1 y2 y3 y4 y5 y6 y7
               obtain ⟨y0, y1, y2, y3, y4, y5, y6, y7⟩ := (HS2.out.call hf3).facts1 HB2.out
               have z2 := (HS2.out.call hf3).free 2
               have q2 := (HS2.out.call hf3).cell 2 rfl
               have sHS32 : Stg w0 w wr ((w3).setCell ⟨w.heap.size + 1 + 1 + 1, 2, none⟩ (.int .i64 la)) (w.heap.size + 1 + 1 + 1) 51 #[.int .i64 dc, .int .i64 af, .int .i64 la, .int .i64 0, .int .i64 0, .int .i64 0, .int .i64 0, .slice none 0 0, .slice none 0 0, .slice none 0 0] _ _ := (HS2.out.call hf3).fld 2 (.int .i64 la)
               have rHS32 := HST.out.rfld hr3 2 (.int .i64 la)
               have HS3 := Lib.hid (sHS32.put1 rHS32 HB3.out)
               clear sHS32 rHS32
               clear hr3 hf3)
            | (refine (HG2.out _ _ HS1.out.rin).mono ?_; rintro e2 w2 ⟨a2, c2, rfl, hr2, hf2⟩
               clear z0 q0
               clear y0 y1 y2 y3 y4 y5 y6 y7
               obtain ⟨y0, y1, y2, y3, y4, y5, y6, y7⟩ := (HS1.out.call hf2).facts1 HB1.out
               have z1 := (HS1.out.call hf2).free 1
               have q1 := (HS1.out.call hf2).cell 1 rfl
               have sHS21 : Stg w0 w wr ((w2).setCell ⟨w.heap.size + 1 + 1 + 1, 1, none⟩ (.int .i64 af)) (w.heap.size + 1 + 1 + 1) 51 #[.int .i64 dc, .int .i64 af, .int .i64 0, .int .i64 0, .int .i64 0, .int .i64 0, .int .i64 0, .slice none 0 0, .slice none 0 0, .slice none 0 0] _ _ := (HS1.out.call hf2).fld 1 (.int .i64 af)
               have rHS21 := HST.out.rfld hr2 1 (.int .i64 af)
               have HS2 := Lib.hid (sHS21.put1 rHS21 HB2.out)
               clear sHS21 rHS21
               clear hr2 hf2)
            | (rw [← HWB.out]; go_loud (refine (HG1.out _ _ HST.out.rin).mono ?_); rintro e1 w1 ⟨a1, c1, rfl, hr1, hf1⟩
               obtain ⟨y0, y1, y2, y3, y4, y5, y6, y7⟩ := (HST.out.call hf1).facts1 HB0.out
               have z0 := (HST.out.call hf1).free 0
               have q0 := (HST.out.call hf1).cell 0 rfl
               have uHS1 := (HST.out.call hf1).put1 hr1 HB1.out
               have sHS10 : Stg w0 w wr ((((w1).setCell ⟨w.heap.size, 0, none⟩ (.slice a1 L1 c1)).setCell ⟨w.heap.size, 1, none⟩ (.bool b1)).setCell ⟨w.heap.size + 1 + 1 + 1, 0, none⟩ (.int .i64 dc)) (w.heap.size + 1 + 1 + 1) 51 #[.int .i64 dc, .int .i64 0, .int .i64 0, .int .i64 0, .int .i64 0, .int .i64 0, .int .i64 0, .slice none 0 0, .slice none 0 0, .slice none 0 0] (.slice a1 L1 c1) t1 := uHS1.fld 0 (.int .i64 dc)
               have HS1 := Lib.hid sHS10
               clear uHS1 sHS10
               clear hr1 hf1))
          | (go_at_call 69; go_loud (refine (HV.out _ _ HS3.out.rin (Nat.le_trans HS3.out.h0 (Nat.le_of_lt (lt_of_block HS3.out.box)))).mono ?_); rintro e4 w4 ⟨a4, c4, rfl, hr4, hf4⟩
             clear z2 q2
             clear y0 y1 y2 y3 y4 y5 y6 y7
             obtain ⟨y0, y1, y2, y3, y4, y5, y6, y7⟩ := (HS3.out.call hf4).facts1 HB3.out
             have z3 := (HS3.out.call hf4).free 3
             have q3 := (HS3.out.call hf4).cell 3 rfl
             have z4 := (HS3.out.call hf4).free 4
             have q4 := (HS3.out.call hf4).cell 4 rfl
             have z5 := (HS3.out.call hf4).free 5
             have q5 := (HS3.out.call hf4).cell 5 rfl
             have z6 := (HS3.out.call hf4).free 6
             have q6 := (HS3.out.call hf4).cell 6 rfl
             have sHS43 : Stg w0 w wr ((w4).setCell ⟨w.heap.size + 1 + 1 + 1, 3, none⟩ (.int .i64 v0)) (w.heap.size + 1 + 1 + 1) 51 #[.int .i64 dc, .int .i64 af, .int .i64 la, .int .i64 v0, .int .i64 0, .int .i64 0, .int .i64 0, .slice none 0 0, .slice none 0 0, .slice none 0 0] _ _ := (HS3.out.call hf4).fld 3 (.int .i64 v0)
             have rHS43 := HST.out.rfld hr4 3 (.int .i64 v0)
             have sHS44 : Stg w0 w wr (((w4).setCell ⟨w.heap.size + 1 + 1 + 1, 3, none⟩ (.int .i64 v0)).setCell ⟨w.heap.size + 1 + 1 + 1, 4, none⟩ (.int .i64 v1)) (w.heap.size + 1 + 1 + 1) 51 #[.int .i64 dc, .int .i64 af, .int .i64 la, .int .i64 v0, .int .i64 v1, .int .i64 0, .int .i64 0, .slice none 0 0, .slice none 0 0, .slice none 0 0] _ _ := sHS43.fld 4 (.int .i64 v1)
             have rHS44 := HST.out.rfld rHS43 4 (.int .i64 v1)
             have sHS45 : Stg w0 w wr ((((w4).setCell ⟨w.heap.size + 1 + 1 + 1, 3, none⟩ (.int .i64 v0)).setCell ⟨w.heap.size + 1 + 1 + 1, 4, none⟩ (.int .i64 v1)).setCell ⟨w.heap.size + 1 + 1 + 1, 5, none⟩ (.int .i64 v2)) (w.heap.size + 1 + 1 + 1) 51 #[.int .i64 dc, .int .i64 af, .int .i64 la, .int .i64 v0, .int .i64 v1, .int .i64 v2, .int .i64 0, .slice none 0 0, .slice none 0 0, .slice none 0 0] _ _ := sHS44.fld 5 (.int .i64 v2)
             have rHS45 := HST.out.rfld rHS44 5 (.int .i64 v2)
             have sHS46 : Stg w0 w wr (((((w4).setCell ⟨w.heap.size + 1 + 1 + 1, 3, none⟩ (.int .i64 v0)).setCell ⟨w.heap.size + 1 + 1 + 1, 4, none⟩ (.int .i64 v1)).setCell ⟨w.heap.size + 1 + 1 + 1, 5, none⟩ (.int .i64 v2)).setCell ⟨w.heap.size + 1 + 1 + 1, 6, none⟩ (.int .i64 v3)) (w.heap.size + 1 + 1 + 1) 51 #[.int .i64 dc, .int .i64 af, .int .i64 la, .int .i64 v0, .int .i64 v1, .int .i64 v2, .int .i64 v3, .slice none 0 0, .slice none 0 0, .slice none 0 0] _ _ := sHS45.fld 6 (.int .i64 v3)
             have rHS46 := HST.out.rfld rHS45 6 (.int .i64 v3)
             have HS4 := Lib.hid (sHS46.put1 rHS46 HB4.out)
             clear sHS43 rHS43 sHS44 rHS44 sHS45 rHS45 sHS46 rHS46
             clear hr4 hf4)
          | (go_at_call 18; go_loud (refine (HX.out _ _ HS4.out.rin (Nat.le_trans HS4.out.h0 (Nat.le_of_lt (lt_of_block HS4.out.box)))).mono ?_); rintro e5 w5 ⟨ev, kv, cv, a5, c5, rfl, hta, hrc, hr5, hf5⟩
             obtain ⟨d3, e3, rfl⟩ := hta.ents.rd.sl
             obtain ⟨os3, hkr3, -⟩ := hta.kids
             obtain ⟨d4, e4, rfl⟩ := hkr3.rd.sl
             obtain ⟨d5, e5, rfl⟩ := hrc.at_.sl
             clear hkr3
             clear z3 q3 z4 q4 z5 q5 z6 q6
             clear y0 y1 y2 y3 y4 y5 y6 y7
             obtain ⟨y0, y1, y2, y3, y4, y5, y6, y7⟩ := (HS4.out.call hf5).facts1 HB4.out
             have z7 := (HS4.out.call hf5).free 7
             have q7 := (HS4.out.call hf5).cell 7 rfl
             have z8 := (HS4.out.call hf5).free 8
             have q8 := (HS4.out.call hf5).cell 8 rfl
             have z9 := (HS4.out.call hf5).free 9
             have q9 := (HS4.out.call hf5).cell 9 rfl
             have p0 : w5.cell? ⟨w.heap.size + 1 + 1 + 1, 0, none⟩ = some (.int .i64 dc) := (HS4.out.call hf5).cell 0 rfl
             have p1 : w5.cell? ⟨w.heap.size + 1 + 1 + 1, 1, none⟩ = some (.int .i64 af) := (HS4.out.call hf5).cell 1 rfl
             have p2 : w5.cell? ⟨w.heap.size + 1 + 1 + 1, 2, none⟩ = some (.int .i64 la) := (HS4.out.call hf5).cell 2 rfl
             have p3 : w5.cell? ⟨w.heap.size + 1 + 1 + 1, 3, none⟩ = some (.int .i64 v0) := (HS4.out.call hf5).cell 3 rfl
             have p4 : w5.cell? ⟨w.heap.size + 1 + 1 + 1, 4, none⟩ = some (.int .i64 v1) := (HS4.out.call hf5).cell 4 rfl
             have p5 : w5.cell? ⟨w.heap.size + 1 + 1 + 1, 5, none⟩ = some (.int .i64 v2) := (HS4.out.call hf5).cell 5 rfl
             have p6 : w5.cell? ⟨w.heap.size + 1 + 1 + 1, 6, none⟩ = some (.int .i64 v3) := (HS4.out.call hf5).cell 6 rfl
             have sHS57 : Stg w0 w wr ((w5).setCell ⟨w.heap.size + 1 + 1 + 1, 7, none⟩ (.slice d3 es.length e3)) (w.heap.size + 1 + 1 + 1) 51 #[.int .i64 dc, .int .i64 af, .int .i64 la, .int .i64 v0, .int .i64 v1, .int .i64 v2, .int .i64 v3, .slice d3 es.length e3, .slice none 0 0, .slice none 0 0] _ _ := (HS4.out.call hf5).fld 7 (.slice d3 es.length e3)
             have rHS57 := HST.out.rfld hr5 7 (.slice d3 es.length e3)
             have sHS58 : Stg w0 w wr (((w5).setCell ⟨w.heap.size + 1 + 1 + 1, 7, none⟩ (.slice d3 es.length e3)).setCell ⟨w.heap.size + 1 + 1 + 1, 8, none⟩ (.slice d4 ks.len e4)) (w.heap.size + 1 + 1 + 1) 51 #[.int .i64 dc, .int .i64 af, .int .i64 la, .int .i64 v0, .int .i64 v1, .int .i64 v2, .int .i64 v3, .slice d3 es.length e3, .slice d4 ks.len e4, .slice none 0 0] _ _ := sHS57.fld 8 (.slice d4 ks.len e4)
             have rHS58 := HST.out.rfld rHS57 8 (.slice d4 ks.len e4)
             have sHS59 : Stg w0 w wr ((((w5).setCell ⟨w.heap.size + 1 + 1 + 1, 7, none⟩ (.slice d3 es.length e3)).setCell ⟨w.heap.size + 1 + 1 + 1, 8, none⟩ (.slice d4 ks.len e4)).setCell ⟨w.heap.size + 1 + 1 + 1, 9, none⟩ (.slice d5 c.length e5)) (w.heap.size + 1 + 1 + 1) 51 #[.int .i64 dc, .int .i64 af, .int .i64 la, .int .i64 v0, .int .i64 v1, .int .i64 v2, .int .i64 v3, .slice d3 es.length e3, .slice d4 ks.len e4, .slice d5 c.length e5] _ _ := sHS58.fld 9 (.slice d5 c.length e5)
             have rHS59 := HST.out.rfld rHS58 9 (.slice d5 c.length e5)
             have HS5 := Lib.hid (sHS59.put1 rHS59 (b := false) rfl)
             clear sHS57 rHS57 sHS58 rHS58 sHS59 rHS59
             have hsz1 := lt_of_block HS4.out.blk
             have hft : Frm (fun k => k = w.heap.size + 1 + 1 + 1 ∨ k = w.heap.size) w5 ((((((w5).setCell ⟨w.heap.size + 1 + 1 + 1, 7, none⟩ (.slice d3 es.length e3)).setCell ⟨w.heap.size + 1 + 1 + 1, 8, none⟩ (.slice d4 ks.len e4)).setCell ⟨w.heap.size + 1 + 1 + 1, 9, none⟩ (.slice d5 c.length e5)).setCell ⟨w.heap.size, 0, none⟩ (.slice a5 r.length c5)).setCell ⟨w.heap.size, 1, none⟩ (.bool false)) :=
               ((((only_set w5 (w.heap.size + 1 + 1 + 1) 7 _).trans (only_set _ (w.heap.size + 1 + 1 + 1) 8 _) fun _ _ h => h).trans (only_set _ (w.heap.size + 1 + 1 + 1) 9 _) fun _ _ h => h).mono fun k _ hk => .inl hk).trans ((two_set _ w.heap.size _ _).mono fun k _ hk => .inr hk) fun _ _ h => h
             have turn : ∀ k, k < w5.heap.size → (((((((w4).setCell ⟨w.heap.size + 1 + 1 + 1, 3, none⟩ (.int .i64 v0)).setCell ⟨w.heap.size + 1 + 1 + 1, 4, none⟩ (.int .i64 v1)).setCell ⟨w.heap.size + 1 + 1 + 1, 5, none⟩ (.int .i64 v2)).setCell ⟨w.heap.size + 1 + 1 + 1, 6, none⟩ (.int .i64 v3)).setCell ⟨w.heap.size, 0, none⟩ (.slice a4 L4 c4)).setCell ⟨w.heap.size, 1, none⟩ (.bool b4)).heap.size ≤ k → ((((((w5).setCell ⟨w.heap.size + 1 + 1 + 1, 7, none⟩ (.slice d3 es.length e3)).setCell ⟨w.heap.size + 1 + 1 + 1, 8, none⟩ (.slice d4 ks.len e4)).setCell ⟨w.heap.size + 1 + 1 + 1, 9, none⟩ (.slice d5 c.length e5)).setCell ⟨w.heap.size, 0, none⟩ (.slice a5 r.length c5)).setCell ⟨w.heap.size, 1, none⟩ (.bool false)).heap[k]? = w5.heap[k]? ∧ w.heap.size + 1 + 1 + 1 ≤ k := fun k hk hQ => ⟨hft.block k hk fun hs => (by have h9 := Nat.lt_of_lt_of_le hsz1 hQ; clear hft hsz1; rcases hs with hs | hs <;> omega), Nat.le_of_lt (Nat.lt_of_lt_of_le hsz1 hQ)⟩
             have HTA := Lib.hid (hta.turn turn)
             have HRC := Lib.hid (show CtxQ (fun k => w.heap.size + 1 + 1 + 1 ≤ k) _ (.slice d5 c.length e5) c from RdQ.turn hrc turn)
             clear hft turn hta hrc hr5 hf5 hsz1
             generalize es.length = n at *
             generalize ks.len = m at *
             generalize c.length = k at *)
          | (go_at_call 44; go_loud (refine (HRT.out _ _ _ _ _ ⟨HTA.out, HRC.out.at_⟩).mono ?_); rintro e w7 ⟨rfl, hf7⟩
             clear p0 p1 p2 p3 p4 p5 p6 z7 q7 z8 q8 z9 q9 y0 y1 y2 y3 y4 y5 y6 y7
             have HS7 := Lib.hid (HS5.out.call hf7)
             have HTA7 := Lib.hid (HTA.out.keep0 hf7)
             have HRC7 := Lib.hid (HRC.out.keep0 hf7)
             obtain ⟨g1, g2, hfw⟩ := HRS.out w7 HS7.out.frm
             have k0 := cell_at' g1 0 rfl
             have i0 := free_at' g1 0
             have k1 := cell_at' g1 1 rfl
             have i1 := free_at' g1 1
             have k2 := cell_at' g1 2 rfl
             have i2 := free_at' g1 2
             have k3 := cell_at' g1 3 rfl
             have i3 := free_at' g1 3
             have k4 := cell_at' g1 4 rfl
             have i4 := free_at' g1 4
             have k5 := cell_at' g1 5 rfl
             have i5 := free_at' g1 5
             have k6 := cell_at' g1 6 rfl
             have i6 := free_at' g1 6
             have k7 := cell_at' g1 7 rfl
             have i7 := free_at' g1 7
             have k8 := cell_at' g1 8 rfl
             have i8 := free_at' g1 8
             have k9 := cell_at' g1 9 rfl
             have i9 := free_at' g1 9
             have hl1 := lt_of_block g1
             have k10 := cell_at' g2 0 rfl
             have i10 := free_at' g2 0
             have k11 := cell_at' g2 1 rfl
             have i11 := free_at' g2 1
             have hl2 := lt_of_block g2
             have G1 := Lib.hid g1; clear g1
             have G2 := Lib.hid g2; clear g2
             have HFW := Lib.hid hfw
             clear hf7 hfw))
      clear k0 i0 k1 i1 k2 i2 k3 i3 k4 i4 k5 i5 k6 i6 k7 i7 k8 i8 k9 i9 k10 i10 k11 i11 hl1 hl2
      obtain ⟨hten, htwo⟩ := stores12_at (x0 := .int .i64 0) (x1 := .int .i64 0) (x2 := .int .i64 0) (x3 := .int .i64 0) (x4 := .int .i64 0) (x5 := .int .i64 0) (x6 := .int .i64 0) (x7 := .slice none 0 0) (x8 := .slice none 0 0) (x9 := .slice none 0 0) (y0 := .slice none 0 0) (y1 := .bool true) G1.out G2.out _ rfl
      have y0 := cell_at' hten 0 rfl
      have y1 := cell_at' hten 1 rfl
      have y2 := cell_at' hten 2 rfl
      have y3 := cell_at' hten 3 rfl
      have y4 := cell_at' hten 4 rfl
      have y5 := cell_at' hten 5 rfl
      have y6 := cell_at' hten 6 rfl
      have y7 := cell_at' hten 7 rfl
      have y8 := cell_at' hten 8 rfl
      have y9 := cell_at' hten 9 rfl
      have y10 := cell_at' htwo 0 rfl
      have y11 := cell_at' htwo 1 rfl
      exact bodyPost_ret (v := .tuple #[.agg #[.int .i64 0, .int .i64 0, .int .i64 0, .int .i64 0, .int .i64 0, .int .i64 0, .int .i64 0, .slice none 0 0, .slice none 0 0, .slice none 0 0], .agg #[.slice none 0 0, .bool true]]) (by simp [results, Tryz.results23, go_sem, y0, y1, y2, y3, y4, y5, y6, y7, y8, y9, y10, y11]) rfl (bunFin BunD.zero (tree_nilQ _ _) (rdq_nil _ _) (a := none) (l := 0) (s := none) (RIn.bad w0 _) HH0.out HFW.out (stores12 w w7 _ _ _ _ _ _ _ _ _ _ _ _ ))
end Go.Proofs.YtafdclkpeomomaaGreat

/- Nothing known; where the reference begins to read. -/
namespace Go.Proofs.YtafdclkpeomomaaGreat
open Go.RowKit

theorem nilOk : CauOk [] .nil [] := ⟨⟨⟨Nat.zero_le _, fun e he => by cases he⟩, Nat.zero_le _, trivial⟩, Nat.zero_le _, fun s hs => (by cases hs), Nat.zero_le _⟩
theorem nilAt (Q : Nat → Prop) (w : World) : CauAt Q w (.slice none 0 0) (.slice none 0 0) (.slice none 0 0) [] .nil [] := ⟨tree_nilQ Q w, .inl ⟨none, rfl, rfl, rfl⟩⟩
theorem rin_start {w : World} {v : Value} {bs : List UInt8} (h : Rd w v bs.length (bV bs)) : RIn w w v (some bs) :=
  ⟨⟨rfl, h⟩, fun hne k hk => by
    rcases h with ⟨ad, rfl, h2, h3⟩ | ⟨b, off, c, rfl, h1, h2, h3⟩
    · have hz : bs = [] := by simpa [bV] using h3
      exact absurd hz hne
    · have hb : b = k := by simpa [Value.ownBlock] using hk
      subst hb
      cases bs with
      | nil => exact absurd rfl hne
      | cons x bs => exact World.block_lt_of_cell? _ _ (h3 0 _ rfl)⟩
theorem done_some {s : Option (List UInt8)} (h : doneOf s = true) : s = some [] := by
  cases s with
  | none => cases h
  | some r =>
    have : r.length = 0 := by simpa [doneOf] using h
    rw [List.eq_nil_of_length_eq_zero this]
end Go.Proofs.YtafdclkpeomomaaGreat

/- tributaryref08: Same: the walk. Printed by wip/r8samegen.py. -/
namespace Go.Proofs.YtafdclkpeomomaaGreat
open Go.RowKit

set_option maxHeartbeats 8000000 in
set_option maxRecDepth 1000000 in
theorem r8Same_any (Q Q' : Nat → Prop) : ∀ (N : Nat) (es : List Ent) (ks : KidsL) (es' : List Ent) (ks' : KidsL) (w : World) (ev kv ev' kv' : Value), sizeK ks < N → TreeAt Q w ev kv es ks → TreeAt Q' w ev' kv' es' ks' → sizeT es ks ≤ 100000 → sizeT es' ks' ≤ 100000 →
    Calls Tryz.prog 37 #[.agg #[ev, kv], .agg #[ev', kv']] w fun e w' => e = .returned (.bool (tf (es = es' ∧ ks = ks'))) ∧ Frm NoS w w' := by
  intro N
  induction N with
  | zero => intros; exfalso; omega
  | succ N IHN =>
    intro es ks es' ks' w ev kv ev' kv' hN ht ht' hsz hsz'
    obtain ⟨ae, ce, rfl⟩ := ht.ents.rd.sl
    obtain ⟨os, hkr, hfor⟩ := ht.kids
    obtain ⟨ak, ck, rfl⟩ := hkr.rd.sl
    obtain ⟨ae', ce', rfl⟩ := ht'.ents.rd.sl
    obtain ⟨os', hkr', hfor'⟩ := ht'.kids
    obtain ⟨ak', ck', rfl⟩ := hkr'.rd.sl
    have h1 : es.length ≤ 100000 := by unfold sizeT at hsz; omega
    have h2 : es'.length ≤ 100000 := by unfold sizeT at hsz'; omega
    have h3 : ks.len ≤ 100000 := by have := len_le_sizeK ks; unfold sizeT at hsz; omega
    have h4 : ks'.len ≤ 100000 := by have := len_le_sizeK ks'; unfold sizeT at hsz'; omega
    by_cases hle : es.length = es'.length
    rotate_left 1
    · rw [tf_false fun h => hle (by rw [h.1])]
      clear ht ht' hkr hkr' hfor hfor' IHN hN hsz hsz'
      generalize es.length = n at *
      generalize ks.len = m at *
      generalize es'.length = n' at *
      generalize ks'.len = m' at *
      have hz : ((n : Int) == (n' : Int)) = false := by simp; omega
      have HFB := Lib.hid ((Frm.alloc NoS w (.cells #[.slice ae n ce, .slice ak m ck] 25)).alloc1 (o := .cells #[.slice ae' n' ce', .slice ak' m' ck'] 25))
      go_enter Tryz.func37, Tryz.ntmps37
      go_wp2
      go_ret
      exact ⟨rfl, HFB.out⟩
    by_cases hlk : ks.len = ks'.len
    rotate_left 1
    · rw [tf_false fun h => hlk (by rw [h.2])]
      rw [← hle]
      clear ht ht' hkr hkr' hfor hfor' IHN hN hsz hsz' h2 hle
      generalize es.length = n at *
      generalize ks.len = m at *
      generalize ks'.len = m' at *
      have hz : ((m : Int) == (m' : Int)) = false := by simp; omega
      have HFB := Lib.hid ((Frm.alloc NoS w (.cells #[.slice ae n ce, .slice ak m ck] 25)).alloc1 (o := .cells #[.slice ae' n ce', .slice ak' m' ck'] 25))
      go_enter Tryz.func37, Tryz.ntmps37
      go_wp2
      go_ret
      exact ⟨rfl, HFB.out⟩
    have HE := Lib.hid ht.ents.rd
    have hE' := ht'.ents.rd
    have hK' := hkr'.rd
    rw [← hle] at hE' ⊢
    rw [← hlk] at hK' ⊢
    have HE' := Lib.hid hE'; clear hE'
    have HKR := Lib.hid hkr.rd
    have HKR' := Lib.hid hK'; clear hK'
    have HFOR := Lib.hid hfor; clear hfor
    have HFOR' := Lib.hid hfor'; clear hfor'
    have HLE := Lib.hid hle.symm; clear hle
    have HLK := Lib.hid hlk.symm; clear hlk
    have IH := Lib.hid IHN; clear IHN
    have HSZ := Lib.hid hsz; clear hsz
    have HSZ' := Lib.hid hsz'; clear hsz'
    have HNN := Lib.hid hN; clear hN
    clear ht ht' hkr hkr' h2 h4
    generalize hes : es.length = n at *
    have HN := Lib.hid hes; clear hes
    generalize hkl : ks.len = m at *
    have HM := Lib.hid hkl; clear hkl
    have HFB := Lib.hid ((Frm.alloc NoS w (.cells #[.slice ae n ce, .slice ak m ck] 25)).alloc1 (o := .cells #[.slice ae' n ce', .slice ak' m ck'] 25))
    have HBX := Lib.hid (pair2 w (.slice ae n ce) (.slice ak m ck) (.slice ae' n ce') (.slice ak' m ck') 25)
    go_enter Tryz.func37, Tryz.ntmps37
    go_wp2
    go_loopw [26] (fun i ww => ∃ k : Nat, k ≤ n ∧ i = .int .i64 k ∧ LikeE es es' k ∧ Frm NoS ((w.alloc (.cells #[.slice ae n ce, .slice ak m ck] 25)).alloc (.cells #[.slice ae' n ce', .slice ak' m ck'] 25)) ww) (fun i _ => n - (intOf i).toNat)
    case atStart => exact ⟨0, Nat.zero_le _, rfl, (fun j hj => absurd hj (Nat.not_lt_zero _)), Frm.refl _ _⟩
    case round =>
      obtain ⟨k, hk, rfl, hlk, hw⟩ := hrel
      have HLI := Lib.hid hlk; clear hlk
      have HW := Lib.hid hw; clear hw
      obtain ⟨b0, b1, b2, b3⟩ := HBX.out wr HW.out
      by_cases hlt : k < n
      · rcases Rd.shape HE.out with ⟨ad, he, h0⟩ | ⟨e1, off1, cc1, he, hmax⟩
        · exfalso; omega
        rcases Rd.shape HE'.out with ⟨ad, he2, h0⟩ | ⟨e2, off2, cc2, he2, hmax2⟩
        · exfalso; omega
        injection he with g1 g2 g3
        injection he2 with g4 g5 g6
        subst g1 g3 g4 g6
        clear g2 g5
        obtain ⟨p0, p1, p2, p3⟩ := ent_at HE.out k (by rw [HN.out]; exact hlt)
        obtain ⟨q0, q1, q2, q3⟩ := ent_at HE'.out k (by rw [HLE.out]; exact hlt)
        have hfw := HFB.out.then1 HW.out
        have p0 := hfw.cell' p0 id
        have p1 := hfw.cell' p1 id
        have p2 := hfw.cell' p2 id
        have p3 := hfw.cell' p3 id
        have q0 := hfw.cell' q0 id
        have q1 := hfw.cell' q1 id
        have q2 := hfw.cell' q2 id
        have q3 := hfw.cell' q3 id
        clear hfw
        have HST := Lib.hid (show es.getD k Ent.zero = es'.getD k Ent.zero → LikeE es es' (k + 1) from HLI.out.step)
        have HNO := Lib.hid (show es.getD k Ent.zero ≠ es'.getD k Ent.zero → ¬ (es = es' ∧ ks = ks') from fun h e => h (by rw [e.1]))
        generalize es.getD k Ent.zero = s at *
        generalize es'.getD k Ent.zero = t at *
        by_cases hst : s = t
        · subst hst
          go_wp2_with fail
          go_quiet (fail)
          go_wp2
          go_roundw
          case rel => exact ⟨k + 1, by omega, by go_num, HST.out (by trivial), HW.out.drewN1⟩
          case measure => simp [intOf]; omega
        · have HNE := Lib.hid (show false = tf (es = es' ∧ ks = ks') from (tf_false (HNO.out hst)).symm)
          obtain ⟨s0, s1, s2, s3⟩ := s
          obtain ⟨t0, t1, t2, t3⟩ := t
          clear HST HNO
          dsimp only at p0 p1 p2 p3 q0 q1 q2 q3
          by_cases g0 : s0 = t0
          · subst g0
            by_cases g1 : s1 = t1
            · subst g1
              by_cases g2 : s2 = t2
              · subst g2
                have g3 : s3 ≠ t3 := fun h => hst (by rw [h])
                clear hst
                have gb : ((s3 : Int) == t3) = false := by simpa using g3
                go_wp2_with fail
                go_quiet (fail)
                go_wp2
                go_ret
                exact ⟨ret_bool HNE.out, HFB.out.then1 HW.out.drewN1⟩
              · clear hst
                have gb := ne_text g2
                go_wp2_with fail
                go_quiet (fail)
                go_wp2
                go_ret
                exact ⟨ret_bool HNE.out, HFB.out.then1 HW.out.drewN1⟩
            · clear hst
              have gb : ((s1 : Int) == t1) = false := by simpa using g1
              go_wp2_with fail
              go_quiet (fail)
              go_wp2
              go_ret
              exact ⟨ret_bool HNE.out, HFB.out.then1 HW.out.drewN1⟩
          · clear hst
            have gb : ((s0 : Int) == t0) = false := by simpa using g0
            go_wp2_with fail
            go_quiet (fail)
            go_wp2
            go_ret
            exact ⟨ret_bool HNE.out, HFB.out.then1 HW.out.drewN1⟩
      · obtain rfl : n = k := by omega
        have hee : es = es' := LikeE.all (HN.out.trans HLE.out.symm) (by rw [HN.out]; exact HLI.out)
        have HEE := Lib.hid hee; clear hee
        go_wp2
        clear b0 b1 b2 b3
        go_loopw [44] (fun i ww => ∃ k : Nat, k ≤ m ∧ i = .int .i64 k ∧ (ks = ks' ↔ ks.drop k = ks'.drop k) ∧ Frm NoS ((w.alloc (.cells #[.slice ae n ce, .slice ak m ck] 25)).alloc (.cells #[.slice ae' n ce', .slice ak' m ck'] 25)) ww) (fun i _ => m - (intOf i).toNat)
        case atStart => exact ⟨0, Nat.zero_le _, rfl, Iff.rfl, HW.out⟩
        case round =>
          obtain ⟨k, hk, rfl, hiff, hwk⟩ := hrel
          have HIF := Lib.hid hiff; clear hiff
          have HWK := Lib.hid hwk; clear hwk
          by_cases hlt : k < m
          · obtain ⟨key, es0, sub, rest, hdr⟩ := KidsL.drop_some (n := k) (ks := ks) (by rw [HM.out]; exact hlt)
            obtain ⟨key', es0', sub', rest', hdr'⟩ := KidsL.drop_some (n := k) (ks := ks') (by rw [HLK.out]; exact hlt)
            rcases Rd.shape HKR.out with ⟨ad, he, h0⟩ | ⟨e1, off1, cc1, he, hmax⟩
            · exfalso; omega
            rcases Rd.shape HKR'.out with ⟨ad, he2, h0⟩ | ⟨e2, off2, cc2, he2, hmax2⟩
            · exfalso; omega
            injection he with g1 g2 g3
            injection he2 with g4 g5 g6
            subst g1 g3 g4 g6
            clear g2 g5
            have hfw := HFB.out.then1 HWK.out
            obtain ⟨ev0, kv0, p0, p1, p2, hta⟩ := kid_at (HKR.out.keep0 hfw) (HFOR.out.keep0 hfw) hdr
            obtain ⟨ev1, kv1, q0, q1, q2, htb⟩ := kid_at (HKR'.out.keep0 hfw) (HFOR'.out.keep0 hfw) hdr'
            clear hfw
            have hss := size_sub k hdr
            have hst1 := sizeT_sub k hdr
            have hst2 := sizeT_sub k hdr'
            have HC := Lib.hid (fun W (f : Frm NoS wr W) => IH.out es0 sub es0' sub' W ev0 kv0 ev1 kv1 (by have := HNN.out; omega) (hta.keep0 f) (htb.keep0 f) (by have := HSZ.out; unfold sizeT at *; omega) (by have := HSZ'.out; unfold sizeT at *; omega))
            have HST := Lib.hid (kids_step hdr hdr')
            obtain ⟨a0, c0, rfl⟩ := hta.ents.rd.sl
            obtain ⟨o3, hk3, -⟩ := hta.kids
            obtain ⟨a1, c1, rfl⟩ := hk3.rd.sl
            obtain ⟨a0', c0', rfl⟩ := htb.ents.rd.sl
            obtain ⟨o4, hk4, -⟩ := htb.kids
            obtain ⟨a1', c1', rfl⟩ := hk4.rd.sl
            clear hk3 hk4 hta htb hdr hdr' hss hst1 hst2
            generalize es0.length = n0 at *
            generalize sub.len = m0 at *
            generalize es0'.length = n1 at *
            generalize sub'.len = m1 at *
            obtain ⟨α, hne, K, hK1, hK0, hK2⟩ := worlds wr
            have kb := fun s => HBX.out (K s) (HWK.out.then1 (hK1 s))
            have k0 := fun s => (kb s).1
            have k1 := fun s => (kb s).2.1
            have k2 := fun s => (kb s).2.2.1
            have k3 := fun s => (kb s).2.2.2
            have r0 := fun s => (hK1 s).cell' p0 id
            have r1 := fun s => (hK1 s).cell' p1 id
            have r2 := fun s => (hK1 s).cell' p2 id
            have t0 := fun s => (hK1 s).cell' q0 id
            have t1 := fun s => (hK1 s).cell' q1 id
            have t2 := fun s => (hK1 s).cell' q2 id
            clear kb p0 p1 p2 q0 q1 q2
            have HFK := Lib.hid (fun s => HWK.out.then1 (hK1 s))
            have HK1 := Lib.hid hK1
            by_cases hkey : key = key'
            · by_cases hsub : es0 = es0' ∧ sub = sub'
              · rw [tf_true hsub] at HC
                have HY := Lib.hid (show key = key' ∧ es0 = es0' ∧ sub = sub' from ⟨hkey, hsub⟩)
                subst hkey
                clear hsub
                go_wp2_with fail
                refine wp_region_new K (by kernel_rfl) (by kernel_rfl) hK0 ?_
                repeat (go_big_quiet_step ((go_at_call 37; exact Calls.in_class hK2 (HC.out _ (HK1.out _)))))
                refine wpQuiet_nil ?_
                intro w' hw'
                obtain ⟨s, rfl⟩ := hw'
                go_wp2
                go_roundw
                case rel => exact ⟨k + 1, by omega, by go_num, HIF.out.trans (HST.out.trans ⟨fun h => h.2, fun h => ⟨⟨by trivial, HY.out.2⟩, h⟩⟩), HFK.out s⟩
                case measure => simp [intOf]; omega
              · rw [tf_false hsub] at HC
                have HY := Lib.hid (show ¬ (es = es' ∧ ks = ks') from fun h => hsub (HST.out.1 (HIF.out.1 h.2)).1.2)
                subst hkey
                clear hsub
                go_wp2_with fail
                refine wp_region_new K (by kernel_rfl) (by kernel_rfl) hK0 ?_
                repeat (go_big_quiet_step ((go_at_call 37; exact Calls.in_class hK2 (HC.out _ (HK1.out _)))))
                refine wpQuiet_nil ?_
                intro w' hw'
                obtain ⟨s, rfl⟩ := hw'
                go_wp2
                go_ret
                exact ⟨ret_bool (tf_false HY.out).symm, HFB.out.then1 (HFK.out s)⟩
            · have HY := Lib.hid (show ¬ (es = es' ∧ ks = ks') from fun h => hkey (HST.out.1 (HIF.out.1 h.2)).1.1)
              have gb := ne_text hkey
              have gc : (key.toList == key'.toList) = false := by simpa using gb
              go_wp2_with fail
              refine wp_region_new K (by kernel_rfl) (by kernel_rfl) hK0 ?_
              repeat (go_big_quiet_step ((go_at_call 37; exact Calls.in_class hK2 (HC.out _ (HK1.out _)))))
              refine wpQuiet_nil ?_
              intro w' hw'
              obtain ⟨s, rfl⟩ := hw'
              go_wp2
              go_ret
              exact ⟨ret_bool (tf_false HY.out).symm, HFB.out.then1 (HFK.out s)⟩
          · obtain rfl : m = k := by omega
            have hkk : ks = ks' := HIF.out.2 (by rw [KidsL.drop_none (by rw [HM.out]; exact Nat.le_refl _), KidsL.drop_none (by rw [HLK.out]; exact Nat.le_refl _)])
            have HKK := Lib.hid hkk; clear hkk
            go_wp2
            go_ret
            exact ⟨ret_bool (tf_true ⟨HEE.out, HKK.out⟩).symm, HFB.out.then1 HWK.out⟩
end Go.Proofs.YtafdclkpeomomaaGreat

/- tributaryref09: Same: the walk. -/
namespace Go.Proofs.YtafdclkpeomomaaGreat
open Go.RowKit

set_option maxHeartbeats 4000000 in
set_option maxRecDepth 1000000 in
theorem r9Same_any (Q Q' : Nat → Prop) (es : List Ent) (ks : KidsL) (c : CtxL) (es' : List Ent) (ks' : KidsL) (c' : CtxL) (w : World) (ev kv cv ev' kv' cv' : Value) (h : CauAt Q w ev kv cv es ks c) (hok : CauOk es ks c) (h' : CauAt Q' w ev' kv' cv' es' ks' c') (hok' : CauOk es' ks' c') :
    Calls Tryz.prog 17 #[.agg #[ev, kv, cv], .agg #[ev', kv', cv']] w fun e w' => e = .returned (.bool (tf ((es = es' ∧ ks = ks') ∧ c = c'))) ∧ Frm NoS w w' := by
  obtain ⟨a0, c0, a1, c1, a2, c2, rfl, rfl, rfl⟩ := h.shape
  obtain ⟨b0, d0, b1, d1, b2, d2, rfl, rfl, rfl⟩ := h'.shape
  have HT := Lib.hid (fun W (f : Frm NoS w W) => r8Same_any Q Q' _ es ks es' ks' W _ _ _ _ (Nat.lt_succ_self _) (h.tree.keep0 f) (h'.tree.keep0 f) (Nat.le_trans hok.small (by decide)) (Nat.le_trans hok'.small (by decide)))
  have hde : decide (c = c') = tf (c = c') := tf_bool (by rw [decide_eq_true_iff])
  have HC := Lib.hid (fun W (f : Frm NoS w W) => hde ▸ r7Same_any W _ _ c c' (Rd.keep0 h.ctx f) (Rd.keep0 h'.ctx f) (Nat.le_trans hok.len (by decide)) (Nat.le_trans hok'.len (by decide)))
  clear h hok h' hok' hde
  by_cases r3 : es = es' ∧ ks = ks'
  rotate_left 1
  · rw [tf_false r3] at HT
    rw [tf_false fun h => r3 h.1]
    clear r3 HC
    generalize es.length = n at *
    generalize ks.len = m at *
    generalize c.length = k at *
    generalize es'.length = n' at *
    generalize ks'.len = m' at *
    generalize c'.length = k' at *
    have HFB := Lib.hid ((Frm.alloc NoS w (.cells #[.slice a0 n c0, .slice a1 m c1, .slice a2 k c2] 29)).alloc1 (o := .cells #[.slice b0 n' d0, .slice b1 m' d1, .slice b2 k' d2] 29))
    have HBX := Lib.hid (pair3 w (.slice a0 n c0) (.slice a1 m c1) (.slice a2 k c2) (.slice b0 n' d0) (.slice b1 m' d1) (.slice b2 k' d2) 29)
    go_enter Tryz.func17, Tryz.ntmps17
    go_wp2_with (first
      | (go_at_call 37; go_loud (refine (HT.out _ HFB.out).mono ?_; rintro e w1 ⟨rfl, hw1⟩; obtain ⟨y0, y1, y2, y3, y4, y5⟩ := HBX.out w1 hw1; have HW1 := Lib.hid hw1; clear hw1)))
    go_ret
    exact ⟨rfl, HFB.out.then1 HW1.out⟩
  rw [tf_true r3] at HT
  have hall : tf ((es = es' ∧ ks = ks') ∧ c = c') = tf (c = c') := tf_congr ⟨fun h => h.2, fun h => ⟨r3, h⟩⟩
  rw [hall]
  clear hall r3
  generalize tf (c = c') = y at *
  generalize es.length = n at *
  generalize ks.len = m at *
  generalize c.length = k at *
  generalize es'.length = n' at *
  generalize ks'.len = m' at *
  generalize c'.length = k' at *
  have HFB := Lib.hid ((Frm.alloc NoS w (.cells #[.slice a0 n c0, .slice a1 m c1, .slice a2 k c2] 29)).alloc1 (o := .cells #[.slice b0 n' d0, .slice b1 m' d1, .slice b2 k' d2] 29))
  have HBX := Lib.hid (pair3 w (.slice a0 n c0) (.slice a1 m c1) (.slice a2 k c2) (.slice b0 n' d0) (.slice b1 m' d1) (.slice b2 k' d2) 29)
  go_enter Tryz.func17, Tryz.ntmps17
  go_wp2_with (first
    | (go_at_call 37; go_loud (refine (HT.out _ HFB.out).mono ?_; rintro e w1 ⟨rfl, hw1⟩; obtain ⟨y0, y1, y2, y3, y4, y5⟩ := HBX.out w1 hw1; have HW1 := Lib.hid hw1; clear hw1))
    | (go_at_call 35; go_loud (refine (HC.out _ (HFB.out.then1 HW1.out)).mono ?_; rintro e w2 ⟨rfl, hw2⟩; have HW2 := Lib.hid (HW1.out.then1 hw2); clear hw2)))
  go_ret
  exact ⟨rfl, HFB.out.then1 HW2.out⟩
end Go.Proofs.YtafdclkpeomomaaGreat

/- tributaryref22: Same: the walk. Printed by wip/samegen.py. -/
namespace Go.Proofs.YtafdclkpeomomaaGreat
open Go.RowKit

set_option maxHeartbeats 8000000 in
set_option maxRecDepth 1000000 in
theorem r22Same_any (Q Q' : Nat → Prop) (es : List Ent) (ks : KidsL) (c : CtxL) (es' : List Ent) (ks' : KidsL) (c' : CtxL) (w : World) (dc af la v0 v1 v2 v3 dc' af' la' v0' v1' v2' v3' : Int) (ev kv cv ev' kv' cv' : Value) (h : CauAt Q w ev kv cv es ks c) (hok : CauOk es ks c) (h' : CauAt Q' w ev' kv' cv' es' ks' c') (hok' : CauOk es' ks' c') :
    Calls Tryz.prog 24 #[.agg #[.int .i64 dc, .int .i64 af, .int .i64 la, .int .i64 v0, .int .i64 v1, .int .i64 v2, .int .i64 v3, ev, kv, cv], .agg #[.int .i64 dc', .int .i64 af', .int .i64 la', .int .i64 v0', .int .i64 v1', .int .i64 v2', .int .i64 v3', ev', kv', cv']] w fun e w' => e = .returned (.bool (tf (BunEq dc af la v0 v1 v2 v3 dc' af' la' v0' v1' v2' v3' es ks c es' ks' c'))) ∧ Frm NoS w w' := by
  have HC := Lib.hid (fun W (f : Frm NoS w W) => r9Same_any Q Q' es ks c es' ks' c' W _ _ _ _ _ _ (h.keep0 f) hok (h'.keep0 f) hok')
  obtain ⟨a0, c0, a1, c1, a2, c2, rfl, rfl, rfl⟩ := h.shape
  obtain ⟨b0, d0, b1, d1, b2, d2, rfl, rfl, rfl⟩ := h'.shape
  clear h hok h' hok'
  by_cases e0 : dc = dc'
  rotate_left 1
  · rw [tf_false fun h => e0 h.1]
    have ge : ((dc : Int) == dc') = false := by simpa using e0
    clear e0 HC
    generalize es.length = n at *
    generalize ks.len = m at *
    generalize c.length = k at *
    generalize es'.length = n' at *
    generalize ks'.len = m' at *
    generalize c'.length = k' at *
    have HFB := Lib.hid ((Frm.alloc NoS w (.cells #[.int .i64 dc, .int .i64 af, .int .i64 la, .int .i64 v0, .int .i64 v1, .int .i64 v2, .int .i64 v3, .slice a0 n c0, .slice a1 m c1, .slice a2 k c2] 51)).alloc1 (o := .cells #[.int .i64 dc', .int .i64 af', .int .i64 la', .int .i64 v0', .int .i64 v1', .int .i64 v2', .int .i64 v3', .slice b0 n' d0, .slice b1 m' d1, .slice b2 k' d2] 51))
    have HBX := Lib.hid (pair10 w (.int .i64 dc) (.int .i64 af) (.int .i64 la) (.int .i64 v0) (.int .i64 v1) (.int .i64 v2) (.int .i64 v3) (.slice a0 n c0) (.slice a1 m c1) (.slice a2 k c2) (.int .i64 dc') (.int .i64 af') (.int .i64 la') (.int .i64 v0') (.int .i64 v1') (.int .i64 v2') (.int .i64 v3') (.slice b0 n' d0) (.slice b1 m' d1) (.slice b2 k' d2) 51)
    obtain ⟨⟨y0, y1, y2, y3, y4, y5, y6, y7, y8, y9⟩, z0, z1, z2, z3, z4, z5, z6, z7, z8, z9⟩ := HBX.out _ (Frm.refl _ _)
    go_enter Tryz.func24, Tryz.ntmps24
    go_wp2
    go_ret
    exact ⟨rfl, HFB.out⟩
  subst e0
  by_cases e1 : af = af'
  rotate_left 1
  · rw [tf_false fun h => e1 h.2.1]
    have ge : ((af : Int) == af') = false := by simpa using e1
    clear e1 HC
    generalize es.length = n at *
    generalize ks.len = m at *
    generalize c.length = k at *
    generalize es'.length = n' at *
    generalize ks'.len = m' at *
    generalize c'.length = k' at *
    have HFB := Lib.hid ((Frm.alloc NoS w (.cells #[.int .i64 dc, .int .i64 af, .int .i64 la, .int .i64 v0, .int .i64 v1, .int .i64 v2, .int .i64 v3, .slice a0 n c0, .slice a1 m c1, .slice a2 k c2] 51)).alloc1 (o := .cells #[.int .i64 dc, .int .i64 af', .int .i64 la', .int .i64 v0', .int .i64 v1', .int .i64 v2', .int .i64 v3', .slice b0 n' d0, .slice b1 m' d1, .slice b2 k' d2] 51))
    have HBX := Lib.hid (pair10 w (.int .i64 dc) (.int .i64 af) (.int .i64 la) (.int .i64 v0) (.int .i64 v1) (.int .i64 v2) (.int .i64 v3) (.slice a0 n c0) (.slice a1 m c1) (.slice a2 k c2) (.int .i64 dc) (.int .i64 af') (.int .i64 la') (.int .i64 v0') (.int .i64 v1') (.int .i64 v2') (.int .i64 v3') (.slice b0 n' d0) (.slice b1 m' d1) (.slice b2 k' d2) 51)
    obtain ⟨⟨y0, y1, y2, y3, y4, y5, y6, y7, y8, y9⟩, z0, z1, z2, z3, z4, z5, z6, z7, z8, z9⟩ := HBX.out _ (Frm.refl _ _)
    go_enter Tryz.func24, Tryz.ntmps24
    go_wp2
    go_ret
    exact ⟨rfl, HFB.out⟩
  subst e1
  by_cases e2 : la = la'
  rotate_left 1
  · rw [tf_false fun h => e2 h.2.2.1]
    have ge : ((la : Int) == la') = false := by simpa using e2
    clear e2 HC
    generalize es.length = n at *
    generalize ks.len = m at *
    generalize c.length = k at *
    generalize es'.length = n' at *
    generalize ks'.len = m' at *
    generalize c'.length = k' at *
    have HFB := Lib.hid ((Frm.alloc NoS w (.cells #[.int .i64 dc, .int .i64 af, .int .i64 la, .int .i64 v0, .int .i64 v1, .int .i64 v2, .int .i64 v3, .slice a0 n c0, .slice a1 m c1, .slice a2 k c2] 51)).alloc1 (o := .cells #[.int .i64 dc, .int .i64 af, .int .i64 la', .int .i64 v0', .int .i64 v1', .int .i64 v2', .int .i64 v3', .slice b0 n' d0, .slice b1 m' d1, .slice b2 k' d2] 51))
    have HBX := Lib.hid (pair10 w (.int .i64 dc) (.int .i64 af) (.int .i64 la) (.int .i64 v0) (.int .i64 v1) (.int .i64 v2) (.int .i64 v3) (.slice a0 n c0) (.slice a1 m c1) (.slice a2 k c2) (.int .i64 dc) (.int .i64 af) (.int .i64 la') (.int .i64 v0') (.int .i64 v1') (.int .i64 v2') (.int .i64 v3') (.slice b0 n' d0) (.slice b1 m' d1) (.slice b2 k' d2) 51)
    obtain ⟨⟨y0, y1, y2, y3, y4, y5, y6, y7, y8, y9⟩, z0, z1, z2, z3, z4, z5, z6, z7, z8, z9⟩ := HBX.out _ (Frm.refl _ _)
    go_enter Tryz.func24, Tryz.ntmps24
    go_wp2
    go_ret
    exact ⟨rfl, HFB.out⟩
  subst e2
  by_cases e3 : v0 = v0' ∧ v1 = v1' ∧ v2 = v2' ∧ v3 = v3'
  rotate_left 1
  · rw [tf_false fun h => e3 h.2.2.2.1]
    have hveq := vec_eq_false e3
    clear e3 HC
    generalize es.length = n at *
    generalize ks.len = m at *
    generalize c.length = k at *
    generalize es'.length = n' at *
    generalize ks'.len = m' at *
    generalize c'.length = k' at *
    have HFB := Lib.hid ((Frm.alloc NoS w (.cells #[.int .i64 dc, .int .i64 af, .int .i64 la, .int .i64 v0, .int .i64 v1, .int .i64 v2, .int .i64 v3, .slice a0 n c0, .slice a1 m c1, .slice a2 k c2] 51)).alloc1 (o := .cells #[.int .i64 dc, .int .i64 af, .int .i64 la, .int .i64 v0', .int .i64 v1', .int .i64 v2', .int .i64 v3', .slice b0 n' d0, .slice b1 m' d1, .slice b2 k' d2] 51))
    have HBX := Lib.hid (pair10 w (.int .i64 dc) (.int .i64 af) (.int .i64 la) (.int .i64 v0) (.int .i64 v1) (.int .i64 v2) (.int .i64 v3) (.slice a0 n c0) (.slice a1 m c1) (.slice a2 k c2) (.int .i64 dc) (.int .i64 af) (.int .i64 la) (.int .i64 v0') (.int .i64 v1') (.int .i64 v2') (.int .i64 v3') (.slice b0 n' d0) (.slice b1 m' d1) (.slice b2 k' d2) 51)
    obtain ⟨⟨y0, y1, y2, y3, y4, y5, y6, y7, y8, y9⟩, z0, z1, z2, z3, z4, z5, z6, z7, z8, z9⟩ := HBX.out _ (Frm.refl _ _)
    go_enter Tryz.func24, Tryz.ntmps24
    go_wp2
    go_ret
    exact ⟨rfl, HFB.out⟩
  have hveq := vec_eq_true e3
  have hall : tf (BunEq dc af la v0 v1 v2 v3 dc af la v0' v1' v2' v3' es ks c es' ks' c') = tf ((es = es' ∧ ks = ks') ∧ c = c') := tf_congr ⟨fun h => h.2.2.2.2, fun h => ⟨rfl, rfl, rfl, e3, h⟩⟩
  rw [hall]
  clear hall e3
  generalize tf ((es = es' ∧ ks = ks') ∧ c = c') = y at *
  generalize es.length = n at *
  generalize ks.len = m at *
  generalize c.length = k at *
  generalize es'.length = n' at *
  generalize ks'.len = m' at *
  generalize c'.length = k' at *
  have HFB := Lib.hid ((Frm.alloc NoS w (.cells #[.int .i64 dc, .int .i64 af, .int .i64 la, .int .i64 v0, .int .i64 v1, .int .i64 v2, .int .i64 v3, .slice a0 n c0, .slice a1 m c1, .slice a2 k c2] 51)).alloc1 (o := .cells #[.int .i64 dc, .int .i64 af, .int .i64 la, .int .i64 v0', .int .i64 v1', .int .i64 v2', .int .i64 v3', .slice b0 n' d0, .slice b1 m' d1, .slice b2 k' d2] 51))
  have HBX := Lib.hid (pair10 w (.int .i64 dc) (.int .i64 af) (.int .i64 la) (.int .i64 v0) (.int .i64 v1) (.int .i64 v2) (.int .i64 v3) (.slice a0 n c0) (.slice a1 m c1) (.slice a2 k c2) (.int .i64 dc) (.int .i64 af) (.int .i64 la) (.int .i64 v0') (.int .i64 v1') (.int .i64 v2') (.int .i64 v3') (.slice b0 n' d0) (.slice b1 m' d1) (.slice b2 k' d2) 51)
  obtain ⟨⟨y0, y1, y2, y3, y4, y5, y6, y7, y8, y9⟩, z0, z1, z2, z3, z4, z5, z6, z7, z8, z9⟩ := HBX.out _ (Frm.refl _ _)
  go_enter Tryz.func24, Tryz.ntmps24
  go_wp2_with (go_at_call 17; go_loud (refine (HC.out _ HFB.out).mono ?_; rintro e w3 ⟨rfl, hw3⟩; have HW3 := Lib.hid (HFB.out.then1 hw3); clear hw3))
  go_ret
  exact ⟨rfl, HW3.out⟩
end Go.Proofs.YtafdclkpeomomaaGreat

/- tributarylaw22: delta: the walk. -/
namespace Go.Proofs.YtafdclkpeomomaaGreat
open Go.RowKit

def keyF : ByteArray := ⟨#[102]⟩
def dEs : List Ent := [⟨1, 1, ByteArray.empty, 0⟩]
def dKs : KidsL := .cons keyF dEs .nil .nil
/-- Five blocks laid one behind the other. -/
theorem five_blocks (w : World) (c0 c1 c2 c3 c4 : Array Value) (T0 T1 T2 T3 T4 : TypeId) (W : World) (hW : W = ((((w.alloc (.cells c0 T0)).alloc (.cells c1 T1)).alloc (.cells c2 T2)).alloc (.cells c3 T3)).alloc (.cells c4 T4)) :
    W.heap[w.heap.size]? = some (.cells c0 T0 (0, 0)) ∧ W.heap[w.heap.size + 1 + 1]? = some (.cells c2 T2 (0, 0)) ∧ W.heap[w.heap.size + 1 + 1 + 1]? = some (.cells c3 T3 (0, 0)) ∧ W.heap[w.heap.size + 1 + 1 + 1 + 1]? = some (.cells c4 T4 (0, 0)) ∧ Frm NoS w W := by
  subst hW
  have h0 := heap_alloc_new w (.cells c0 T0)
  have h2 := heap_alloc_new ((w.alloc (.cells c0 T0)).alloc (.cells c1 T1)) (.cells c2 T2)
  have h3 := heap_alloc_new (((w.alloc (.cells c0 T0)).alloc (.cells c1 T1)).alloc (.cells c2 T2)) (.cells c3 T3)
  have h4 := heap_alloc_new ((((w.alloc (.cells c0 T0)).alloc (.cells c1 T1)).alloc (.cells c2 T2)).alloc (.cells c3 T3)) (.cells c4 T4)
  have sz : ∀ (u : World) (o : Obj), (u.alloc o).heap.size = u.heap.size + 1 := fun u o => by simp
  simp only [sz] at h2 h3 h4
  exact ⟨(((Frm.alloc NoS _ _).alloc1.alloc1).alloc1).blk h0 id, ((Frm.alloc NoS _ _).alloc1).blk h2 id, (Frm.alloc NoS _ _).blk h3 id, h4, ((((Frm.alloc NoS _ _).alloc1).alloc1).alloc1).alloc1⟩
theorem row_rd {w : World} {b n : Nat} {cs : Array Value} {T : TypeId} (h : w.heap[b]? = some (.cells cs T (0, 0))) (hm : n ≤ 100) : Rd w (.slice (some ⟨b, 0, none⟩) n n) n cs.toList :=
  .inr ⟨b, 0, n, rfl, Nat.le_refl _, by simp only [maxLen]; omega, fun j u hu => by rw [Nat.zero_add]; exact cell_at' h j (by simpa using hu)⟩
set_option maxRecDepth 1000000 in
theorem delta22_any (w : World) : Calls Tryz.prog 63 #[] w fun e w' => ∃ ev kv cv, e = .returned (.agg #[ev, kv, cv]) ∧ CauAt (fun _ => True) w' ev kv cv [] dKs [(1, 1, 1)] ∧ Frm NoS w w' := by
  have HFI := Lib.hid (fun c0 c1 c2 c3 c4 T0 T1 T2 T3 T4 => five_blocks w c0 c1 c2 c3 c4 T0 T1 T2 T3 T4 _ rfl)
  go_enter Tryz.func63, Tryz.ntmps63
  go_wp2
  generalize hW : ((((w.alloc (.cells #[.slice none 0 0, .slice (some ⟨w.heap.size + 1 + 1 + 1, 0, none⟩) 1 1, .slice (some ⟨w.heap.size + 1 + 1 + 1 + 1, 0, none⟩) 1 1] 29)).alloc (.cells #[.int .i64 1, .int .i64 1, .string ⟨#[]⟩, .int .i64 0] 136)).alloc (.cells #[.int .i64 1, .int .i64 1, .string ⟨#[]⟩, .int .i64 0] 136)).alloc (.cells #[.string ⟨#[102]⟩, .slice (some ⟨w.heap.size + 1 + 1, 0, none⟩) 1 1, .slice none 0 0] 138)).alloc (.cells #[.int .i64 1, .int .i64 1, .int .i64 1] 107) = W
  obtain ⟨g0, g2, g3, g4, gf⟩ := five_blocks w _ _ _ _ _ _ _ _ _ _ W hW.symm
  have y0 := cell_at' g0 0 rfl
  have y1 := cell_at' g0 1 rfl
  have y2 := cell_at' g0 2 rfl
  refine bodyPost_ret (v := .agg #[.slice none 0 0, .slice (some ⟨w.heap.size + 1 + 1 + 1, 0, none⟩) 1 1, .slice (some ⟨w.heap.size + 1 + 1 + 1 + 1, 0, none⟩) 1 1]) (by simp [results, Tryz.results63, go_sem, y0, y1, y2]) rfl ⟨_, _, _, rfl, ⟨⟨⟨.inl ⟨none, rfl, rfl, rfl⟩, fun _ _ _ => trivial⟩, [(.slice (some ⟨w.heap.size + 1 + 1, 0, none⟩) 1 1, .slice none 0 0)], ⟨row_rd g3 (by decide), fun _ _ _ => trivial⟩, ?_⟩, row_rd g4 (by decide)⟩, gf⟩
  exact ⟨_, _, _, [], rfl, ⟨row_rd g2 (by decide), fun _ _ _ => trivial⟩, ⟨.inl ⟨none, rfl, rfl, rfl⟩, fun _ _ _ => trivial⟩, rfl, rfl⟩
theorem dKs_right : rightT 5 [] dKs = true := by
  rw [rightT, dKs, rightKs_cons]
  simp only [rightT, rightEs, rightKs, keyB, ltK, isNil, dEs, entB, dotB, ltE, KidsL.len, List.length]
  decide
end Go.Proofs.YtafdclkpeomomaaGreat

/- tributarylaw22: awake: the walk. -/
namespace Go.Proofs.YtafdclkpeomomaaGreat
open Go.RowKit

theorem dots_d : dotsT [] dKs = [(1, 1)] := rfl
theorem trOk_d : TrOk [] dKs :=
  ⟨⟨Nat.zero_le _, fun e he => by cases he⟩, by decide, ⟨by decide, ⟨by decide, fun e he => by
    simp only [dEs, List.mem_singleton] at he
    subst he
    exact ⟨by decide, by decide, by decide, by decide⟩⟩, by decide, trivial, trivial⟩⟩
theorem cauOk_d (b : Int) (h1 : 1 ≤ b) (h2 : b ≤ 1099511627776) : CauOk [] dKs [(1, 1, b)] :=
  ⟨trOk_d, by decide, fun s hs => by simp only [List.mem_singleton] at hs; subst hs; dsimp only; omega, by simp⟩
theorem nums_d : BunNums 1 0 2 (vecF 0 0 0 0) :=
  ⟨by decide, by decide, by decide, by decide, by decide, by decide, fun d h0 h4 => by rcases four h0 h4 with rfl | rfl | rfl | rfl <;> decide⟩
theorem dots_in (b : Int) (h : 1 ≤ b) : DotsLeq (dotsT [] dKs) [(1, 1, b)] := fun r hr => by
  rw [dots_d] at hr
  simp only [List.mem_singleton] at hr
  subst hr
  exact (inC_one 1 1 b 1 1).2 ⟨rfl, by decide, h⟩
theorem right_d : CauRight [] dKs [(1, 1, 1)] := ⟨dKs_right, right_one (by decide) (by decide) (by decide) (by decide) (by decide), dots_in 1 (by decide)⟩
theorem union_d {c' : CtxL} (h : ByC 0 [(1, 1, 1)] [(1, 0 + 1, 2)] c') : c' = [(1, 1, 2)] := by
  refine h.one ⟨right_one (by decide) (by decide) (by decide) (by decide) (by decide), fun d n h0 h4 => ?_⟩
  rw [inC_one]
  have e1 := inC_one 1 1 1 d n
  have e2 := inC_one 1 (0 + 1) 2 d n
  unfold ByIn
  simp only [e1, e2]
  simp
  omega
theorem bun_d : BunRight 1 0 2 (vecF 0 0 0 0) [] dKs [(1, 1, 2)] where
  nums := nums_d
  tree := dKs_right
  ctx := right_one (by decide) (by decide) (by decide) (by decide) (by decide)
  dots := dots_in 2 (by decide)
  bare := rfl
  mine := dots_in 2 (by decide)
  own := fun _ _ _ _ h => h
  may := fun d n h0 h4 h => by
    obtain ⟨rfl, h1, h2⟩ := (inC_one 1 1 2 d n).1 h
    rw [inC_full _ n h0 h4]
    exact ⟨h1, by simp only [setF, if_pos]; exact h2⟩
set_option maxHeartbeats 2000000 in
set_option maxRecDepth 1000000 in
theorem awake22_any (w : World) : Calls Tryz.prog 20 #[] w fun e w' => e = .returned (.bool true) ∧ Frm NoS w w' := by
  have HD := Lib.hid (fun W => delta22_any W)
  have HM := Lib.hid (fun W ev kv cv h => bMake_ok (fun _ => True) [] dKs [(1, 1, 1)] W 1 0 2 0 0 0 0 ev kv cv h (cauOk_d 1 (by decide) (by decide)) nums_d right_d (fun c' hb => by rw [union_d hb]; exact ⟨bun_d, cauOk_d 2 (by decide) (by decide)⟩))
  have HR := Lib.hid (fun W ev kv cv h => tf_true bun_d ▸ bRight_any (fun _ => True) [] dKs [(1, 1, 2)] W 1 0 2 0 0 0 0 ev kv cv h (cauOk_d 2 (by decide) (by decide)))
  have HS := Lib.hid (fun W va vb ha hb => r7Same_any W va vb [(1, 1, 2)] [(1, 1, 2)] ha hb (by simp) (by simp))
  go_enter Tryz.func20, Tryz.ntmps20
  go_wp2_with (first
    | (go_at_call 63; go_loud (refine (HD.out _).mono ?_); rintro e w1 ⟨ev1, kv1, cv1, rfl, hc1, hf1⟩; obtain ⟨a0, c0, a1, c1, a2, c2, rfl, rfl, rfl⟩ := hc1.shape; have HC1 := Lib.hid hc1; clear hc1; have HF1 := Lib.hid hf1; clear hf1)
    | (go_at_call 62; go_loud (refine (HM.out _ _ _ _ HC1.out).mono ?_); rintro e w2 ⟨ev2, kv2, cv2, c', rfl, hc2, hby, hf2⟩; have hcc := union_d hby; subst hcc; obtain ⟨b0, d0, b1, d1, b2, d2, rfl, rfl, rfl⟩ := hc2.shape; have HC2 := Lib.hid hc2; clear hc2 hby; have HF2 := Lib.hid (HF1.out.then1 hf2); clear hf2)
    | (go_at_call 64; go_loud (refine (HR.out _ _ _ _ (HC2.out.keep0 (Frm.alloc _ _ _))).mono ?_); rintro e w3 ⟨rfl, hw3⟩; obtain ⟨y0, y1, y2, y3, y4, y5, y6, y7, y8, y9⟩ := box10 w2 _ _ _ _ _ _ _ _ _ _ _ w3 hw3; have HW3 := Lib.hid hw3; clear hw3)
    | (go_at_call 35; go_loud (refine (HS.out _ _ _ (Rd.keep0 HC2.out.ctx (((Frm.alloc NoS _ _).then1 HW3.out).alloc1)) (row_rd (heap_alloc_new w3 _) (by decide))).mono ?_); rintro e w4 ⟨rfl, hw4⟩; have HW4 := Lib.hid hw4; clear hw4))
  go_ret
  exact ⟨by simp, (((HF2.out.alloc1).then1 HW3.out).alloc1).then1 HW4.out⟩
end Go.Proofs.YtafdclkpeomomaaGreat
