/- Words for the law PackGets: R16o, R16v, OpS. -/
import Derived.Test.YtggfoihfenlckaaGreatPackGetsG19
import Derived.Test.YtggfoihfenlckaaGreatPackGetsG21
set_option linter.unusedSimpArgs false
set_option linter.unusedVariables false
/- tributaryref16: ToOp: the walk. Printed by wip/r16toopgen.py. -/
namespace Go.Proofs.YtggfoihfenlckaaGreat
open Go.RowKit
/-- The In's box, the results' blocks, and the change that is filled. -/
structure TO (w0 w W : World) (v : Value) (t : Option (List UInt8)) (pv : Value) (k : Nat) (ss : List ByteArray) (a s n : Value) : Prop where
  rin : RIn w0 W v t
  box : W.heap[w.heap.size]? = some (.cells #[v, .bool t.isNone] 51 (0, 0))
  r1 : W.heap[w.heap.size + 1]? = some (.cells #[.slice none 0 0, .int .i64 0, .string ByteArray.empty, .int .i64 0] 40 (0, 0))
  r2 : W.heap[w.heap.size + 1 + 1]? = some (.cells #[.slice none 0 0, .bool false] 51 (0, 0))
  blk : W.heap[w.heap.size + 1 + 1 + 1]? = some (.cells #[pv, a, s, n] 40 (0, 0))
  frm : Frm NoS w W
  own : W.ownsRow 0 9 1 pv k (ss.map Value.string)
  new : ∀ b, pv.ownBlock = some b → w.heap.size + 1 + 1 + 1 < b
  h0 : w0.heap.size ≤ w.heap.size
section
variable {w0 w W W1 w6 : World} {v v' pv pv' a s n a' s' n' : Value} {t t' : Option (List UInt8)} {k : Nat} {ss : List ByteArray} {b : Bool}
theorem TO.call (h : TO w0 w W v t pv k ss a s n) (f : Frm NoS W W1) : TO w0 w W1 v t pv k ss a s n :=
  ⟨h.rin.keep0 f, f.blk h.box id, f.blk h.r1 id, f.blk h.r2 id, f.blk h.blk id, h.frm.then1 f, f.owns h.own fun _ _ e => e.elim, h.new, h.h0⟩
theorem TO.put (h : TO w0 w W v t pv k ss a s n) (hr : RIn w0 W v' t') (hb : t'.isNone = b) : TO w0 w ((W.setCell ⟨w.heap.size, 0, none⟩ v').setCell ⟨w.heap.size, 1, none⟩ (.bool b)) v' t' pv k ss a s n := by
  subst hb
  have f := two_set W (w.heap.size) v' (.bool t'.isNone)
  refine ⟨hr.keep f fun k hk e => ?_, set_at' (set_at' h.box 0 _) 1 _, f.blk h.r1 fun e => ?_, f.blk h.r2 fun e => ?_, f.blk h.blk fun e => ?_, h.frm.trans f fun i hi e => ?_, f.owns h.own fun b hb e => ?_, h.new, h.h0⟩
  · have e : k = w.heap.size := e; have := h.h0; omega
  · have e : w.heap.size + 1 = w.heap.size := e; omega
  · have e : w.heap.size + 1 + 1 = w.heap.size := e; omega
  · have e : w.heap.size + 1 + 1 + 1 = w.heap.size := e; omega
  · have e : i = w.heap.size := e; omega
  · have e : b = w.heap.size := e; have := h.new b hb; omega
theorem TO.fld (h : TO w0 w W v t pv k ss a s n) (j : Nat) (u : Value) (he : (#[pv, a, s, n] : Array Value).setIfInBounds j u = #[pv, a', s', n']) : TO w0 w (W.setCell ⟨w.heap.size + 1 + 1 + 1, j, none⟩ u) v t pv k ss a' s' n' := by
  have f := only_set W (w.heap.size + 1 + 1 + 1) j u
  refine ⟨h.rin.keep f fun k hk e => ?_, f.blk h.box fun e => ?_, f.blk h.r1 fun e => ?_, f.blk h.r2 fun e => ?_, he ▸ set_at' h.blk j u, h.frm.trans f fun i hi e => ?_, f.owns h.own fun b hb e => ?_, h.new, h.h0⟩
  · have e : k = w.heap.size + 1 + 1 + 1 := e; have := h.h0; omega
  · have e : w.heap.size = w.heap.size + 1 + 1 + 1 := e; omega
  · have e : w.heap.size + 1 = w.heap.size + 1 + 1 + 1 := e; omega
  · have e : w.heap.size + 1 + 1 = w.heap.size + 1 + 1 + 1 := e; omega
  · have e : i = w.heap.size + 1 + 1 + 1 := e; omega
  · have e : b = w.heap.size + 1 + 1 + 1 := e; have := h.new b hb; omega
theorem TO.next (h : TO w0 w W v t pv k ss a s n) (f : Frm NoS W W1) (hr : RIn w0 W1 v' t') (hb : t'.isNone = b) (j : Nat) (u : Value) (he : (#[pv, a, s, n] : Array Value).setIfInBounds j u = #[pv, a', s', n']) :
    TO w0 w (((W1.setCell ⟨w.heap.size + 1 + 1 + 1, j, none⟩ u).setCell ⟨w.heap.size, 0, none⟩ v').setCell ⟨w.heap.size, 1, none⟩ (.bool b)) v' t' pv k ss a' s' n' :=
  ((h.call f).fld j u he).put (hr.keep (only_set W1 _ j u) fun k hk e => (by have e : k = w.heap.size + 1 + 1 + 1 := e; have := h.h0; omega)) hb
theorem TO.app (h : TO w0 w W v t pv k ss a s n) {x : ByteArray} (own : w6.ownsRow 0 9 1 pv' (k + 1) (ss.map Value.string ++ [.string x])) (fm : Frm (RowS pv) W w6) (fr : Fresh W pv pv') :
    TO w0 w (w6.setCell ⟨w.heap.size + 1 + 1 + 1, 0, none⟩ pv') v t pv' (k + 1) (ss ++ [x]) a s n := by
  have g := h
  have f2 := only_set w6 (w.heap.size + 1 + 1 + 1) 0 pv'
  have hl := lt_of_block g.blk
  have ap : ∀ b, pv'.ownBlock = some b → w.heap.size + 1 + 1 + 1 < b := fun b hb => by
    rcases fr b hb with e | e
    · exact h.new b e
    · omega
  have nr : ∀ j, j ≤ w.heap.size + 1 + 1 + 1 → ¬ RowS pv j := fun j hj e => by have := h.new j e; omega
  refine ⟨(g.rin.keep fm fun k hk e => ?_).keep f2 fun k hk e => ?_, f2.blk (fm.blk g.box (nr _ (by omega))) fun e => ?_, f2.blk (fm.blk g.r1 (nr _ (by omega))) fun e => ?_, f2.blk (fm.blk g.r2 (nr _ (by omega))) fun e => ?_, set_at' (fm.blk g.blk (nr _ (Nat.le_refl _))) 0 pv', (g.frm.trans fm fun i hi e => ?_).trans f2 fun i hi e => ?_, ?_, ap, h.h0⟩
  · exact nr k (by have := h.h0; omega) e
  · have e : k = w.heap.size + 1 + 1 + 1 := e; have := h.h0; omega
  · have e : w.heap.size = w.heap.size + 1 + 1 + 1 := e; omega
  · have e : w.heap.size + 1 = w.heap.size + 1 + 1 + 1 := e; omega
  · have e : w.heap.size + 1 + 1 = w.heap.size + 1 + 1 + 1 := e; omega
  · exact nr i (by omega) e
  · have e : i = w.heap.size + 1 + 1 + 1 := e; omega
  · rw [List.map_append]
    exact f2.owns own fun b hb e => by have e : b = w.heap.size + 1 + 1 + 1 := e; have := ap b hb; omega
theorem TO.facts (h : TO w0 w W v t pv k ss a s n) (hb : t.isNone = b) : (W.cell? ⟨w.heap.size, 0, none⟩ = some v ∧ W.cell? ⟨w.heap.size, 1, none⟩ = some (.bool b) ∧ W.frozen? ⟨w.heap.size, 0, none⟩ = false ∧ W.frozen? ⟨w.heap.size, 1, none⟩ = false ∧ w.heap.size < W.heap.size) ∧
    (W.cell? ⟨w.heap.size + 1 + 1 + 1, 0, none⟩ = some pv ∧ W.cell? ⟨w.heap.size + 1 + 1 + 1, 1, none⟩ = some a ∧ W.cell? ⟨w.heap.size + 1 + 1 + 1, 2, none⟩ = some s ∧ W.cell? ⟨w.heap.size + 1 + 1 + 1, 3, none⟩ = some n) ∧ (W.frozen? ⟨w.heap.size + 1 + 1 + 1, 0, none⟩ = false ∧ W.frozen? ⟨w.heap.size + 1 + 1 + 1, 1, none⟩ = false ∧ W.frozen? ⟨w.heap.size + 1 + 1 + 1, 2, none⟩ = false ∧ W.frozen? ⟨w.heap.size + 1 + 1 + 1, 3, none⟩ = false) ∧
    w.heap.size + 1 + 1 + 1 < W.heap.size ∧ ¬ w.heap.size + 1 + 1 + 1 = w.heap.size ∧ ¬ w.heap.size = w.heap.size + 1 + 1 + 1 := by
  subst hb
  exact ⟨⟨cell_at' h.box 0 rfl, cell_at' h.box 1 rfl, free_at' h.box 0, free_at' h.box 1, lt_of_block h.box⟩, ⟨cell_at' h.blk 0 rfl, cell_at' h.blk 1 rfl, cell_at' h.blk 2 rfl, cell_at' h.blk 3 rfl⟩, ⟨free_at' h.blk 0, free_at' h.blk 1, free_at' h.blk 2, free_at' h.blk 3⟩, lt_of_block h.blk, by omega, by omega⟩
end
theorem TO.start {w0 w W : World} {a0 : Option Addr} {c0 : Nat} {st : Option (List UInt8)} (h : RIn w0 w (.slice a0 (leftOf st).length c0) st) (h0 : w0.heap.size ≤ w.heap.size)
    (hW : W = (((w.alloc (.cells #[.slice a0 (leftOf st).length c0, .bool st.isNone] 51)).alloc (.cells #[.slice none 0 0, .int .i64 0, .string ByteArray.empty, .int .i64 0] 40)).alloc (.cells #[.slice none 0 0, .bool false] 51)).alloc (.cells #[.slice none 0 0, .int .i64 0, .string ByteArray.empty, .int .i64 0] 40)) :
    TO w0 w W (.slice a0 (leftOf st).length c0) st (.slice none 0 0) 0 [] (.int .i64 0) (.string ByteArray.empty) (.int .i64 0) := by
  obtain ⟨g0, g1, g2, g3, gf⟩ := four_blocks w _ _ _ _ _ _ _ _ W hW
  exact ⟨h.keep0 gf, g0, g1, g2, g3, gf, World.ownsRow_nil _ 0 _ 1, fun b hb => by simp [Value.ownBlock] at hb, h0⟩
def ToOpPost (w0 w : World) (ss : List ByteArray) (a : Int) (s : ByteArray) (n : Int) (t : Option (List UInt8)) (e : Ending) (w' : World) : Prop :=
  ∃ pv al l, e = .returned (.tuple #[.agg #[pv, .int .i64 a, .string s, .int .i64 n], .agg #[.slice al (leftOf t).length l, .bool t.isNone]]) ∧ StrsQ (fun b => w.heap.size ≤ b) w' pv ss ∧ RIn w0 w' (.slice al (leftOf t).length l) t ∧ Frm NoS w w'
theorem TO.fin {w0 w W W' : World} {al : Option Addr} {l k : Nat} {t : Option (List UInt8)} {pv : Value} {ss : List ByteArray} {a n : Int} {s : ByteArray} (h : TO w0 w W (.slice al (leftOf t).length l) t pv k ss (.int .i64 a) (.string s) (.int .i64 n)) (hk : ss.length = k) (f : Frm (XT w) W W') :
    ToOpPost w0 w ss a s n t (.returned (.tuple #[.agg #[pv, .int .i64 a, .string s, .int .i64 n], .agg #[.slice al (leftOf t).length l, .bool t.isNone]])) W' := by
  subst hk
  refine ⟨pv, al, l, rfl, ⟨Rd.own (f.owns h.own fun b hb e => ?_), fun _ b hb => ?_⟩, h.rin.keep f fun k hk e => ?_, h.frm.trans f fun i hi e => ?_⟩
  · have := h.new b hb; rcases e with e | e | e <;> omega
  · have := h.new b hb; omega
  · have := h.h0; rcases e with e | e | e <;> omega
  · rcases e with e | e | e <;> omega
theorem TO.finZ {w0 w W W' : World} {v pv a s n : Value} {k : Nat} {t : Option (List UInt8)} {ss : List ByteArray} (h : TO w0 w W v t pv k ss a s n) (f : Frm (XT w) W W') :
    ToOpPost w0 w [] 0 ByteArray.empty 0 none (.returned (.tuple #[.agg #[.slice none 0 0, .int .i64 0, .string ByteArray.empty, .int .i64 0], .agg #[.slice none 0 0, .bool true]])) W' := by
  refine ⟨_, none, 0, rfl, ⟨.inl ⟨none, rfl, rfl, rfl⟩, fun h => absurd rfl h⟩, RIn.bad w0 _, h.frm.trans f fun i hi e => ?_⟩
  rcases e with e | e | e <;> omega
theorem stores6O (w W : World) (x0 x1 x2 x3 y0 y1 : Value) : Frm (XT w) W ((((((W.setCell ⟨w.heap.size + 1, 0, none⟩ x0).setCell ⟨w.heap.size + 1, 1, none⟩ x1).setCell ⟨w.heap.size + 1, 2, none⟩ x2).setCell ⟨w.heap.size + 1, 3, none⟩ x3).setCell ⟨w.heap.size + 1 + 1, 0, none⟩ y0).setCell ⟨w.heap.size + 1 + 1, 1, none⟩ y1) :=
  ((four_set W (w.heap.size + 1) x0 x1 x2 x3).mono fun k _ hk => .inr (.inl hk)).trans ((two_set _ (w.heap.size + 1 + 1) y0 y1).mono fun k _ hk => .inr (.inr hk)) fun _ _ h => h
theorem stores6O_at {w W : World} {x0 x1 x2 x3 y0 y1 : Value} {a b b2 b3 c d : Value} {T T' : TypeId} (h1 : W.heap[w.heap.size + 1]? = some (.cells #[a, b, b2, b3] T (0, 0))) (h2 : W.heap[w.heap.size + 1 + 1]? = some (.cells #[c, d] T' (0, 0))) (W' : World)
    (hW : W' = (((((W.setCell ⟨w.heap.size + 1, 0, none⟩ x0).setCell ⟨w.heap.size + 1, 1, none⟩ x1).setCell ⟨w.heap.size + 1, 2, none⟩ x2).setCell ⟨w.heap.size + 1, 3, none⟩ x3).setCell ⟨w.heap.size + 1 + 1, 0, none⟩ y0).setCell ⟨w.heap.size + 1 + 1, 1, none⟩ y1) :
    W'.cell? ⟨w.heap.size + 1, 0, none⟩ = some x0 ∧ W'.cell? ⟨w.heap.size + 1, 1, none⟩ = some x1 ∧ W'.cell? ⟨w.heap.size + 1, 2, none⟩ = some x2 ∧ W'.cell? ⟨w.heap.size + 1, 3, none⟩ = some x3 ∧ W'.cell? ⟨w.heap.size + 1 + 1, 0, none⟩ = some y0 ∧ W'.cell? ⟨w.heap.size + 1 + 1, 1, none⟩ = some y1 := by
  subst hW
  have g1 := set_at' (set_at' (set_at' (set_at' h1 0 x0) 1 x1) 2 x2) 3 x3
  have f1 := four_set W (w.heap.size + 1) x0 x1 x2 x3
  have f2 := two_set ((((W.setCell ⟨w.heap.size + 1, 0, none⟩ x0).setCell ⟨w.heap.size + 1, 1, none⟩ x1).setCell ⟨w.heap.size + 1, 2, none⟩ x2).setCell ⟨w.heap.size + 1, 3, none⟩ x3) (w.heap.size + 1 + 1) y0 y1
  have g2 := f1.blk h2 fun e => by have e : w.heap.size + 1 + 1 = w.heap.size + 1 := e; omega
  have g3 := f2.blk g1 fun e => by have e : w.heap.size + 1 = w.heap.size + 1 + 1 := e; omega
  have g4 := set_at' (set_at' g2 0 y0) 1 y1
  exact ⟨cell_at' g3 0 rfl, cell_at' g3 1 rfl, cell_at' g3 2 rfl, cell_at' g3 3 rfl, cell_at' g4 0 rfl, cell_at' g4 1 rfl⟩
set_option maxHeartbeats 16000000 in
set_option maxRecDepth 1000000 in
theorem r16ToOp_at {w0 : World} {v : Value} {st s9 : Option (List UInt8)} {ss : List ByteArray} {a n : Int} {s : ByteArray} (w : World) (h : RIn w0 w v st) (h0 : w0.heap.size ≤ w.heap.size) (hc : OpRes st ss a s n s9) (hl : (leftOf st).length ≤ 60000) :
    Calls Tryz.prog 65 #[.agg #[v, .bool st.isNone]] w (ToOpPost w0 w ss a s n s9) := by
  obtain ⟨i0, hi, hz0, hz1, hz2⟩ := info_parts info_str
  obtain ⟨n1, s1, hcnt⟩ := CntStep.total st 9223372036854775807
  have hn6 : n1 ≤ 60000 := by have := hcnt.left; omega
  obtain ⟨a0, c0, rfl⟩ := h.shape
  obtain ⟨WB, hWB⟩ : ∃ W, W = (((w.alloc (.cells #[.slice a0 (leftOf st).length c0, .bool st.isNone] 51)).alloc (.cells #[.slice none 0 0, .int .i64 0, .string ByteArray.empty, .int .i64 0] 40)).alloc (.cells #[.slice none 0 0, .bool false] 51)).alloc (.cells #[.slice none 0 0, .int .i64 0, .string ByteArray.empty, .int .i64 0] 40) := ⟨_, rfl⟩
  have hst := TO.start h h0 hWB
  have HM := Lib.hid (many_at WB hst.rin (Nat.le_trans h0 hst.frm.size) hcnt)
  have HST := Lib.hid hst; clear hst
  unfold RPost at HM
  have HCNT := Lib.hid hcnt; clear hcnt
  have HC := Lib.hid hc; clear hc
  clear h h0 hl
  generalize hbd : st.isNone = bd at *
  generalize hLL : (leftOf st).length = L0 at *
  have HBD := Lib.hid hbd; clear hbd
  have HLL := Lib.hid hLL; clear hLL
  generalize hL1 : (leftOf s1).length = L1 at *
  generalize hb1 : s1.isNone = b1 at *
  have HL1 := Lib.hid hL1; clear hL1
  have HB1 := Lib.hid hb1; clear hb1
  have HWB := Lib.hid hWB; clear hWB
  go_enter Tryz.func65, Tryz.ntmps65
  go_wp2_with (go_at_call 118; rw [show (((w.alloc (.cells #[.slice a0 L0 c0, .bool bd] 51)).alloc (.cells #[.slice none 0 0, .int .i64 0, .string ⟨#[]⟩, .int .i64 0] 40)).alloc (.cells #[.slice none 0 0, .bool false] 51)).alloc (.cells #[.slice none 0 0, .int .i64 0, .string ⟨#[]⟩, .int .i64 0] 40) = WB from HWB.out.symm]; go_loud (refine HM.out.mono ?_); rintro e w1 ⟨a1, c1, rfl, hr1, hf1⟩; obtain ⟨⟨y0, y1, y2, y3, y4⟩, -, -, -, -, -⟩ := (HST.out.call hf1).facts HBD.out; have HT1 := Lib.hid ((HST.out.call hf1).put (v' := .slice a1 L1 c1) hr1 HB1.out); clear hr1 hf1)
  go_loopw [14] (fun i W => ∃ (k : Nat) (ps : List ByteArray) (t : Option (List UInt8)) (pv : Value) (al : Option Addr) (cl : Nat), k ≤ n1 ∧ i = .int .i64 k ∧ TxtRun 9223372036854775807 s1 k ps t ∧ TO w0 w W (.slice al (leftOf t).length cl) t pv k ps (.int .i64 0) (.string ByteArray.empty) (.int .i64 0)) (fun i _ => n1 - (intOf i).toNat)
  case atStart =>
    have e1 := HL1.out
    subst e1
    exact ⟨0, [], s1, _, a1, c1, Nat.zero_le _, rfl, .zero, HT1.out⟩
  case round =>
    clear HT1 y0 y1 y2 y3 y4
    obtain ⟨k, ps, t0, pv, al, cl, hk, rfl, hrun, hto⟩ := hrel
    obtain ⟨aV, cV, rfl⟩ := (Rd.own hto.own).sl
    have hlen : ps.length = k := hrun.len
    have HLEN := Lib.hid hlen; clear hlen
    by_cases hlt : k < n1
    · obtain ⟨x, t1, g1⟩ := TextStep.total t0 9223372036854775807
      have HC1 := Lib.hid (rtext_at hto.rin g1 (by decide) (by decide))
      unfold RPost at HC1
      have HRUN := Lib.hid (show TxtRun 9223372036854775807 s1 (k + 1) (ps ++ [x]) t1 from .snoc hrun g1); clear hrun g1
      have HTO := Lib.hid hto; clear hto
      generalize hlx : (leftOf t0).length = Lx at *
      generalize hbx : t0.isNone = bx at *
      generalize hly : (leftOf t1).length = Ly at *
      generalize hby : t1.isNone = by' at *
      have HBX := Lib.hid hbx; clear hbx
      have HLX := Lib.hid hlx; clear hlx
      have HLY := Lib.hid hly; clear hly
      have HBY := Lib.hid hby; clear hby
      obtain ⟨⟨y0, y1, y2, y3, y4⟩, -, -, y5, y6, y7⟩ := HTO.out.facts HBX.out
      go_wp2_with (first
        | (go_at_call 121; go_loud (refine HC1.out.mono ?_); rintro e W1 ⟨a5, c5, rfl, hr5, hf5⟩; clear y0 y1 y2 y3 y4 y5 y6 y7; obtain ⟨⟨y0, y1, y2, y3, y4⟩, ⟨z0, z1, z2, z3⟩, ⟨u0, u1, u2, u3⟩, y5, y6, y7⟩ := (HTO.out.call hf5).facts HBX.out; have HT2 := Lib.hid ((HTO.out.call hf5).put (v' := .slice a5 Ly c5) hr5 HBY.out); clear hr5 hf5)
        | (at_builtin; go_loud (refine wpList_app1 _ [.string x] rfl (.tmp 22) (.tmp 24) 38 rfl 9 i0 _ 1 16 Tryz.underlying38 hi hz0 hz1 hz2 (by decide) (by decide) (.slice aV k cV) k (ps.map Value.string) HT2.out.own 1 1 rfl (by simp [Act.eval]) rfl ?c1 ?c2 ?c3 ?_)))
      case c1 => simp [Value.oneCell']
      case c2 => simp only [maxLen]; omega
      case c3 => omega
      intro ad cc w6 own6 fm6 fr6
      have HT6 := Lib.hid (HT2.out.app (x := x) own6 fm6 fr6)
      have hb6 := fm6.blk HT2.out.blk (fun e => by have := HT2.out.new _ e; omega)
      have f0 := free_at' hb6 0
      have f1 := lt_of_block hb6
      have f2 := cell_at' hb6 0 rfl
      clear own6 fm6 fr6 hb6 y0 y1 y2 y3 y4 y5 y6 y7 z0 z1 z2 z3 u0 u1 u2 u3
      go_wp2
      go_roundw
      case rel =>
        have e1 := HLY.out
        subst e1
        exact ⟨k + 1, ps ++ [x], t1, _, a5, c5, by omega, by go_num, HRUN.out, HT6.out⟩
      case measure => simp [intOf]; omega
    · obtain rfl : n1 = k := by omega
      clear hk hlt
      obtain ⟨av, t1, g1⟩ := NumStep.total t0 9223372036854775807
      obtain ⟨sv, t2, g2⟩ := TextStep.total t1 9223372036854775807
      obtain ⟨nv, t3, g3⟩ := NumStep.total t2 9223372036854775807
      have hos : OpSt 9223372036854775807 9223372036854775807 9223372036854775807 9223372036854775807 st n1 ps av sv nv s1 t0 t1 t2 t3 := ⟨HCNT.out, hrun, g1, g2, g3⟩
      have hsv := text_size g2 (by decide)
      have HSV := Lib.hid hsv; clear hsv
      have HC1 := Lib.hid (fun W v (hr : RIn w0 W v t0) => rnum_at hr g1 (by decide) (by decide))
      have HC2 := Lib.hid (fun W v (hr : RIn w0 W v t1) => rtext_at hr g2 (by decide) (by decide))
      have HC3 := Lib.hid (fun W v (hr : RIn w0 W v t2) => rnum_at hr g3 (by decide) (by decide))
      unfold RPost at HC1 HC2 HC3
      have HPG := Lib.hid (fun (r : List UInt8) (e : t3 = some r) hb => op_good (e ▸ hos) hb)
      have HPB := Lib.hid (fun hb => op_bad (by decide) (by decide) (by decide) (by decide) (by decide) (by decide) (by decide) (by decide) hos hb)
      clear hos g1 g2 g3 hrun
      have HOR := Lib.hid (fun W v (h : StrsAt W v ps) => r15Op_any ps av nv sv W v h (by have := HLEN.out; omega) HSV.out)
      have HTO := Lib.hid hto; clear hto
      have H0X := Lib.hid True.intro
      cases t3 with
      | none =>
        obtain ⟨⟨rfl, rfl, rfl, rfl⟩, rfl⟩ := HC.out.det (HPB.out (.inl rfl))
        clear HOR HPG HPB
        generalize hl0 : (leftOf t0).length = L4 at *
        generalize hb0 : t0.isNone = b0 at *
        generalize hl5 : (leftOf t1).length = L5 at *
        generalize hb5 : t1.isNone = b5 at *
        generalize hl2 : (leftOf t2).length = L2 at *
        generalize hb2 : t2.isNone = b2 at *
        have HL4 := Lib.hid hl0; clear hl0
        have HB0 := Lib.hid hb0; clear hb0
        have HL5 := Lib.hid hl5; clear hl5
        have HB5 := Lib.hid hb5; clear hb5
        have HL2 := Lib.hid hl2; clear hl2
        have HB2 := Lib.hid hb2; clear hb2
        obtain ⟨⟨y0, y1, y2, y3, y4⟩, -, -, y5, y6, y7⟩ := HTO.out.facts HB0.out
        go_wp2_with (first
          | (go_at_call 105; first
            | (have q9 := HT4; go_loud (refine (HC3.out _ _ HT4.out.rin).mono ?_); rintro e W5 ⟨a7, c7, rfl, hr7, hf7⟩
               clear q9 y0 y1 y2 y3 y4 y5 y6 y7 z0 z1 z2 z3 u0 u1 u2 u3
               obtain ⟨⟨y0, y1, y2, y3, y4⟩, ⟨z0, z1, z2, z3⟩, ⟨u0, u1, u2, u3⟩, y5, y6, y7⟩ := (HT4.out.call hf7).facts HB2.out
               have HT5 := Lib.hid (HT4.out.next hf7 (v' := .slice a7 0 c7) hr7 (b := true) rfl 3 (.int .i64 nv) (a' := .int .i64 av) (s' := .string sv) (n' := .int .i64 nv) rfl)
               clear hr7 hf7)
            | (have q9 := H0X; go_loud (refine (HC1.out _ _ HTO.out.rin).mono ?_); rintro e W3 ⟨a5, c5, rfl, hr5, hf5⟩
               clear q9 H0X y0 y1 y2 y3 y4 y5 y6 y7
               obtain ⟨⟨y0, y1, y2, y3, y4⟩, ⟨z0, z1, z2, z3⟩, ⟨u0, u1, u2, u3⟩, y5, y6, y7⟩ := (HTO.out.call hf5).facts HB0.out
               have HT3 := Lib.hid (((HTO.out.call hf5).put (v' := .slice a5 L5 c5) hr5 HB5.out).fld 1 (.int .i64 av) (a' := .int .i64 av) (s' := .string ByteArray.empty) (n' := .int .i64 0) rfl)
               clear hr5 hf5))
          | (go_at_call 121; go_loud (refine (HC2.out _ _ HT3.out.rin).mono ?_); rintro e W4 ⟨a6, c6, rfl, hr6, hf6⟩
             clear y0 y1 y2 y3 y4 y5 y6 y7 z0 z1 z2 z3 u0 u1 u2 u3
             obtain ⟨⟨y0, y1, y2, y3, y4⟩, ⟨z0, z1, z2, z3⟩, ⟨u0, u1, u2, u3⟩, y5, y6, y7⟩ := (HT3.out.call hf6).facts HB5.out
             have HT4 := Lib.hid (HT3.out.next hf6 (v' := .slice a6 L2 c6) hr6 HB2.out 2 (.string sv) (a' := .int .i64 av) (s' := .string sv) (n' := .int .i64 0) rfl)
             clear hr6 hf6)
          | (go_at_call 119; go_loud (refine (rbad_any _).mono ?_); rintro e w9 ⟨rfl, hf9⟩
             clear y0 y1 y2 y3 y4 y5 y6 y7 z0 z1 z2 z3 u0 u1 u2 u3
             have HT9 := Lib.hid (HT5.out.call hf9)
             clear hf9
             have g1 := HT9.out.r1
             have g2 := HT9.out.r2
             have x10 := cell_at' g1 0 rfl
             have x11 := cell_at' g1 1 rfl
             have x12 := cell_at' g1 2 rfl
             have x13 := cell_at' g1 3 rfl
             have f0 := free_at' g1 0
             have f1 := free_at' g1 1
             have f2 := free_at' g1 2
             have f3 := free_at' g1 3
             have hl1 := lt_of_block g1
             have x14 := cell_at' g2 0 rfl
             have x15 := cell_at' g2 1 rfl
             have f4 := free_at' g2 0
             have f5 := free_at' g2 1
             have hl2 := lt_of_block g2
             clear g1 g2))
        clear x10 x11 x12 x13 x14 x15 f0 f1 f2 f3 f4 f5 hl1 hl2
        obtain ⟨y0, y1, y2, y3, y4, y5⟩ := stores6O_at (x0 := .slice none 0 0) (x1 := .int .i64 0) (x2 := .string ⟨#[]⟩) (x3 := .int .i64 0) (y0 := .slice none 0 0) (y1 := .bool true) HT9.out.r1 HT9.out.r2 _ rfl
        exact bodyPost_ret (v := .tuple #[.agg #[.slice none 0 0, .int .i64 0, .string ⟨#[]⟩, .int .i64 0], .agg #[.slice none 0 0, .bool true]]) (by simp [results, Tryz.results65, go_sem, y0, y1, y2, y3, y4, y5]) rfl (HT9.out.finZ (stores6O w w9 _ _ _ _ _ _))
      | some r =>
        simp only [show (leftOf (some r)).length = r.length from rfl, show (some r).isNone = false from rfl] at HC3
        cases hob : opB ps av sv nv with
        | true =>
          obtain ⟨⟨rfl, rfl, rfl, rfl⟩, rfl⟩ := HC.out.det (HPG.out r rfl hob)
          rw [hob] at HOR
          clear HPG HPB hob
          generalize hl0 : (leftOf t0).length = L4 at *
          generalize hb0 : t0.isNone = b0 at *
          generalize hl5 : (leftOf t1).length = L5 at *
          generalize hb5 : t1.isNone = b5 at *
          generalize hl2 : (leftOf t2).length = L2 at *
          generalize hb2 : t2.isNone = b2 at *
          have HL4 := Lib.hid hl0; clear hl0
          have HB0 := Lib.hid hb0; clear hb0
          have HL5 := Lib.hid hl5; clear hl5
          have HB5 := Lib.hid hb5; clear hb5
          have HL2 := Lib.hid hl2; clear hl2
          have HB2 := Lib.hid hb2; clear hb2
          obtain ⟨⟨y0, y1, y2, y3, y4⟩, -, -, y5, y6, y7⟩ := HTO.out.facts HB0.out
          go_wp2_with (first
            | (go_at_call 105; first
              | (have q9 := HT4; go_loud (refine (HC3.out _ _ HT4.out.rin).mono ?_); rintro e W5 ⟨a7, c7, rfl, hr7, hf7⟩
                 clear q9 y0 y1 y2 y3 y4 y5 y6 y7 z0 z1 z2 z3 u0 u1 u2 u3
                 obtain ⟨⟨y0, y1, y2, y3, y4⟩, ⟨z0, z1, z2, z3⟩, ⟨u0, u1, u2, u3⟩, y5, y6, y7⟩ := (HT4.out.call hf7).facts HB2.out
                 have HT5 := Lib.hid (HT4.out.next hf7 (v' := .slice a7 r.length c7) hr7 (b := false) rfl 3 (.int .i64 n) (a' := .int .i64 a) (s' := .string s) (n' := .int .i64 n) rfl)
                 clear hr7 hf7)
              | (have q9 := H0X; go_loud (refine (HC1.out _ _ HTO.out.rin).mono ?_); rintro e W3 ⟨a5, c5, rfl, hr5, hf5⟩
                 clear q9 H0X y0 y1 y2 y3 y4 y5 y6 y7
                 obtain ⟨⟨y0, y1, y2, y3, y4⟩, ⟨z0, z1, z2, z3⟩, ⟨u0, u1, u2, u3⟩, y5, y6, y7⟩ := (HTO.out.call hf5).facts HB0.out
                 have HT3 := Lib.hid (((HTO.out.call hf5).put (v' := .slice a5 L5 c5) hr5 HB5.out).fld 1 (.int .i64 a) (a' := .int .i64 a) (s' := .string ByteArray.empty) (n' := .int .i64 0) rfl)
                 clear hr5 hf5))
            | (go_at_call 121; go_loud (refine (HC2.out _ _ HT3.out.rin).mono ?_); rintro e W4 ⟨a6, c6, rfl, hr6, hf6⟩
               clear y0 y1 y2 y3 y4 y5 y6 y7 z0 z1 z2 z3 u0 u1 u2 u3
               obtain ⟨⟨y0, y1, y2, y3, y4⟩, ⟨z0, z1, z2, z3⟩, ⟨u0, u1, u2, u3⟩, y5, y6, y7⟩ := (HT3.out.call hf6).facts HB5.out
               have HT4 := Lib.hid (HT3.out.next hf6 (v' := .slice a6 L2 c6) hr6 HB2.out 2 (.string s) (a' := .int .i64 a) (s' := .string s) (n' := .int .i64 0) rfl)
               clear hr6 hf6)
            | (go_at_call 23; go_loud (refine (HOR.out _ _ (by have h := Rd.own HT5.out.own; unfold StrsAt; rw [HLEN.out]; exact h)).mono ?_); rintro e w8 ⟨xx, rfl, hxx, hf8⟩; obtain rfl := hxx.2 rfl; clear hxx
               clear y0 y1 y2 y3 y4 y5 y6 y7 z0 z1 z2 z3 u0 u1 u2 u3
               obtain ⟨⟨y0, y1, y2, y3, y4⟩, ⟨z0, z1, z2, z3⟩, ⟨u0, u1, u2, u3⟩, y5, y6, y7⟩ := (HT5.out.call hf8).facts (rfl : (some r).isNone = false)
               have HT9 := Lib.hid (HT5.out.call hf8)
               clear hf8
               have g1 := HT9.out.r1
               have g2 := HT9.out.r2
               have x10 := cell_at' g1 0 rfl
               have x11 := cell_at' g1 1 rfl
               have x12 := cell_at' g1 2 rfl
               have x13 := cell_at' g1 3 rfl
               have f0 := free_at' g1 0
               have f1 := free_at' g1 1
               have f2 := free_at' g1 2
               have f3 := free_at' g1 3
               have hl1 := lt_of_block g1
               have x14 := cell_at' g2 0 rfl
               have x15 := cell_at' g2 1 rfl
               have f4 := free_at' g2 0
               have f5 := free_at' g2 1
               have hl2 := lt_of_block g2
               clear g1 g2))
          clear y2 y3 y5 y6 y7 u0 u1 u2 u3
          go_region
          all_goals
            clear x10 x11 x12 x13 x14 x15 f0 f1 f2 f3 f4 f5 hl1 hl2
            clear y0 y1 y4 z0 z1 z2 z3
            obtain ⟨y0, y1, y2, y3, y4, y5⟩ := stores6O_at (x0 := .slice aV n1 cV) (x1 := .int .i64 a) (x2 := .string s) (x3 := .int .i64 n) (y0 := .slice a7 r.length c7) (y1 := .bool false) HT9.out.r1 HT9.out.r2 _ rfl
            go_wp2
            exact bodyPost_ret (v := .tuple #[.agg #[.slice aV n1 cV, .int .i64 a, .string s, .int .i64 n], .agg #[.slice a7 r.length c7, .bool false]]) (by simp [results, Tryz.results65, go_sem, y0, y1, y2, y3, y4, y5]) rfl (TO.fin (t := some r) HT9.out HLEN.out ((stores6O w w8 _ _ _ _ _ _).then1 (Frm.drew NoS _)))
        | false =>
          obtain ⟨⟨rfl, rfl, rfl, rfl⟩, rfl⟩ := HC.out.det (HPB.out (.inr hob))
          rw [hob] at HOR
          clear HPG HPB hob
          generalize hl0 : (leftOf t0).length = L4 at *
          generalize hb0 : t0.isNone = b0 at *
          generalize hl5 : (leftOf t1).length = L5 at *
          generalize hb5 : t1.isNone = b5 at *
          generalize hl2 : (leftOf t2).length = L2 at *
          generalize hb2 : t2.isNone = b2 at *
          have HL4 := Lib.hid hl0; clear hl0
          have HB0 := Lib.hid hb0; clear hb0
          have HL5 := Lib.hid hl5; clear hl5
          have HB5 := Lib.hid hb5; clear hb5
          have HL2 := Lib.hid hl2; clear hl2
          have HB2 := Lib.hid hb2; clear hb2
          obtain ⟨⟨y0, y1, y2, y3, y4⟩, -, -, y5, y6, y7⟩ := HTO.out.facts HB0.out
          go_wp2_with (first
            | (go_at_call 105; first
              | (have q9 := HT4; go_loud (refine (HC3.out _ _ HT4.out.rin).mono ?_); rintro e W5 ⟨a7, c7, rfl, hr7, hf7⟩
                 clear q9 y0 y1 y2 y3 y4 y5 y6 y7 z0 z1 z2 z3 u0 u1 u2 u3
                 obtain ⟨⟨y0, y1, y2, y3, y4⟩, ⟨z0, z1, z2, z3⟩, ⟨u0, u1, u2, u3⟩, y5, y6, y7⟩ := (HT4.out.call hf7).facts HB2.out
                 have HT5 := Lib.hid (HT4.out.next hf7 (v' := .slice a7 r.length c7) hr7 (b := false) rfl 3 (.int .i64 nv) (a' := .int .i64 av) (s' := .string sv) (n' := .int .i64 nv) rfl)
                 clear hr7 hf7)
              | (have q9 := H0X; go_loud (refine (HC1.out _ _ HTO.out.rin).mono ?_); rintro e W3 ⟨a5, c5, rfl, hr5, hf5⟩
                 clear q9 H0X y0 y1 y2 y3 y4 y5 y6 y7
                 obtain ⟨⟨y0, y1, y2, y3, y4⟩, ⟨z0, z1, z2, z3⟩, ⟨u0, u1, u2, u3⟩, y5, y6, y7⟩ := (HTO.out.call hf5).facts HB0.out
                 have HT3 := Lib.hid (((HTO.out.call hf5).put (v' := .slice a5 L5 c5) hr5 HB5.out).fld 1 (.int .i64 av) (a' := .int .i64 av) (s' := .string ByteArray.empty) (n' := .int .i64 0) rfl)
                 clear hr5 hf5))
            | (go_at_call 121; go_loud (refine (HC2.out _ _ HT3.out.rin).mono ?_); rintro e W4 ⟨a6, c6, rfl, hr6, hf6⟩
               clear y0 y1 y2 y3 y4 y5 y6 y7 z0 z1 z2 z3 u0 u1 u2 u3
               obtain ⟨⟨y0, y1, y2, y3, y4⟩, ⟨z0, z1, z2, z3⟩, ⟨u0, u1, u2, u3⟩, y5, y6, y7⟩ := (HT3.out.call hf6).facts HB5.out
               have HT4 := Lib.hid (HT3.out.next hf6 (v' := .slice a6 L2 c6) hr6 HB2.out 2 (.string sv) (a' := .int .i64 av) (s' := .string sv) (n' := .int .i64 0) rfl)
               clear hr6 hf6)
            | (go_at_call 23; go_loud (refine (HOR.out _ _ (by have h := Rd.own HT5.out.own; unfold StrsAt; rw [HLEN.out]; exact h)).mono ?_); rintro e w8 ⟨xx, rfl, hxx, hf8⟩; have hxn : (xx != 0) = true := by { have h9 : ¬ xx = 0 := fun e => Bool.false_ne_true (hxx.1 e); simp [bne, h9] }; clear hxx
               clear y0 y1 y2 y3 y4 y5 y6 y7 z0 z1 z2 z3 u0 u1 u2 u3
               obtain ⟨⟨y0, y1, y2, y3, y4⟩, ⟨z0, z1, z2, z3⟩, ⟨u0, u1, u2, u3⟩, y5, y6, y7⟩ := (HT5.out.call hf8).facts (rfl : (some r).isNone = false)
               have HT8 := Lib.hid (HT5.out.call hf8)
               clear hf8)
            | (go_at_call 119; go_loud (refine (rbad_any _).mono ?_); rintro e w9 ⟨rfl, hf9⟩
               clear hxn; clear y0 y1 y2 y3 y4 y5 y6 y7 z0 z1 z2 z3 u0 u1 u2 u3
               have HT9 := Lib.hid (HT8.out.call hf9)
               clear hf9
               have g1 := HT9.out.r1
               have g2 := HT9.out.r2
               have x10 := cell_at' g1 0 rfl
               have x11 := cell_at' g1 1 rfl
               have x12 := cell_at' g1 2 rfl
               have x13 := cell_at' g1 3 rfl
               have f0 := free_at' g1 0
               have f1 := free_at' g1 1
               have f2 := free_at' g1 2
               have f3 := free_at' g1 3
               have hl1 := lt_of_block g1
               have x14 := cell_at' g2 0 rfl
               have x15 := cell_at' g2 1 rfl
               have f4 := free_at' g2 0
               have f5 := free_at' g2 1
               have hl2 := lt_of_block g2
               clear g1 g2))
          clear x10 x11 x12 x13 x14 x15 f0 f1 f2 f3 f4 f5 hl1 hl2
          obtain ⟨y0, y1, y2, y3, y4, y5⟩ := stores6O_at (x0 := .slice none 0 0) (x1 := .int .i64 0) (x2 := .string ⟨#[]⟩) (x3 := .int .i64 0) (y0 := .slice none 0 0) (y1 := .bool true) HT9.out.r1 HT9.out.r2 _ rfl
          exact bodyPost_ret (v := .tuple #[.agg #[.slice none 0 0, .int .i64 0, .string ⟨#[]⟩, .int .i64 0], .agg #[.slice none 0 0, .bool true]]) (by simp [results, Tryz.results65, go_sem, y0, y1, y2, y3, y4, y5]) rfl (HT9.out.finZ (stores6O w w9 _ _ _ _ _ _))
end Go.Proofs.YtggfoihfenlckaaGreat
/- tributaryref16: ToVector: the walk. Printed by wip/vecgen.py. -/
namespace Go.Proofs.YtggfoihfenlckaaGreat
open Go.RowKit
def ToVecPost (w0 w : World) (v0 v1 v2 v3 : Int) (s : Option (List UInt8)) (e : Ending) (w' : World) : Prop :=
  ∃ a l, e = .returned (.tuple #[.agg #[.int .i64 v0, .int .i64 v1, .int .i64 v2, .int .i64 v3], .agg #[.slice a (leftOf s).length l, .bool s.isNone]]) ∧ RIn w0 w' (.slice a (leftOf s).length l) s ∧ Frm NoS w w'
theorem vecFin {w0 w W W' : World} {v0 v1 v2 v3 : Int} {a : Option Addr} {l : Nat} {s : Option (List UInt8)} (hr : RIn w0 W (.slice a (leftOf s).length l) s) (h0 : w0.heap.size ≤ w.heap.size) (hf : Frm NoS w W) (f : Frm (XT w) W W') :
    ToVecPost w0 w v0 v1 v2 v3 s (.returned (.tuple #[.agg #[.int .i64 v0, .int .i64 v1, .int .i64 v2, .int .i64 v3], .agg #[.slice a (leftOf s).length l, .bool s.isNone]])) W' := by
  refine ⟨a, l, rfl, hr.keep f fun k hk hs => ?_, hf.trans f fun i hi hs => ?_⟩
  · rcases hs with hs | hs | hs <;> omega
  · rcases hs with hs | hs | hs <;> omega
theorem stores6 (w W : World) (x0 x1 x2 x3 y0 y1 : Value) : Frm (XT w) W ((((((W.setCell ⟨w.heap.size + 1, 0, none⟩ x0).setCell ⟨w.heap.size + 1, 1, none⟩ x1).setCell ⟨w.heap.size + 1, 2, none⟩ x2).setCell ⟨w.heap.size + 1, 3, none⟩ x3).setCell ⟨w.heap.size + 1 + 1, 0, none⟩ y0).setCell ⟨w.heap.size + 1 + 1, 1, none⟩ y1) :=
  (((four_set W (w.heap.size + 1) x0 x1 x2 x3).mono fun k _ hk => .inr (.inl hk)).trans ((two_set _ (w.heap.size + 1 + 1) y0 y1).mono fun k _ hk => .inr (.inr hk)) fun _ _ h => h)
theorem stores6_at {w W : World} {x0 x1 x2 x3 y0 y1 : Value} {a b b2 b3 c d : Value} (h1 : W.heap[w.heap.size + 1]? = some (.cells #[a, b, b2, b3] 42 (0, 0))) (h2 : W.heap[w.heap.size + 1 + 1]? = some (.cells #[c, d] 51 (0, 0))) (W' : World)
    (hW : W' = (((((W.setCell ⟨w.heap.size + 1, 0, none⟩ x0).setCell ⟨w.heap.size + 1, 1, none⟩ x1).setCell ⟨w.heap.size + 1, 2, none⟩ x2).setCell ⟨w.heap.size + 1, 3, none⟩ x3).setCell ⟨w.heap.size + 1 + 1, 0, none⟩ y0).setCell ⟨w.heap.size + 1 + 1, 1, none⟩ y1) :
    W'.cell? ⟨w.heap.size + 1, 0, none⟩ = some x0 ∧ W'.cell? ⟨w.heap.size + 1, 1, none⟩ = some x1 ∧ W'.cell? ⟨w.heap.size + 1, 2, none⟩ = some x2 ∧ W'.cell? ⟨w.heap.size + 1, 3, none⟩ = some x3 ∧ W'.cell? ⟨w.heap.size + 1 + 1, 0, none⟩ = some y0 ∧ W'.cell? ⟨w.heap.size + 1 + 1, 1, none⟩ = some y1 := by
  subst hW
  have g1 := set_at' (set_at' (set_at' (set_at' h1 0 x0) 1 x1) 2 x2) 3 x3
  have f1 := four_set W (w.heap.size + 1) x0 x1 x2 x3
  have f2 := two_set ((((W.setCell ⟨w.heap.size + 1, 0, none⟩ x0).setCell ⟨w.heap.size + 1, 1, none⟩ x1).setCell ⟨w.heap.size + 1, 2, none⟩ x2).setCell ⟨w.heap.size + 1, 3, none⟩ x3) (w.heap.size + 1 + 1) y0 y1
  have g2 := f1.blk h2 fun e => by have e : w.heap.size + 1 + 1 = w.heap.size + 1 := e; omega
  have g3 := f2.blk g1 fun e => by have e : w.heap.size + 1 = w.heap.size + 1 + 1 := e; omega
  have g4 := set_at' (set_at' g2 0 y0) 1 y1
  exact ⟨cell_at' g3 0 rfl, cell_at' g3 1 rfl, cell_at' g3 2 rfl, cell_at' g3 3 rfl, cell_at' g4 0 rfl, cell_at' g4 1 rfl⟩
set_option maxHeartbeats 8000000 in
set_option maxRecDepth 1000000 in
theorem r16ToVector_at {w0 : World} {v : Value} {st s : Option (List UInt8)} {u0 u1 u2 u3 : Int} (w : World) (h : RIn w0 w v st) (h0 : w0.heap.size ≤ w.heap.size) (hc : VecRes st u0 u1 u2 u3 s) :
    Calls Tryz.prog 66 #[.agg #[v, .bool st.isNone]] w (ToVecPost w0 w u0 u1 u2 u3 s) := by
  obtain ⟨a0, c0, rfl⟩ := h.shape
  obtain ⟨v0, v1, v2, v3, t1, t2, t3, t4, g0, g1, g2, g3⟩ := V4.total 9223372036854775807 st
  have HV4 := Lib.hid (show V4 9223372036854775807 st v0 v1 v2 v3 t4 from ⟨t1, t2, t3, g0, g1, g2, g3⟩)
  have HC := Lib.hid hc; clear hc
  have HG0 := Lib.hid (fun W v (hs : RIn w0 W v st) => rnum_at hs g0 (by decide) (by decide))
  have HG1 := Lib.hid (fun W v (hs : RIn w0 W v t1) => rnum_at hs g1 (by decide) (by decide))
  have HG2 := Lib.hid (fun W v (hs : RIn w0 W v t2) => rnum_at hs g2 (by decide) (by decide))
  have HG3 := Lib.hid (fun W v (hs : RIn w0 W v t3) => rnum_at hs g3 (by decide) (by decide))
  unfold RPost at HG0 HG1 HG2 HG3
  have HMY := Lib.hid (fun W => r7May_any W v0 v1 v2 v3)
  unfold vecV at HMY
  clear g0 g1 g2 g3
  obtain ⟨WB, hWB⟩ : ∃ W, W = (((w.alloc (.cells #[.slice a0 (leftOf st).length c0, .bool st.isNone] 51)).alloc (.cells #[.int .i64 0, .int .i64 0, .int .i64 0, .int .i64 0] 42)).alloc (.cells #[.slice none 0 0, .bool false] 51)).alloc (.cells #[.int .i64 0, .int .i64 0, .int .i64 0, .int .i64 0] 42) := ⟨_, rfl⟩
  obtain ⟨wR, hst, hk1, hk2, hkf, hsz, hsr⟩ := Stg.start4 h h0 _ _ _ _ hWB
  have HST := Lib.hid hst; clear hst
  have HK1 := Lib.hid hk1; clear hk1
  have HK2 := Lib.hid hk2; clear hk2
  have HKF := Lib.hid hkf; clear hkf hsz hsr
  have HH0 := Lib.hid h0; clear h0
  clear h
  have HRS := Lib.hid (fun (W : World) (f : Frm (Only w.heap.size) wR W) => (⟨f.blk HK1.out fun e => (by have e : w.heap.size + 1 = w.heap.size := e; omega), f.blk HK2.out fun e => (by have e : w.heap.size + 1 + 1 = w.heap.size := e; omega), HKF.out.trans f fun i hi e => (by have e : i = w.heap.size := e; omega)⟩ :
    W.heap[w.heap.size + 1]? = some (.cells #[.int .i64 0, .int .i64 0, .int .i64 0, .int .i64 0] 42 (0, 0)) ∧ W.heap[w.heap.size + 1 + 1]? = some (.cells #[.slice none 0 0, .bool false] 51 (0, 0)) ∧ Frm NoS w W))
  have HWB := Lib.hid (show ∀ bd L0, st.isNone = bd → (leftOf st).length = L0 → WB = (((w.alloc (.cells #[.slice a0 L0 c0, .bool bd] 51)).alloc (.cells #[.int .i64 0, .int .i64 0, .int .i64 0, .int .i64 0] 42)).alloc (.cells #[.slice none 0 0, .bool false] 51)).alloc (.cells #[.int .i64 0, .int .i64 0, .int .i64 0, .int .i64 0] 42) from fun _ _ h1 h2 => by subst h1 h2; exact hWB)
  clear hWB
  obtain ⟨bd, hbd⟩ : ∃ b, st.isNone = b := ⟨_, rfl⟩
  obtain ⟨L0, hL0⟩ : ∃ l, (leftOf st).length = l := ⟨_, rfl⟩
  have hwb := HWB.out bd L0 hbd hL0
  rw [hbd, hL0]
  have HWB2 := Lib.hid hwb; clear hwb HWB
  clear hbd hL0
  go_enter Tryz.func66, Tryz.ntmps66
  go_wp2_with fail
  rw [← HWB2.out]
  clear HWB2
  go_loopw [6] (fun j W => ∃ (J : Nat) (x0 x1 x2 x3 : Int) (t : Option (List UInt8)) (al : Option Addr) (cl : Nat), ((J = 0 ∧ x0 = 0 ∧ x1 = 0 ∧ x2 = 0 ∧ x3 = 0 ∧ t = st) ∨ (J = 1 ∧ x0 = v0 ∧ x1 = 0 ∧ x2 = 0 ∧ x3 = 0 ∧ t = t1) ∨ (J = 2 ∧ x0 = v0 ∧ x1 = v1 ∧ x2 = 0 ∧ x3 = 0 ∧ t = t2) ∨ (J = 3 ∧ x0 = v0 ∧ x1 = v1 ∧ x2 = v2 ∧ x3 = 0 ∧ t = t3) ∨ (J = 4 ∧ x0 = v0 ∧ x1 = v1 ∧ x2 = v2 ∧ x3 = v3 ∧ t = t4)) ∧ j = .int .i64 J ∧ Stg w0 w wR W (w.heap.size + 1 + 1 + 1) 42 #[.int .i64 x0, .int .i64 x1, .int .i64 x2, .int .i64 x3] (.slice al (leftOf t).length cl) t) (fun j _ => 4 - (intOf j).toNat)
  case atStart => exact ⟨0, 0, 0, 0, 0, st, a0, c0, .inl ⟨rfl, rfl, rfl, rfl, rfl, rfl⟩, rfl, HST.out⟩
  case round =>
    obtain ⟨J, x0, x1, x2, x3, t, al, cl, hcase, rfl, hs⟩ := hrel
    rcases hcase with ⟨rfl, rfl, rfl, rfl, rfl, rfl⟩ | ⟨rfl, rfl, rfl, rfl, rfl, rfl⟩ | ⟨rfl, rfl, rfl, rfl, rfl, rfl⟩ | ⟨rfl, rfl, rfl, rfl, rfl, rfl⟩ | ⟨rfl, rfl, rfl, rfl, rfl, rfl⟩
    · have HC1 := Lib.hid (HG0.out wr _ hs.rin)
      obtain ⟨y0, y1, -⟩ := hs.facts
      have HS := Lib.hid hs; clear hs HG0 HG1 HG2 HG3
      generalize (leftOf t).length = Lx at *
      generalize t.isNone = bx at *
      generalize hly : (leftOf t1).length = Ly at *
      generalize hby : t1.isNone = by' at *
      have HLY := Lib.hid hly; clear hly
      have HBY := Lib.hid hby; clear hby
      go_wp2_with (go_at_call 105; refine HC1.out.mono ?_; rintro e W1 ⟨a5, c5, rfl, hr5, hf5⟩; clear y0 y1; obtain ⟨z0, z1, z2, z3, z4, z5, z6, z7⟩ := (HS.out.call hf5).facts; have z8 := (HS.out.call hf5).free 0; have z9 := (HS.out.call hf5).cell 0 rfl; have HF5 := Lib.hid hf5; have HR5 := Lib.hid hr5; clear hf5 hr5)
      go_roundw
      case rel =>
        have e1 := HLY.out
        have e2 := HBY.out
        subst e1 e2
        exact ⟨1, _, _, _, _, t1, a5, c5, .inr (.inl ⟨rfl, rfl, rfl, rfl, rfl, rfl⟩), by go_num, HS.out.next HF5.out HR5.out 0 _⟩
      case measure => simp [intOf]
    · have HC1 := Lib.hid (HG1.out wr _ hs.rin)
      obtain ⟨y0, y1, -⟩ := hs.facts
      have HS := Lib.hid hs; clear hs HG0 HG1 HG2 HG3
      generalize (leftOf t).length = Lx at *
      generalize t.isNone = bx at *
      generalize hly : (leftOf t2).length = Ly at *
      generalize hby : t2.isNone = by' at *
      have HLY := Lib.hid hly; clear hly
      have HBY := Lib.hid hby; clear hby
      go_wp2_with (go_at_call 105; refine HC1.out.mono ?_; rintro e W1 ⟨a5, c5, rfl, hr5, hf5⟩; clear y0 y1; obtain ⟨z0, z1, z2, z3, z4, z5, z6, z7⟩ := (HS.out.call hf5).facts; have z8 := (HS.out.call hf5).free 1; have z9 := (HS.out.call hf5).cell 1 rfl; have HF5 := Lib.hid hf5; have HR5 := Lib.hid hr5; clear hf5 hr5)
      go_roundw
      case rel =>
        have e1 := HLY.out
        have e2 := HBY.out
        subst e1 e2
        exact ⟨2, _, _, _, _, t2, a5, c5, .inr (.inr (.inl ⟨rfl, rfl, rfl, rfl, rfl, rfl⟩)), by go_num, HS.out.next HF5.out HR5.out 1 _⟩
      case measure => simp [intOf]
    · have HC1 := Lib.hid (HG2.out wr _ hs.rin)
      obtain ⟨y0, y1, -⟩ := hs.facts
      have HS := Lib.hid hs; clear hs HG0 HG1 HG2 HG3
      generalize (leftOf t).length = Lx at *
      generalize t.isNone = bx at *
      generalize hly : (leftOf t3).length = Ly at *
      generalize hby : t3.isNone = by' at *
      have HLY := Lib.hid hly; clear hly
      have HBY := Lib.hid hby; clear hby
      go_wp2_with (go_at_call 105; refine HC1.out.mono ?_; rintro e W1 ⟨a5, c5, rfl, hr5, hf5⟩; clear y0 y1; obtain ⟨z0, z1, z2, z3, z4, z5, z6, z7⟩ := (HS.out.call hf5).facts; have z8 := (HS.out.call hf5).free 2; have z9 := (HS.out.call hf5).cell 2 rfl; have HF5 := Lib.hid hf5; have HR5 := Lib.hid hr5; clear hf5 hr5)
      go_roundw
      case rel =>
        have e1 := HLY.out
        have e2 := HBY.out
        subst e1 e2
        exact ⟨3, _, _, _, _, t3, a5, c5, .inr (.inr (.inr (.inl ⟨rfl, rfl, rfl, rfl, rfl, rfl⟩))), by go_num, HS.out.next HF5.out HR5.out 2 _⟩
      case measure => simp [intOf]
    · have HC1 := Lib.hid (HG3.out wr _ hs.rin)
      obtain ⟨y0, y1, -⟩ := hs.facts
      have HS := Lib.hid hs; clear hs HG0 HG1 HG2 HG3
      generalize (leftOf t).length = Lx at *
      generalize t.isNone = bx at *
      generalize hly : (leftOf t4).length = Ly at *
      generalize hby : t4.isNone = by' at *
      have HLY := Lib.hid hly; clear hly
      have HBY := Lib.hid hby; clear hby
      go_wp2_with (go_at_call 105; refine HC1.out.mono ?_; rintro e W1 ⟨a5, c5, rfl, hr5, hf5⟩; clear y0 y1; obtain ⟨z0, z1, z2, z3, z4, z5, z6, z7⟩ := (HS.out.call hf5).facts; have z8 := (HS.out.call hf5).free 3; have z9 := (HS.out.call hf5).cell 3 rfl; have HF5 := Lib.hid hf5; have HR5 := Lib.hid hr5; clear hf5 hr5)
      go_roundw
      case rel =>
        have e1 := HLY.out
        have e2 := HBY.out
        subst e1 e2
        exact ⟨4, _, _, _, _, t4, a5, c5, .inr (.inr (.inr (.inr (⟨rfl, rfl, rfl, rfl, rfl, rfl⟩)))), by go_num, HS.out.next HF5.out HR5.out 3 _⟩
      case measure => simp [intOf]
    · clear HG0 HG1 HG2 HG3
      cases t with
      | none =>
        obtain ⟨⟨rfl, rfl, rfl, rfl⟩, rfl⟩ := HC.out.det (vec_bad (by decide) (by decide) HV4.out (.inl rfl))
        obtain ⟨y0, y1, y2, y3, y4, y5, y6, y7⟩ := hs.facts1 (rfl : (none : Option (List UInt8)).isNone = true)
        have HS := Lib.hid hs; clear hs
        have q0 : wr.cell? ⟨w.heap.size + 1 + 1 + 1, 0, none⟩ = some (.int .i64 x0) := HS.out.cell 0 rfl
        have q1 : wr.cell? ⟨w.heap.size + 1 + 1 + 1, 1, none⟩ = some (.int .i64 x1) := HS.out.cell 1 rfl
        have q2 : wr.cell? ⟨w.heap.size + 1 + 1 + 1, 2, none⟩ = some (.int .i64 x2) := HS.out.cell 2 rfl
        have q3 : wr.cell? ⟨w.heap.size + 1 + 1 + 1, 3, none⟩ = some (.int .i64 x3) := HS.out.cell 3 rfl
        go_wp2_with (go_at_call 119; go_loud (refine (rbad_any _).mono ?_); rintro e w9 ⟨rfl, hf9⟩
                     clear y0 y1 y2 y3 y4 y5 y6 y7 q0 q1 q2 q3
                     obtain ⟨g1, g2, hfw⟩ := HRS.out w9 ((HS.out.call hf9).frm)
                     have x10 := cell_at' g1 0 rfl
                     have x11 := cell_at' g1 1 rfl
                     have x12 := cell_at' g1 2 rfl
                     have x13 := cell_at' g1 3 rfl
                     have f0 := free_at' g1 0
                     have f1 := free_at' g1 1
                     have f2 := free_at' g1 2
                     have f3 := free_at' g1 3
                     have hl1 := lt_of_block g1
                     have x14 := cell_at' g2 0 rfl
                     have x15 := cell_at' g2 1 rfl
                     have f4 := free_at' g2 0
                     have f5 := free_at' g2 1
                     have hl2 := lt_of_block g2
                     have G1 := Lib.hid g1; clear g1
                     have G2 := Lib.hid g2; clear g2
                     have HF9 := Lib.hid hfw
                     clear hf9 hfw)
        clear x10 x11 x12 x13 x14 x15 f0 f1 f2 f3 f4 f5 hl1 hl2
        obtain ⟨y0, y1, y2, y3, y4, y5⟩ := stores6_at (x0 := .int .i64 0) (x1 := .int .i64 0) (x2 := .int .i64 0) (x3 := .int .i64 0) (y0 := .slice none 0 0) (y1 := .bool true) G1.out G2.out _ rfl
        exact bodyPost_ret (v := .tuple #[.agg #[.int .i64 0, .int .i64 0, .int .i64 0, .int .i64 0], .agg #[.slice none 0 0, .bool true]]) (by simp [results, Tryz.results66, go_sem, y0, y1, y2, y3, y4, y5]) rfl (vecFin (a := none) (l := 0) (s := none) (RIn.bad w0 _) HH0.out HF9.out (stores6 w w9 _ _ _ _ _ _))
      | some r =>
        by_cases hmay : MayV (vecF x0 x1 x2 x3)
        · rw [tf_true hmay] at HMY
          obtain ⟨⟨rfl, rfl, rfl, rfl⟩, rfl⟩ := HC.out.det (vec_good HV4.out hmay)
          obtain ⟨y0, y1, y2, y3, y4, y5, y6, y7⟩ := hs.facts1 (rfl : (some r).isNone = false)
          have HS := Lib.hid hs; clear hs hmay
          simp only [show (leftOf (some r)).length = r.length from rfl] at y0
          have q0 : wr.cell? ⟨w.heap.size + 1 + 1 + 1, 0, none⟩ = some (.int .i64 u0) := HS.out.cell 0 rfl
          have q1 : wr.cell? ⟨w.heap.size + 1 + 1 + 1, 1, none⟩ = some (.int .i64 u1) := HS.out.cell 1 rfl
          have q2 : wr.cell? ⟨w.heap.size + 1 + 1 + 1, 2, none⟩ = some (.int .i64 u2) := HS.out.cell 2 rfl
          have q3 : wr.cell? ⟨w.heap.size + 1 + 1 + 1, 3, none⟩ = some (.int .i64 u3) := HS.out.cell 3 rfl
          go_wp2_with (go_at_call 24; go_loud (refine (HMY.out _).mono ?_); rintro e w3 ⟨rfl, hf3⟩
                       clear y0 y1 y2 y3 y4 y5 y6 y7 q0 q1 q2 q3
                       obtain ⟨y0, y1, y2, y3, y4, y5, y6, y7⟩ := (HS.out.call hf3).facts1 (rfl : (some r).isNone = false)
                       simp only [show (leftOf (some r)).length = r.length from rfl] at y0
                       have q0 : w3.cell? ⟨w.heap.size + 1 + 1 + 1, 0, none⟩ = some (.int .i64 u0) := (HS.out.call hf3).cell 0 rfl
                       have q1 : w3.cell? ⟨w.heap.size + 1 + 1 + 1, 1, none⟩ = some (.int .i64 u1) := (HS.out.call hf3).cell 1 rfl
                       have q2 : w3.cell? ⟨w.heap.size + 1 + 1 + 1, 2, none⟩ = some (.int .i64 u2) := (HS.out.call hf3).cell 2 rfl
                       have q3 : w3.cell? ⟨w.heap.size + 1 + 1 + 1, 3, none⟩ = some (.int .i64 u3) := (HS.out.call hf3).cell 3 rfl
                       obtain ⟨g1, g2, hfw⟩ := HRS.out w3 ((HS.out.call hf3).frm)
                       have x10 := cell_at' g1 0 rfl
                       have x11 := cell_at' g1 1 rfl
                       have x12 := cell_at' g1 2 rfl
                       have x13 := cell_at' g1 3 rfl
                       have f0 := free_at' g1 0
                       have f1 := free_at' g1 1
                       have f2 := free_at' g1 2
                       have f3 := free_at' g1 3
                       have hl1 := lt_of_block g1
                       have x14 := cell_at' g2 0 rfl
                       have x15 := cell_at' g2 1 rfl
                       have f4 := free_at' g2 0
                       have f5 := free_at' g2 1
                       have hl2 := lt_of_block g2
                       have G1 := Lib.hid g1; clear g1
                       have G2 := Lib.hid g2; clear g2
                       have HFW := Lib.hid hfw
                       have HS3 := Lib.hid (HS.out.call hf3)
                       clear hf3 hfw)
          go_region
          all_goals
            clear x10 x11 x12 x13 x14 x15 f0 f1 f2 f3 f4 f5 hl1 hl2
            clear y0 y1 y2 y3 y4 y5 y6 y7 q0 q1 q2 q3
            obtain ⟨y0, y1, y2, y3, y4, y5⟩ := stores6_at (x0 := .int .i64 u0) (x1 := .int .i64 u1) (x2 := .int .i64 u2) (x3 := .int .i64 u3) (y0 := .slice al r.length cl) (y1 := .bool false) G1.out G2.out _ rfl
            go_wp2
            exact bodyPost_ret (v := .tuple #[.agg #[.int .i64 u0, .int .i64 u1, .int .i64 u2, .int .i64 u3], .agg #[.slice al r.length cl, .bool false]]) (by simp [results, Tryz.results66, go_sem, y0, y1, y2, y3, y4, y5]) rfl (vecFin (s := some r) HS3.out.rin HH0.out HFW.out ((stores6 w w3 _ _ _ _ _ _).then1 (Frm.drew NoS _)))
        · rw [tf_false hmay] at HMY
          obtain ⟨⟨rfl, rfl, rfl, rfl⟩, rfl⟩ := HC.out.det (vec_bad (by decide) (by decide) HV4.out (.inr hmay))
          obtain ⟨y0, y1, y2, y3, y4, y5, y6, y7⟩ := hs.facts1 (rfl : (some r).isNone = false)
          have HS := Lib.hid hs; clear hs hmay
          have q0 : wr.cell? ⟨w.heap.size + 1 + 1 + 1, 0, none⟩ = some (.int .i64 x0) := HS.out.cell 0 rfl
          have q1 : wr.cell? ⟨w.heap.size + 1 + 1 + 1, 1, none⟩ = some (.int .i64 x1) := HS.out.cell 1 rfl
          have q2 : wr.cell? ⟨w.heap.size + 1 + 1 + 1, 2, none⟩ = some (.int .i64 x2) := HS.out.cell 2 rfl
          have q3 : wr.cell? ⟨w.heap.size + 1 + 1 + 1, 3, none⟩ = some (.int .i64 x3) := HS.out.cell 3 rfl
          go_wp2_with (first
            | (go_at_call 24; go_loud (refine (HMY.out _).mono ?_); rintro e w3 ⟨rfl, hf3⟩; have HF3 := Lib.hid hf3; clear hf3)
            | (go_at_call 119; go_loud (refine (rbad_any _).mono ?_); rintro e w9 ⟨rfl, hf9⟩
               clear y0 y1 y2 y3 y4 y5 y6 y7 q0 q1 q2 q3
               obtain ⟨g1, g2, hfw⟩ := HRS.out w9 (((HS.out.call HF3.out).call hf9).frm)
               have x10 := cell_at' g1 0 rfl
               have x11 := cell_at' g1 1 rfl
               have x12 := cell_at' g1 2 rfl
               have x13 := cell_at' g1 3 rfl
               have f0 := free_at' g1 0
               have f1 := free_at' g1 1
               have f2 := free_at' g1 2
               have f3 := free_at' g1 3
               have hl1 := lt_of_block g1
               have x14 := cell_at' g2 0 rfl
               have x15 := cell_at' g2 1 rfl
               have f4 := free_at' g2 0
               have f5 := free_at' g2 1
               have hl2 := lt_of_block g2
               have G1 := Lib.hid g1; clear g1
               have G2 := Lib.hid g2; clear g2
               have HF9 := Lib.hid hfw
               clear hf9 hfw))
          clear x10 x11 x12 x13 x14 x15 f0 f1 f2 f3 f4 f5 hl1 hl2
          obtain ⟨y0, y1, y2, y3, y4, y5⟩ := stores6_at (x0 := .int .i64 0) (x1 := .int .i64 0) (x2 := .int .i64 0) (x3 := .int .i64 0) (y0 := .slice none 0 0) (y1 := .bool true) G1.out G2.out _ rfl
          exact bodyPost_ret (v := .tuple #[.agg #[.int .i64 0, .int .i64 0, .int .i64 0, .int .i64 0], .agg #[.slice none 0 0, .bool true]]) (by simp [results, Tryz.results66, go_sem, y0, y1, y2, y3, y4, y5]) rfl (vecFin (a := none) (l := 0) (s := none) (RIn.bad w0 _) HH0.out HF9.out (stores6 w w9 _ _ _ _ _ _))
end Go.Proofs.YtggfoihfenlckaaGreat
/- tributaryref15: Short; tributaryref16: SameOp of what is alike: the walks. -/
namespace Go.Proofs.YtggfoihfenlckaaGreat
open Go.RowKit
theorem pair4 (w : World) (a0 a1 a2 a3 b0 b1 b2 b3 : Value) (T : TypeId) (W : World) (f : Frm NoS ((w.alloc (.cells #[a0, a1, a2, a3] T)).alloc (.cells #[b0, b1, b2, b3] T)) W) :
    (W.cell? ⟨w.heap.size, 0, none⟩ = some a0 ∧ W.cell? ⟨w.heap.size, 1, none⟩ = some a1 ∧ W.cell? ⟨w.heap.size, 2, none⟩ = some a2 ∧ W.cell? ⟨w.heap.size, 3, none⟩ = some a3) ∧
    (W.cell? ⟨w.heap.size + 1, 0, none⟩ = some b0 ∧ W.cell? ⟨w.heap.size + 1, 1, none⟩ = some b1 ∧ W.cell? ⟨w.heap.size + 1, 2, none⟩ = some b2 ∧ W.cell? ⟨w.heap.size + 1, 3, none⟩ = some b3) := by
  have h1 := f.blk ((Frm.alloc NoS (w.alloc (.cells #[a0, a1, a2, a3] T)) (.cells #[b0, b1, b2, b3] T)).blk (heap_alloc_new w _) id) id
  have h2 := f.blk (heap_alloc_new (w.alloc (.cells #[a0, a1, a2, a3] T)) (.cells #[b0, b1, b2, b3] T)) id
  rw [show (w.alloc (.cells #[a0, a1, a2, a3] T)).heap.size = w.heap.size + 1 by simp] at h2
  exact ⟨⟨cell_at' h1 0 rfl, cell_at' h1 1 rfl, cell_at' h1 2 rfl, cell_at' h1 3 rfl⟩, ⟨cell_at' h2 0 rfl, cell_at' h2 1 rfl, cell_at' h2 2 rfl, cell_at' h2 3 rfl⟩⟩
set_option maxHeartbeats 4000000 in
set_option maxRecDepth 1000000 in
theorem r16SameOp_same (ss : List ByteArray) (a n : Int) (s : ByteArray) (w : World) (v v' : Value) (h : StrsAt w v ss) (h' : StrsAt w v' ss) (hl : ss.length ≤ 100000) :
    Calls Tryz.prog 31 #[.agg #[v, .int .i64 a, .string s, .int .i64 n], .agg #[v', .int .i64 a, .string s, .int .i64 n]] w fun e w' => e = .returned (.bool true) ∧ Frm NoS w w' := by
  have HBX := Lib.hid (pair4 w v (.int .i64 a) (.string s) (.int .i64 n) v' (.int .i64 a) (.string s) (.int .i64 n) 40)
  obtain ⟨a0, c0, rfl⟩ := h.sl
  obtain ⟨a1, c1, rfl⟩ := h'.sl
  have HS := Lib.hid (show Rd w (.slice a0 ss.length c0) ss.length (ss.map Value.string) from h); clear h
  have HS' := Lib.hid (show Rd w (.slice a1 ss.length c1) ss.length (ss.map Value.string) from h'); clear h'
  generalize hm : ss.length = m at *
  have HM := Lib.hid hm; clear hm
  have HFA := Lib.hid ((Frm.alloc NoS w (.cells #[.slice a0 m c0, .int .i64 a, .string s, .int .i64 n] 40)).alloc1 (o := .cells #[.slice a1 m c1, .int .i64 a, .string s, .int .i64 n] 40))
  go_enter Tryz.func31, Tryz.ntmps31
  go_wp2
  go_loopw [37] (fun i W => ∃ k : Nat, k ≤ m ∧ i = .int .i64 k ∧ Frm NoS ((w.alloc (.cells #[.slice a0 m c0, .int .i64 a, .string s, .int .i64 n] 40)).alloc (.cells #[.slice a1 m c1, .int .i64 a, .string s, .int .i64 n] 40)) W) (fun i _ => m - (intOf i).toNat)
  case atStart => exact ⟨0, Nat.zero_le _, rfl, Frm.refl _ _⟩
  case round =>
    obtain ⟨k, hk, rfl, hw⟩ := hrel
    obtain ⟨⟨y0, -⟩, ⟨z0, -⟩⟩ := HBX.out wr hw
    have HW := Lib.hid hw; clear hw
    by_cases hlt : k < m
    · have hlk : k < ss.length := by rw [HM.out]; exact hlt
      rcases Rd.shape HS.out with ⟨ad, he, h0⟩ | ⟨b, off, cc, he, hmax⟩
      · exfalso; omega
      rcases Rd.shape HS'.out with ⟨ad, he', h0⟩ | ⟨b', off', cc', he', hmax'⟩
      · exfalso; omega
      injection he with e1 e2 e3
      injection he' with e4 e5 e6
      subst e1 e3 e4 e6
      clear e2 e5
      have q0 := (HFA.out.then1 HW.out).cell' (str_at HS.out k hlk) id
      have q1 := (HFA.out.then1 HW.out).cell' (str_at HS'.out k hlk) id
      generalize ss.getD k ByteArray.empty = x at *
      go_wp2_with fail
      go_quiet (fail)
      go_wp2
      go_roundw
      case rel => exact ⟨k + 1, by omega, by go_num, HW.out.drewN1⟩
      case measure => simp [intOf]; omega
    · obtain rfl : m = k := by omega
      go_wp2
      go_ret
      exact ⟨rfl, HFA.out.then1 HW.out⟩
end Go.Proofs.YtggfoihfenlckaaGreat