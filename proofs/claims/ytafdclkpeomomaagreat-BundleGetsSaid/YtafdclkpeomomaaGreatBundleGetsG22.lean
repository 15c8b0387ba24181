/- Words for the law BundleGets: VecEq, Same2, BunEnc, PackVec. -/
import Derived.Test.YtafdclkpeomomaaGreatBundleGetsG3
import Derived.Test.YtafdclkpeomomaaGreatBundleGetsG16
import Derived.Test.YtafdclkpeomomaaGreatBundleGetsG18
import Derived.Test.YtafdclkpeomomaaGreatBundleGetsG19
import Derived.Test.YtafdclkpeomomaaGreatBundleGetsG21
import Derived.ChangeKeysEq
set_option linter.unusedSimpArgs false
set_option linter.unusedVariables false
/- Two vectors compared. -/
namespace Go.Proofs.YtafdclkpeomomaaGreat
open Go.RowKit

theorem Tryz.vec_cells : Tryz.prog.cellsOf 2 = 1 := by kernel_rfl
theorem i64_eql (d : Nat) (a b : Int) (W : World) : (Op.equalIn (d + 1) 2 (.int .i64 a) (.int .i64 b)).run Tryz.prog W = .ok (a == b) W := by
  simp [Op.equalIn, run_underlying Tryz.underlying2]
theorem part_i64 (xs : Array Value) (k : Nat) (v : Value) (h : xs[k]? = some v) (W : World) : (part 2 xs k).run Tryz.prog W = .ok v W := by
  obtain ⟨i0, hi, hz0, hz1, hz2⟩ := info_parts info_i64
  simp [part, go_sem, h]
theorem items_step (d : Nat) (xs ys : Array Value) (i : Nat) (is : List Nat) (a b : Int) (hx : xs[i]? = some (.int .i64 a)) (hy : ys[i]? = some (.int .i64 b)) (W : World) :
    (Op.eqItems (d + 1) 2 1 xs ys (i :: is)).run Tryz.prog W = if a = b then (Op.eqItems (d + 1) 2 1 xs ys is).run Tryz.prog W else .ok false W := by
  have h1 := part_i64 xs i _ hx
  have h2 := part_i64 ys i _ hy
  rw [Op.eqItems]
  simp only [Sem.run_bind, Nat.mul_one, h1, h2, Result.andThen_ok, i64_eql]
  by_cases h : a = b
  · rw [if_pos h]; subst h; simp
  · rw [if_neg h]
    have : (a == b) = false := by simpa using h
    rw [this]; simp
set_option maxRecDepth 100000 in
theorem vec_equal (a0 a1 a2 a3 b0 b1 b2 b3 : Int) (W : World) : (Op.equal 49 (.agg #[.int .i64 a0, .int .i64 a1, .int .i64 a2, .int .i64 a3]) (.agg #[.int .i64 b0, .int .i64 b1, .int .i64 b2, .int .i64 b3])).run Tryz.prog W = .ok ((a0 == b0) && ((a1 == b1) && ((a2 == b2) && (a3 == b3)))) W := by
  obtain ⟨i0, hi, hz0, hz1, hz2⟩ := info_parts info_i64
  unfold Op.equal
  obtain ⟨d, hd⟩ : ∃ d, Op.maxDepth = d + 1 + 1 := ⟨Op.maxDepth - 2, rfl⟩
  rw [hd, run_equalIn_array (d := d + 1) (hu := Tryz.underlying49) (hi := hi), Tryz.vec_cells, show List.range 4 = [0, 1, 2, 3] from rfl]
  rw [items_step d _ _ 0 _ a0 b0 rfl rfl, items_step d _ _ 1 _ a1 b1 rfl rfl, items_step d _ _ 2 _ a2 b2 rfl rfl, items_step d _ _ 3 _ a3 b3 rfl rfl]
  by_cases h0 : a0 = b0 <;> by_cases h1 : a1 = b1 <;> by_cases h2 : a2 = b2 <;> by_cases h3 : a3 = b3 <;> simp [h0, h1, h2, h3, Op.eqItems]
theorem vec_eql (a0 a1 a2 a3 b0 b1 b2 b3 : Int) (W : World) : (binOp .eql 49 (.agg #[.int .i64 a0, .int .i64 a1, .int .i64 a2, .int .i64 a3]) (.agg #[.int .i64 b0, .int .i64 b1, .int .i64 b2, .int .i64 b3])).run Tryz.prog W = .ok (.bool ((a0 == b0) && ((a1 == b1) && ((a2 == b2) && (a3 == b3))))) W := by
  simp [binOp, vec_equal]
theorem vec_same (a0 a1 a2 a3 : Int) (W : World) : (binOp .eql 49 (.agg #[.int .i64 a0, .int .i64 a1, .int .i64 a2, .int .i64 a3]) (.agg #[.int .i64 a0, .int .i64 a1, .int .i64 a2, .int .i64 a3])).run Tryz.prog W = .ok (.bool true) W := by
  rw [vec_eql]; simp
end Go.Proofs.YtafdclkpeomomaaGreat

/- bundle: Same: the walk. Printed by wip/samegen.py. -/
namespace Go.Proofs.YtafdclkpeomomaaGreat
open Go.RowKit

theorem pair10 (w : World) (u0 u1 u2 u3 u4 u5 u6 u7 u8 u9 x0 x1 x2 x3 x4 x5 x6 x7 x8 x9 : Value) (T : TypeId) (W : World) (f : Frm NoS ((w.alloc (.cells #[u0, u1, u2, u3, u4, u5, u6, u7, u8, u9] T)).alloc (.cells #[x0, x1, x2, x3, x4, x5, x6, x7, x8, x9] T)) W) :
    (W.cell? ⟨w.heap.size, 0, none⟩ = some u0 ∧ W.cell? ⟨w.heap.size, 1, none⟩ = some u1 ∧ W.cell? ⟨w.heap.size, 2, none⟩ = some u2 ∧ W.cell? ⟨w.heap.size, 3, none⟩ = some u3 ∧ W.cell? ⟨w.heap.size, 4, none⟩ = some u4 ∧ W.cell? ⟨w.heap.size, 5, none⟩ = some u5 ∧ W.cell? ⟨w.heap.size, 6, none⟩ = some u6 ∧ W.cell? ⟨w.heap.size, 7, none⟩ = some u7 ∧ W.cell? ⟨w.heap.size, 8, none⟩ = some u8 ∧ W.cell? ⟨w.heap.size, 9, none⟩ = some u9) ∧ W.cell? ⟨w.heap.size + 1, 0, none⟩ = some x0 ∧ W.cell? ⟨w.heap.size + 1, 1, none⟩ = some x1 ∧ W.cell? ⟨w.heap.size + 1, 2, none⟩ = some x2 ∧ W.cell? ⟨w.heap.size + 1, 3, none⟩ = some x3 ∧ W.cell? ⟨w.heap.size + 1, 4, none⟩ = some x4 ∧ W.cell? ⟨w.heap.size + 1, 5, none⟩ = some x5 ∧ W.cell? ⟨w.heap.size + 1, 6, none⟩ = some x6 ∧ W.cell? ⟨w.heap.size + 1, 7, none⟩ = some x7 ∧ W.cell? ⟨w.heap.size + 1, 8, none⟩ = some x8 ∧ W.cell? ⟨w.heap.size + 1, 9, none⟩ = some x9 := by
  obtain ⟨h1, _, _⟩ := two_blocks w (.cells #[u0, u1, u2, u3, u4, u5, u6, u7, u8, u9] T) #[x0, x1, x2, x3, x4, x5, x6, x7, x8, x9] T
  exact ⟨box10 w u0 u1 u2 u3 u4 u5 u6 u7 u8 u9 T W ((Frm.alloc NoS _ _).then1 f), f.cell' (cell_at' h1 0 rfl) id, f.cell' (cell_at' h1 1 rfl) id, f.cell' (cell_at' h1 2 rfl) id, f.cell' (cell_at' h1 3 rfl) id, f.cell' (cell_at' h1 4 rfl) id, f.cell' (cell_at' h1 5 rfl) id, f.cell' (cell_at' h1 6 rfl) id, f.cell' (cell_at' h1 7 rfl) id, f.cell' (cell_at' h1 8 rfl) id, f.cell' (cell_at' h1 9 rfl) id⟩
/-- Are two bundles alike? -/
def BunEq (dc af la v0 v1 v2 v3 dc' af' la' v0' v1' v2' v3' : Int) (es : List Ent) (ks : KidsL) (c : CtxL) (es' : List Ent) (ks' : KidsL) (c' : CtxL) : Prop :=
  dc = dc' ∧ af = af' ∧ la = la' ∧ (v0 = v0' ∧ v1 = v1' ∧ v2 = v2' ∧ v3 = v3') ∧ (es = es' ∧ ks = ks') ∧ c = c'
theorem BunRight.cau {dc af la : Int} {f : Int → Int} {es : List Ent} {ks : KidsL} {c : CtxL} (h : BunRight dc af la f es ks c) : CauRight es ks c := ⟨h.tree, h.ctx, h.dots⟩
theorem vec_eq_true {a0 a1 a2 a3 b0 b1 b2 b3 : Int} (h : a0 = b0 ∧ a1 = b1 ∧ a2 = b2 ∧ a3 = b3) (W : World) : (binOp .eql 49 (.agg #[.int .i64 a0, .int .i64 a1, .int .i64 a2, .int .i64 a3]) (.agg #[.int .i64 b0, .int .i64 b1, .int .i64 b2, .int .i64 b3])).run Tryz.prog W = .ok (.bool true) W := by
  rw [vec_eql]; simp [h.1, h.2.1, h.2.2.1, h.2.2.2]
theorem vec_eq_false {a0 a1 a2 a3 b0 b1 b2 b3 : Int} (h : ¬ (a0 = b0 ∧ a1 = b1 ∧ a2 = b2 ∧ a3 = b3)) (W : World) : (binOp .eql 49 (.agg #[.int .i64 a0, .int .i64 a1, .int .i64 a2, .int .i64 a3]) (.agg #[.int .i64 b0, .int .i64 b1, .int .i64 b2, .int .i64 b3])).run Tryz.prog W = .ok (.bool false) W := by
  rw [vec_eql]
  have : ((a0 == b0) && ((a1 == b1) && ((a2 == b2) && (a3 == b3)))) = false := by
    rw [Bool.eq_false_iff]
    intro e
    simp only [Bool.and_eq_true, beq_iff_eq] at e
    exact h e
  rw [this]
end Go.Proofs.YtafdclkpeomomaaGreat

/- Bytes of bundles: the plain law. -/
namespace Go.Proofs.YtafdclkpeomomaaGreat
open Go.RowKit

def encB (dc af la v0 v1 v2 v3 : Int) (es : List Ent) (ks : KidsL) (c : CtxL) : List UInt8 := numB dc ++ (numB af ++ (numB la ++ (encV v0 v1 v2 v3 ++ encX es ks c)))
/-- A bundle's parts. -/
structure BunD where
  dc : Int
  af : Int
  la : Int
  v0 : Int
  v1 : Int
  v2 : Int
  v3 : Int
  es : List Ent
  ks : KidsL
  c : CtxL
def BunD.enc (b : BunD) : List UInt8 := encB b.dc b.af b.la b.v0 b.v1 b.v2 b.v3 b.es b.ks b.c
def BunD.right (b : BunD) : Prop := BunRight b.dc b.af b.la (vecF b.v0 b.v1 b.v2 b.v3) b.es b.ks b.c
def BunD.zero : BunD := ⟨0, 0, 0, 0, 0, 0, 0, [], .nil, []⟩
theorem encB_pfx {a b : BunD} {x y : List UInt8} (h : a.enc ++ x = b.enc ++ y) : a = b ∧ x = y := by
  unfold BunD.enc encB at h
  simp only [List.append_assoc] at h
  replace h := numB_prefix h
  obtain ⟨h1, h⟩ := h
  replace h := numB_prefix h
  obtain ⟨h2, h⟩ := h
  replace h := numB_prefix h
  obtain ⟨h3, h⟩ := h
  replace h := encV_pfx h
  obtain ⟨⟨h4, h5, h6, h7⟩, h⟩ := h
  replace h := encX_pfx h
  obtain ⟨⟨⟨h8, h9⟩, h10⟩, h⟩ := h
  cases a
  cases b
  simp only at h1 h2 h3 h4 h5 h6 h7 h8 h9 h10
  subst h1 h2 h3 h4 h5 h6 h7 h8 h9 h10
  exact ⟨rfl, h⟩
def BunRes (st : Option (List UInt8)) (b : BunD) (s : Option (List UInt8)) : Prop :=
  (∃ rest, st = some (b.enc ++ rest) ∧ b.right ∧ s = some rest) ∨ (s = none ∧ b = BunD.zero ∧ ∀ (b' : BunD) rest, st = some (b'.enc ++ rest) → ¬ b'.right)
theorem BunRes.det {st s s' : Option (List UInt8)} {a b : BunD} (h : BunRes st a s) (k : BunRes st b s') : a = b ∧ s = s' := by
  rcases h with ⟨r, h1, h2, h3⟩ | ⟨h1, h2, h3⟩ <;> rcases k with ⟨r', k1, k2, k3⟩ | ⟨k1, k2, k3⟩
  · rw [h1] at k1
    injection k1 with k1
    obtain ⟨e, rfl⟩ := encB_pfx k1
    exact ⟨e, by rw [h3, k3]⟩
  · exact absurd h2 (k3 _ _ h1)
  · exact absurd k2 (h3 _ _ k1)
  · exact ⟨by rw [h2, k2], by rw [h1, k1]⟩
theorem BunRes.total (st : Option (List UInt8)) : ∃ b s, BunRes st b s := by
  by_cases h : ∃ (b : BunD) (rest : List UInt8), st = some (b.enc ++ rest) ∧ b.right
  · obtain ⟨b, rest, h1, h2⟩ := h
    exact ⟨b, some rest, .inl ⟨rest, h1, h2, rfl⟩⟩
  · exact ⟨BunD.zero, none, .inr ⟨rfl, rfl, fun b rest h1 h2 => h ⟨b, rest, h1, h2⟩⟩⟩
theorem bun_good {m1 m2 : Int} {st s1 s2 s3 s4 : Option (List UInt8)} {b : BunD} {r : List UInt8} (h1 : NumStep st m1 b.dc s1) (h2 : NumStep s1 m2 b.af s2) (h3 : NumStep s2 m2 b.la s3) (h4 : VecRes s3 b.v0 b.v1 b.v2 b.v3 s4) (h5 : CauRes s4 b.es b.ks b.c (some r)) (hr : b.right) : BunRes st b (some r) := by
  rcases h5 with ⟨r', rfl, _, h⟩ | ⟨h, _⟩
  · injection h with h; subst h
    rcases h4 with ⟨r2, rfl, _, h⟩ | ⟨h, _⟩
    · injection h with h; subst h
      obtain ⟨rfl, _⟩ := num_good h3
      obtain ⟨rfl, _⟩ := num_good h2
      obtain ⟨rfl, _⟩ := num_good h1
      exact .inl ⟨r, by unfold BunD.enc encB; simp only [List.append_assoc], hr, rfl⟩
    · cases h
  · cases h
theorem bun_bad {m1 m2 : Int} (hm1 : 4 ≤ m1) (hm1' : m1 ≤ 9223372036854775807) (hm2 : 1099511627776 ≤ m2) (hm2' : m2 ≤ 9223372036854775807) {st s1 s2 s3 s4 s5 : Option (List UInt8)} {b : BunD} (h1 : NumStep st m1 b.dc s1) (h2 : NumStep s1 m2 b.af s2) (h3 : NumStep s2 m2 b.la s3) (h4 : VecRes s3 b.v0 b.v1 b.v2 b.v3 s4) (h5 : CauRes s4 b.es b.ks b.c s5)
    (hb : s5 = none ∨ ¬ b.right) : BunRes st BunD.zero none := by
  refine .inr ⟨rfl, rfl, fun b' rest hs hr => ?_⟩
  subst hs
  have hn := BunRight.nums hr
  obtain ⟨n1, n2, n3, n4, n5, n6, n7⟩ := hn
  unfold BunD.enc encB at h1
  simp only [List.append_assoc] at h1
  obtain ⟨e1, rfl⟩ := h1.det (num_make _ ⟨by omega, by omega⟩ hm1')
  obtain ⟨e2, rfl⟩ := h2.det (num_make _ ⟨by omega, by omega⟩ hm2')
  obtain ⟨e3, rfl⟩ := h3.det (num_make _ ⟨by omega, by omega⟩ hm2')
  obtain ⟨⟨e4, e5, e6, e7⟩, rfl⟩ := h4.det (VecRes.make _ n7)
  obtain ⟨⟨⟨e8, e9⟩, e10⟩, rfl⟩ := h5.det (CauRes.make _ (BunRight.cau hr))
  rcases hb with hb | hb
  · cases hb
  · cases b
    cases b'
    simp only at e1 e2 e3 e4 e5 e6 e7 e8 e9 e10
    subst e1 e2 e3 e4 e5 e6 e7 e8 e9 e10
    exact hb hr
end Go.Proofs.YtafdclkpeomomaaGreat

/- pack: GetVector: the walk. Printed by wip/vecgen.py. -/
namespace Go.Proofs.YtafdclkpeomomaaGreat
open Go.RowKit

theorem four_set (w : World) (b : Nat) (u0 u1 u2 u3 : Value) : Frm (Only b) w ((((w.setCell ⟨b, 0, none⟩ u0).setCell ⟨b, 1, none⟩ u1).setCell ⟨b, 2, none⟩ u2).setCell ⟨b, 3, none⟩ u3) := ((two_set w b u0 u1).trans (only_set _ b 2 u2) fun _ _ h => h).trans (only_set _ b 3 u3) fun _ _ h => h
theorem four_cells {w : World} {b : Nat} {a0 a1 a2 a3 : Value} {T : TypeId} (h : w.heap[b]? = some (.cells #[a0, a1, a2, a3] T (0, 0))) (u0 u1 u2 u3 : Value) (W : World) (hW : W = (((w.setCell ⟨b, 0, none⟩ u0).setCell ⟨b, 1, none⟩ u1).setCell ⟨b, 2, none⟩ u2).setCell ⟨b, 3, none⟩ u3) :
    W.cell? ⟨b, 0, none⟩ = some u0 ∧ W.cell? ⟨b, 1, none⟩ = some u1 ∧ W.cell? ⟨b, 2, none⟩ = some u2 ∧ W.cell? ⟨b, 3, none⟩ = some u3 := by
  subst hW
  have g := set_at' (set_at' (set_at' (set_at' h 0 u0) 1 u1) 2 u2) 3 u3
  exact ⟨cell_at' g 0 rfl, cell_at' g 1 rfl, cell_at' g 2 rfl, cell_at' g 3 rfl⟩
/-- The In, the array that is filled, the result's block. -/
structure GV (w W : World) (ib : Nat) (t : Option (List UInt8)) (cs : Array Value) : Prop where
  ins : InSt W ib t
  arr : W.heap[w.heap.size + 1]? = some (.cells cs 49 (0, 0))
  res : W.heap[w.heap.size]? = some (.cells #[.int .i64 0, .int .i64 0, .int .i64 0, .int .i64 0] 49 (0, 0))
  frm : Frm (Only ib) w W
  hib : ib < w.heap.size
theorem GV.call {w W W1 : World} {ib : Nat} {t t' : Option (List UInt8)} {cs : Array Value} (h : GV w W ib t cs) (hi : InSt W1 ib t') (f : Frm (Only ib) W W1) : GV w W1 ib t' cs :=
  ⟨hi, f.blk h.arr fun e => (by have e : w.heap.size + 1 = ib := e; have := h.hib; omega), f.blk h.res fun e => (by have e : w.heap.size = ib := e; have := h.hib; omega), h.frm.trans f fun _ _ s => s, h.hib⟩
theorem GV.set {w W : World} {ib : Nat} {t : Option (List UInt8)} {cs : Array Value} (h : GV w W ib t cs) (j : Nat) (u : Value) : GV w (W.setCell ⟨w.heap.size + 1, j, none⟩ u) ib t (cs.setIfInBounds j u) :=
  have f := only_set W (w.heap.size + 1) j u
  ⟨h.ins.keep f fun k hk e => (by have e : k = w.heap.size + 1 := e; have := h.hib; omega), set_at' h.arr j u, f.blk h.res fun e => (by have e : w.heap.size = w.heap.size + 1 := e; omega), h.frm.trans f fun i hi e => (by have e : i = w.heap.size + 1 := e; omega), h.hib⟩
def VecTk (v0 v1 v2 v3 : Int) (s : Option (List UInt8)) (ib : Nat) (w : World) (e : Ending) (w' : World) : Prop :=
  e = .returned (.agg #[.int .i64 v0, .int .i64 v1, .int .i64 v2, .int .i64 v3]) ∧ InSt w' ib s ∧ Frm (Only ib) w w'
theorem GV.out {w W : World} {ib : Nat} {s : Option (List UInt8)} {cs : Array Value} (h : GV w W ib s cs) (v0 v1 v2 v3 : Int) (W' : World) (f : Frm (Only w.heap.size) W W') : VecTk v0 v1 v2 v3 s ib w (.returned (.agg #[.int .i64 v0, .int .i64 v1, .int .i64 v2, .int .i64 v3])) W' :=
  ⟨rfl, h.ins.keep f fun k hk e => (by have e : k = w.heap.size := e; have := h.hib; omega), h.frm.trans f fun i hi e => (by have e : i = w.heap.size := e; omega)⟩
set_option maxHeartbeats 4000000 in
set_option maxRecDepth 1000000 in
theorem pGetVector_at (ib : Nat) (st s : Option (List UInt8)) (u0 u1 u2 u3 : Int) (w : World) (hc : VecRes st u0 u1 u2 u3 s) (h : InSt w ib st) :
    Calls Tryz.prog 42 #[.pointer (some ⟨ib, 0, none⟩)] w (VecTk u0 u1 u2 u3 s ib w) := by
  obtain ⟨v0, v1, v2, v3, t1, t2, t3, t4, g0, g1, g2, g3⟩ := V4.total 1099511627776 st
  have HV4 := Lib.hid (show V4 1099511627776 st v0 v1 v2 v3 t4 from ⟨t1, t2, t3, g0, g1, g2, g3⟩)
  have HC := Lib.hid hc; clear hc
  have HG0 := Lib.hid g0
  have HG1 := Lib.hid g1
  have HG2 := Lib.hid g2
  have HG3 := Lib.hid g3
  have HFU := Lib.hid (fun W => cFull_any W v0 v1 v2 v3)
  unfold vecV at HFU
  clear g0 g1 g2 g3
  have hb1 := heap_alloc_new (w.alloc (.cells #[.int .i64 0, .int .i64 0, .int .i64 0, .int .i64 0] 49)) (.cells #[.int .i64 0, .int .i64 0, .int .i64 0, .int .i64 0] 49)
  rw [show (w.alloc (.cells #[.int .i64 0, .int .i64 0, .int .i64 0, .int .i64 0] 49)).heap.size = w.heap.size + 1 by simp] at hb1
  have HST := Lib.hid (show GV w ((w.alloc (.cells #[.int .i64 0, .int .i64 0, .int .i64 0, .int .i64 0] 49)).alloc (.cells #[.int .i64 0, .int .i64 0, .int .i64 0, .int .i64 0] 49)) ib st #[.int .i64 0, .int .i64 0, .int .i64 0, .int .i64 0] from
    ⟨(h.keep (Frm.alloc NoS _ _) fun _ _ => id).keep (Frm.alloc NoS _ _) fun _ _ => id, hb1, (Frm.alloc NoS _ _).blk (heap_alloc_new w _) id, ((Frm.alloc NoS w _).alloc1).mono fun _ _ s => s.elim, h.lt⟩)
  clear h hb1
  go_enter Tryz.func42, Tryz.ntmps42
  go_wp2
  go_loopw [7] (fun j W => ∃ (J : Nat) (x0 x1 x2 x3 : Int) (t : Option (List UInt8)), ((J = 0 ∧ x0 = 0 ∧ x1 = 0 ∧ x2 = 0 ∧ x3 = 0 ∧ t = st) ∨ (J = 1 ∧ x0 = v0 ∧ x1 = 0 ∧ x2 = 0 ∧ x3 = 0 ∧ t = t1) ∨ (J = 2 ∧ x0 = v0 ∧ x1 = v1 ∧ x2 = 0 ∧ x3 = 0 ∧ t = t2) ∨ (J = 3 ∧ x0 = v0 ∧ x1 = v1 ∧ x2 = v2 ∧ x3 = 0 ∧ t = t3) ∨ (J = 4 ∧ x0 = v0 ∧ x1 = v1 ∧ x2 = v2 ∧ x3 = v3 ∧ t = t4)) ∧ j = .int .i64 J ∧ GV w W ib t #[.int .i64 x0, .int .i64 x1, .int .i64 x2, .int .i64 x3]) (fun j _ => 4 - (intOf j).toNat)
  case atStart => exact ⟨0, 0, 0, 0, 0, st, .inl ⟨rfl, rfl, rfl, rfl, rfl, rfl⟩, rfl, HST.out⟩
  case round =>
    obtain ⟨J, x0, x1, x2, x3, t, hcase, rfl, hs⟩ := hrel
    rcases hcase with ⟨rfl, rfl, rfl, rfl, rfl, rfl⟩ | ⟨rfl, rfl, rfl, rfl, rfl, rfl⟩ | ⟨rfl, rfl, rfl, rfl, rfl, rfl⟩ | ⟨rfl, rfl, rfl, rfl, rfl, rfl⟩ | ⟨rfl, rfl, rfl, rfl, rfl, rfl⟩
    · have HC1 := Lib.hid (inum_at ib _ 1099511627776 _ _ wr hs.ins HG0.out (by omega) (by omega))
      have HS := Lib.hid hs; clear hs
      go_wp2_with (go_at_call 66; refine HC1.out.mono ?_; rintro e W1 ⟨rfl, hi5, hf5⟩; have z8 := free_at' (HS.out.call hi5 hf5).arr 0; have z9 := cell_at' (HS.out.call hi5 hf5).arr 0 rfl; have z7 := lt_of_block (HS.out.call hi5 hf5).arr; have HN := Lib.hid (fun u => (HS.out.call hi5 hf5).set 0 u); clear hi5 hf5)
      go_roundw
      case rel => exact ⟨1, _, _, _, _, _, .inr (.inl ⟨rfl, rfl, rfl, rfl, rfl, rfl⟩), by go_num, HN.out _⟩
      case measure => simp [intOf]
    · have HC1 := Lib.hid (inum_at ib _ 1099511627776 _ _ wr hs.ins HG1.out (by omega) (by omega))
      have HS := Lib.hid hs; clear hs
      go_wp2_with (go_at_call 66; refine HC1.out.mono ?_; rintro e W1 ⟨rfl, hi5, hf5⟩; have z8 := free_at' (HS.out.call hi5 hf5).arr 1; have z9 := cell_at' (HS.out.call hi5 hf5).arr 1 rfl; have z7 := lt_of_block (HS.out.call hi5 hf5).arr; have HN := Lib.hid (fun u => (HS.out.call hi5 hf5).set 1 u); clear hi5 hf5)
      go_roundw
      case rel => exact ⟨2, _, _, _, _, _, .inr (.inr (.inl ⟨rfl, rfl, rfl, rfl, rfl, rfl⟩)), by go_num, HN.out _⟩
      case measure => simp [intOf]
    · have HC1 := Lib.hid (inum_at ib _ 1099511627776 _ _ wr hs.ins HG2.out (by omega) (by omega))
      have HS := Lib.hid hs; clear hs
      go_wp2_with (go_at_call 66; refine HC1.out.mono ?_; rintro e W1 ⟨rfl, hi5, hf5⟩; have z8 := free_at' (HS.out.call hi5 hf5).arr 2; have z9 := cell_at' (HS.out.call hi5 hf5).arr 2 rfl; have z7 := lt_of_block (HS.out.call hi5 hf5).arr; have HN := Lib.hid (fun u => (HS.out.call hi5 hf5).set 2 u); clear hi5 hf5)
      go_roundw
      case rel => exact ⟨3, _, _, _, _, _, .inr (.inr (.inr (.inl ⟨rfl, rfl, rfl, rfl, rfl, rfl⟩))), by go_num, HN.out _⟩
      case measure => simp [intOf]
    · have HC1 := Lib.hid (inum_at ib _ 1099511627776 _ _ wr hs.ins HG3.out (by omega) (by omega))
      have HS := Lib.hid hs; clear hs
      go_wp2_with (go_at_call 66; refine HC1.out.mono ?_; rintro e W1 ⟨rfl, hi5, hf5⟩; have z8 := free_at' (HS.out.call hi5 hf5).arr 3; have z9 := cell_at' (HS.out.call hi5 hf5).arr 3 rfl; have z7 := lt_of_block (HS.out.call hi5 hf5).arr; have HN := Lib.hid (fun u => (HS.out.call hi5 hf5).set 3 u); clear hi5 hf5)
      go_roundw
      case rel => exact ⟨4, _, _, _, _, _, .inr (.inr (.inr (.inr (⟨rfl, rfl, rfl, rfl, rfl, rfl⟩)))), by go_num, HN.out _⟩
      case measure => simp [intOf]
    · have HS := Lib.hid hs; clear hs
      have z0 : wr.cell? ⟨w.heap.size + 1, 0, none⟩ = some (.int .i64 x0) := cell_at' HS.out.arr 0 rfl
      have z1 : wr.cell? ⟨w.heap.size + 1, 1, none⟩ = some (.int .i64 x1) := cell_at' HS.out.arr 1 rfl
      have z2 : wr.cell? ⟨w.heap.size + 1, 2, none⟩ = some (.int .i64 x2) := cell_at' HS.out.arr 2 rfl
      have z3 : wr.cell? ⟨w.heap.size + 1, 3, none⟩ = some (.int .i64 x3) := cell_at' HS.out.arr 3 rfl
      have zl := lt_of_block HS.out.arr
      cases t with
      | none =>
        obtain ⟨⟨rfl, rfl, rfl, rfl⟩, rfl⟩ := HC.out.det (vec_bad (by decide) (by decide) HV4.out (.inl rfl))
        by_cases hmay : MayV (vecF x0 x1 x2 x3)
        · have HMAY := Lib.hid hmay; clear hmay
          go_wp2_with (first
            | (go_at_call 90; go_loud (refine (HFU.out _).mono ?_); rintro e w2 ⟨hf2, hfy, -⟩; obtain ⟨v', he, hown, -⟩ := hfy HMAY.out; subst he; obtain ⟨aF, cF, rfl⟩ := hown.rd.sl; clear hown hfy
               have HS2 := Lib.hid (HS.out.call (HS.out.ins.keep hf2 fun _ _ => id) (hf2.mono fun _ _ s => s.elim))
               clear z0 z1 z2 z3 zl hf2
               generalize (fullL (vecF x0 x1 x2 x3)).length = nF at *
               have z0 : w2.cell? ⟨w.heap.size + 1, 0, none⟩ = some (.int .i64 x0) := cell_at' HS2.out.arr 0 rfl
               have z1 : w2.cell? ⟨w.heap.size + 1, 1, none⟩ = some (.int .i64 x1) := cell_at' HS2.out.arr 1 rfl
               have z2 : w2.cell? ⟨w.heap.size + 1, 2, none⟩ = some (.int .i64 x2) := cell_at' HS2.out.arr 2 rfl
               have z3 : w2.cell? ⟨w.heap.size + 1, 3, none⟩ = some (.int .i64 x3) := cell_at' HS2.out.arr 3 rfl
               have zl := lt_of_block HS2.out.arr
               have y0 := cell_at' HS2.out.res 0 rfl
               have y1 := cell_at' HS2.out.res 1 rfl
               have y2 := cell_at' HS2.out.res 2 rfl
               have y3 := cell_at' HS2.out.res 3 rfl
               have f0 := free_at' HS2.out.res 0
               have f1 := free_at' HS2.out.res 1
               have f2 := free_at' HS2.out.res 2
               have f3 := free_at' HS2.out.res 3
               have hl2 := lt_of_block HS2.out.res)
            | (go_at_call 25; refine (bad_go ib _ _ HS2.out.ins).mono ?_; rintro e w3 ⟨rfl, rfl⟩)
            | (go_at_call 67; obtain ⟨a, c, hh⟩ := HS2.out.ins.heap; refine (fail_go ib _ _ _ hh).mono ?_; rintro e w4 ⟨rfl, hi4, hf4⟩
               have HS4 := Lib.hid (HS2.out.call (show InSt w4 ib none from hi4) hf4)
               clear y0 y1 y2 y3 f0 f1 f2 f3 hl2 z0 z1 z2 z3 zl hi4 hf4 hh
               have y0 := cell_at' HS4.out.res 0 rfl
               have y1 := cell_at' HS4.out.res 1 rfl
               have y2 := cell_at' HS4.out.res 2 rfl
               have y3 := cell_at' HS4.out.res 3 rfl
               have f0 := free_at' HS4.out.res 0
               have f1 := free_at' HS4.out.res 1
               have f2 := free_at' HS4.out.res 2
               have f3 := free_at' HS4.out.res 3
               have hl2 := lt_of_block HS4.out.res))
          clear y0 y1 y2 y3 f0 f1 f2 f3 hl2
          obtain ⟨y0, y1, y2, y3⟩ := four_cells HS4.out.res (.int .i64 0) (.int .i64 0) (.int .i64 0) (.int .i64 0) _ rfl
          exact bodyPost_ret (v := .agg #[.int .i64 0, .int .i64 0, .int .i64 0, .int .i64 0]) (by simp [results, Tryz.results42, go_sem, y0, y1, y2, y3]) rfl (HS4.out.out 0 0 0 0 _ (four_set w4 _ _ _ _ _))
        · have HMAY := Lib.hid hmay; clear hmay
          go_wp2_with (first
            | (go_at_call 90; go_loud (refine (HFU.out _).mono ?_); rintro e w2 ⟨hf2, -, hfn⟩; have he := hfn HMAY.out; subst he; clear hfn
               have HS2 := Lib.hid (HS.out.call (HS.out.ins.keep hf2 fun _ _ => id) (hf2.mono fun _ _ s => s.elim))
               clear z0 z1 z2 z3 zl hf2)
            | (go_at_call 25; refine (bad_go ib _ _ HS2.out.ins).mono ?_; rintro e w3 ⟨rfl, rfl⟩)
            | (go_at_call 67; obtain ⟨a, c, hh⟩ := HS2.out.ins.heap; refine (fail_go ib _ _ _ hh).mono ?_; rintro e w4 ⟨rfl, hi4, hf4⟩
               have HS4 := Lib.hid (HS2.out.call (show InSt w4 ib none from hi4) hf4)
               clear hi4 hf4 hh
               have y0 := cell_at' HS4.out.res 0 rfl
               have y1 := cell_at' HS4.out.res 1 rfl
               have y2 := cell_at' HS4.out.res 2 rfl
               have y3 := cell_at' HS4.out.res 3 rfl
               have f0 := free_at' HS4.out.res 0
               have f1 := free_at' HS4.out.res 1
               have f2 := free_at' HS4.out.res 2
               have f3 := free_at' HS4.out.res 3
               have hl2 := lt_of_block HS4.out.res))
          clear y0 y1 y2 y3 f0 f1 f2 f3 hl2
          obtain ⟨y0, y1, y2, y3⟩ := four_cells HS4.out.res (.int .i64 0) (.int .i64 0) (.int .i64 0) (.int .i64 0) _ rfl
          exact bodyPost_ret (v := .agg #[.int .i64 0, .int .i64 0, .int .i64 0, .int .i64 0]) (by simp [results, Tryz.results42, go_sem, y0, y1, y2, y3]) rfl (HS4.out.out 0 0 0 0 _ (four_set w4 _ _ _ _ _))
      | some r =>
        by_cases hmay : MayV (vecF x0 x1 x2 x3)
        · obtain ⟨⟨rfl, rfl, rfl, rfl⟩, rfl⟩ := HC.out.det (vec_good HV4.out hmay)
          have HMAY := Lib.hid hmay; clear hmay
          go_wp2_with (first
            | (go_at_call 90; go_loud (refine (HFU.out _).mono ?_); rintro e w2 ⟨hf2, hfy, -⟩; obtain ⟨v', he, hown, -⟩ := hfy HMAY.out; subst he; obtain ⟨aF, cF, rfl⟩ := hown.rd.sl; clear hown hfy
               have HS2 := Lib.hid (HS.out.call (HS.out.ins.keep hf2 fun _ _ => id) (hf2.mono fun _ _ s => s.elim))
               clear z0 z1 z2 z3 zl hf2
               generalize (fullL (vecF u0 u1 u2 u3)).length = nF at *
               have z0 : w2.cell? ⟨w.heap.size + 1, 0, none⟩ = some (.int .i64 u0) := cell_at' HS2.out.arr 0 rfl
               have z1 : w2.cell? ⟨w.heap.size + 1, 1, none⟩ = some (.int .i64 u1) := cell_at' HS2.out.arr 1 rfl
               have z2 : w2.cell? ⟨w.heap.size + 1, 2, none⟩ = some (.int .i64 u2) := cell_at' HS2.out.arr 2 rfl
               have z3 : w2.cell? ⟨w.heap.size + 1, 3, none⟩ = some (.int .i64 u3) := cell_at' HS2.out.arr 3 rfl
               have zl := lt_of_block HS2.out.arr
               have y0 := cell_at' HS2.out.res 0 rfl
               have y1 := cell_at' HS2.out.res 1 rfl
               have y2 := cell_at' HS2.out.res 2 rfl
               have y3 := cell_at' HS2.out.res 3 rfl
               have f0 := free_at' HS2.out.res 0
               have f1 := free_at' HS2.out.res 1
               have f2 := free_at' HS2.out.res 2
               have f3 := free_at' HS2.out.res 3
               have hl2 := lt_of_block HS2.out.res)
            | (go_at_call 25; refine (bad_go ib _ _ HS2.out.ins).mono ?_; rintro e w3 ⟨rfl, rfl⟩))
          clear y0 y1 y2 y3 f0 f1 f2 f3 hl2 z0 z1 z2 z3 zl
          obtain ⟨y0, y1, y2, y3⟩ := four_cells HS2.out.res (.int .i64 u0) (.int .i64 u1) (.int .i64 u2) (.int .i64 u3) _ rfl
          exact bodyPost_ret (v := .agg #[.int .i64 u0, .int .i64 u1, .int .i64 u2, .int .i64 u3]) (by simp [results, Tryz.results42, go_sem, y0, y1, y2, y3]) rfl (HS2.out.out u0 u1 u2 u3 _ (four_set w2 _ _ _ _ _))
        · obtain ⟨⟨rfl, rfl, rfl, rfl⟩, rfl⟩ := HC.out.det (vec_bad (by decide) (by decide) HV4.out (.inr hmay))
          have HMAY := Lib.hid hmay; clear hmay
          go_wp2_with (first
            | (go_at_call 90; go_loud (refine (HFU.out _).mono ?_); rintro e w2 ⟨hf2, -, hfn⟩; have he := hfn HMAY.out; subst he; clear hfn
               have HS2 := Lib.hid (HS.out.call (HS.out.ins.keep hf2 fun _ _ => id) (hf2.mono fun _ _ s => s.elim))
               clear z0 z1 z2 z3 zl hf2)
            | (go_at_call 25; refine (bad_go ib _ _ HS2.out.ins).mono ?_; rintro e w3 ⟨rfl, rfl⟩)
            | (go_at_call 67; obtain ⟨a, c, hh⟩ := HS2.out.ins.heap; refine (fail_go ib _ _ _ hh).mono ?_; rintro e w4 ⟨rfl, hi4, hf4⟩
               have HS4 := Lib.hid (HS2.out.call (show InSt w4 ib none from hi4) hf4)
               clear hi4 hf4 hh
               have y0 := cell_at' HS4.out.res 0 rfl
               have y1 := cell_at' HS4.out.res 1 rfl
               have y2 := cell_at' HS4.out.res 2 rfl
               have y3 := cell_at' HS4.out.res 3 rfl
               have f0 := free_at' HS4.out.res 0
               have f1 := free_at' HS4.out.res 1
               have f2 := free_at' HS4.out.res 2
               have f3 := free_at' HS4.out.res 3
               have hl2 := lt_of_block HS4.out.res))
          clear y0 y1 y2 y3 f0 f1 f2 f3 hl2
          obtain ⟨y0, y1, y2, y3⟩ := four_cells HS4.out.res (.int .i64 0) (.int .i64 0) (.int .i64 0) (.int .i64 0) _ rfl
          exact bodyPost_ret (v := .agg #[.int .i64 0, .int .i64 0, .int .i64 0, .int .i64 0]) (by simp [results, Tryz.results42, go_sem, y0, y1, y2, y3]) rfl (HS4.out.out 0 0 0 0 _ (four_set w4 _ _ _ _ _))
end Go.Proofs.YtafdclkpeomomaaGreat
