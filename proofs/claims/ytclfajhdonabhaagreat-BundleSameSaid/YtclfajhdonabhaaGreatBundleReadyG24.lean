/- Words for the law BundleReady: BunSm, BunOpen, Vec, Ready, Behind, VecEq, ReadyLaw. -/
import Derived.Test.YtclfajhdonabhaaGreatBundleReadyG3
import Derived.Test.YtclfajhdonabhaaGreatBundleReadyG6
import Derived.Test.YtclfajhdonabhaaGreatBundleReadyG8
import Derived.Test.YtclfajhdonabhaaGreatBundleReadyG13
import Derived.Test.YtclfajhdonabhaaGreatBundleReadyG14
import Derived.Test.YtclfajhdonabhaaGreatBundleReadyG16
import Derived.Test.YtclfajhdonabhaaGreatBundleReadyG18
import Derived.Test.YtclfajhdonabhaaGreatBundleReadyG23
import Derived.Laws.IdiomArrays
import Derived.SizedLaws
import Derived.ChangeKeysEq
set_option linter.unusedSimpArgs false
set_option linter.unusedVariables false
/- tributaryref22: Small: the walk; what came in. -/
namespace Go.Proofs.YtclfajhdonabhaaGreat
open Go.RowKit

set_option maxRecDepth 100000 in
theorem r22Small_any (Q : Nat → Prop) (es : List Ent) (ks : KidsL) (c : CtxL) (left : Int) (w : World) (dc af la v0 v1 v2 v3 : Int) (ev kv cv : Value) (h : CauAt Q w ev kv cv es ks c) (hok : TrOk es ks) (hcl : c.length ≤ 140737488351232) (h1 : left ≤ 1000) (h2 : 0 ≤ left) :
    Calls Tryz.prog 7 #[.agg #[.int .i64 dc, .int .i64 af, .int .i64 la, .int .i64 v0, .int .i64 v1, .int .i64 v2, .int .i64 v3, ev, kv, cv], .int .i64 left] w fun e w' => e = .returned (.bool (decide (0 ≤ roomT es ks left 8) && decide ((c.length : Int) ≤ left))) ∧ Frm NoS w w' := by
  have HC := Lib.hid (fun W (f : Frm NoS w W) => r9Small_any Q es ks c left W _ _ _ (h.keep0 f) hok hcl h1 h2)
  obtain ⟨a0, c0, a1, c1, a2, c2, rfl, rfl, rfl⟩ := h.shape
  clear h hok
  generalize (decide (0 ≤ roomT es ks left 8) && decide ((c.length : Int) ≤ left)) = b at *
  generalize c.length = k at *
  go_enter Tryz.func7, Tryz.ntmps7
  go_wp2_with (go_at_call 29; go_loud (refine (HC.out _ (Frm.alloc _ _ _)).mono ?_); rintro e w1 ⟨rfl, hw1⟩; have HW1 := Lib.hid ((Frm.alloc NoS _ _).then1 hw1); clear hw1)
  go_ret
  exact ⟨rfl, HW1.out⟩
/-- A bundle that came in. -/
structure BunIn (w : World) (v : Value) where
  out : ∃ (dc af la v0 v1 v2 v3 : Int) (ev kv cv : Value) (es : List Ent) (ks : KidsL) (c : CtxL), v = .agg #[.int .i64 dc, .int .i64 af, .int .i64 la, .int .i64 v0, .int .i64 v1, .int .i64 v2, .int .i64 v3, ev, kv, cv] ∧ CauAt (fun _ => True) w ev kv cv es ks c ∧ TrOk es ks ∧ FitsC c ∧ c.length ≤ 140737488351232
theorem small_ok {es : List Ent} {ks : KidsL} {c : CtxL} (hok : TrOk es ks) (hf : FitsC c) (h : (decide (0 ≤ roomT es ks 40 8) && decide ((c.length : Int) ≤ 40)) = true) : CauOk es ks c := by
  simp only [Bool.and_eq_true, decide_eq_true_iff] at h
  have := roomT_size h.1
  exact ⟨hok, by omega, hf, by omega⟩
end Go.Proofs.YtclfajhdonabhaaGreat

/- What came in: a bundle, a vector. -/
namespace Go.Proofs.YtclfajhdonabhaaGreat
open Go.RowKit Go.WideShapes Go.ChangeShapes

theorem Tryz.cells_bundle : Tryz.prog.cellsOf 33 = 10 := by kernel_rfl
theorem Tryz.cells_causal : Tryz.prog.cellsOf 31 = 3 := by kernel_rfl
theorem Tryz.cells_vector : Tryz.prog.cellsOf 23 = 4 := by kernel_rfl
theorem sized_at {H : Type} {P : Program} {ts us : List TypeId} {ds gs : List (DataW H)} (h : (DataW.weightsEach P (ts ++ us) (ds ++ gs)).all (· ≤ reachBytes) = true) {j : Nat} {t : TypeId} {d : DataW H} (ht : ts[j]? = some t) (hd : ds[j]? = some d) :
    ∀ n ∈ d.weights P t, n ≤ reachBytes := fun n hn => by
  have h1 : (ts ++ us)[j]? = some t := by rw [List.getElem?_append_left (List.getElem?_eq_some_iff.1 ht).1]; exact ht
  have h2 : (ds ++ gs)[j]? = some d := by rw [List.getElem?_append_left (List.getElem?_eq_some_iff.1 hd).1]; exact hd
  simpa using List.all_eq_true.1 h n (DataW.weights_mem_each h1 h2 n hn)
section
variable {H : Type} {enc : TypeId × Value → H} {w : World}
set_option maxRecDepth 100000 in
theorem open_causal {fuel : Nat} {ev kv cv : Value} {x : DataW H × List MemPlace} (h : DataW.trod enc Tryz.prog w 0 (fun _ => true) true fuel 31 [ev, kv, cv] = some x) (hw : ∀ n ∈ x.1.weights Tryz.prog 31, n ≤ reachBytes) :
    ∃ es ks c, CauAt (fun _ => True) w ev kv cv es ks c ∧ TrOk es ks ∧ FitsC c ∧ c.length ≤ 140737488351232 := by
  obtain ⟨xs, n, hn, rfl, _, hxl, hf⟩ := DataW.trod_struct Tryz.underlying31 h
  obtain ⟨y0, y1, rfl⟩ : ∃ y0 y1, xs = [y0, y1] := by
    match xs, hxl with
    | [y0, y1], _ => exact ⟨y0, y1, rfl⟩
  have g0 := hf 0 _ rfl
  have g1 := hf 1 _ rfl
  have g0 : DataW.trod enc Tryz.prog w 0 (fun _ => true) true n 27 [ev, kv] = some y0 := g0
  have g1 : DataW.trod enc Tryz.prog w 0 (fun _ => true) true n 29 [cv] = some y1 := g1
  have hw2 : ∀ m ∈ y0.1.weights Tryz.prog 27 ++ (y1.1.weights Tryz.prog 29 ++ []), m ≤ reachBytes := fun m hm => hw m (by
    simp only [List.map_cons, List.map_nil, DataW.weights, Tryz.underlying31]
    exact hm)
  obtain ⟨es, ks, h1, h2⟩ := open_tree _ ev kv _ g0 fun m hm => hw2 m (List.mem_append_left _ hm)
  obtain ⟨c, h3, h4, h5⟩ := open_ctx g1 fun m hm => hw2 m (List.mem_append_right _ (List.mem_append_left _ hm))
  exact ⟨es, ks, c, ⟨h1, h3⟩, h2, h4, h5⟩
set_option maxRecDepth 100000 in
theorem open_vec_cells {fuel : Nat} {c0 c1 c2 c3 : Value} {x : DataW H × List MemPlace} (h : DataW.trod enc Tryz.prog w 0 (fun _ => true) true fuel 23 [c0, c1, c2, c3] = some x) :
    ∃ v0 v1 v2 v3 : Int, c0 = .int .i64 v0 ∧ c1 = .int .i64 v1 ∧ c2 = .int .i64 v2 ∧ c3 = .int .i64 v3 ∧ ∀ v ∈ [v0, v1, v2, v3], -9223372036854775808 ≤ v ∧ v ≤ 9223372036854775807 := by
  obtain ⟨z0, z1, z2, z3, m, _, k0, k1, k2, k3⟩ := trod_array4 Tryz.underlying23 Tryz.cells_I64 h
  obtain ⟨v0, e0, _, w0⟩ := DataW.trod_int Tryz.underlying2 k0
  obtain ⟨v1, e1, _, w1⟩ := DataW.trod_int Tryz.underlying2 k1
  obtain ⟨v2, e2, _, w2⟩ := DataW.trod_int Tryz.underlying2 k2
  obtain ⟨v3, e3, _, w3⟩ := DataW.trod_int Tryz.underlying2 k3
  simp at e0 e1 e2 e3
  refine ⟨v0, v1, v2, v3, e0, e1, e2, e3, fun v hv => ?_⟩
  simp only [List.mem_cons, List.not_mem_nil, or_false] at hv
  rcases hv with rfl | rfl | rfl | rfl
  · exact wfInt w0
  · exact wfInt w1
  · exact wfInt w2
  · exact wfInt w3
set_option maxRecDepth 100000 in
theorem open_bundle {base : Nat} {v : Value} {d : DataW H} {ps : List MemPlace} (hv : Value.okWide Tryz.prog w .any base 33 v) (h : DataW.Trod enc Tryz.prog w 0 (fun _ => true) true 33 v d ps)
    (hw : ∀ n ∈ d.weights Tryz.prog 33, n ≤ reachBytes) : BunIn w v := by
  obtain ⟨cs, rfl, hsz⟩ := okWide_struct Tryz.underlying33 hv
  rw [Tryz.cells_bundle] at hsz
  obtain ⟨l⟩ := cs
  match l, hsz with
  | [c0, c1, c2, c3, c4, c5, c6, c7, c8, c9], _ =>
  obtain ⟨fuel, hf⟩ := h
  have hf : DataW.trod enc Tryz.prog w 0 (fun _ => true) true fuel 33 [c0, c1, c2, c3, c4, c5, c6, c7, c8, c9] = some (d, ps) := hf
  obtain ⟨xs, n, hn, hx, _, hxl, hg⟩ := DataW.trod_struct Tryz.underlying33 hf
  obtain ⟨y0, y1, y2, y3, y4, rfl⟩ : ∃ y0 y1 y2 y3 y4, xs = [y0, y1, y2, y3, y4] := by
    match xs, hxl with
    | [y0, y1, y2, y3, y4], _ => exact ⟨y0, y1, y2, y3, y4, rfl⟩
  have g0 : DataW.trod enc Tryz.prog w 0 (fun _ => true) true n 3 [c0] = some y0 := hg 0 _ rfl
  have g1 : DataW.trod enc Tryz.prog w 0 (fun _ => true) true n 2 [c1] = some y1 := hg 1 _ rfl
  have g2 : DataW.trod enc Tryz.prog w 0 (fun _ => true) true n 2 [c2] = some y2 := hg 2 _ rfl
  have g3 : DataW.trod enc Tryz.prog w 0 (fun _ => true) true n 23 [c3, c4, c5, c6] = some y3 := hg 3 _ rfl
  have g4 : DataW.trod enc Tryz.prog w 0 (fun _ => true) true n 31 [c7, c8, c9] = some y4 := hg 4 _ rfl
  obtain ⟨dc, e0, _, _⟩ := DataW.trod_int Tryz.underlying3 g0
  obtain ⟨af, e1, _, _⟩ := DataW.trod_int Tryz.underlying2 g1
  obtain ⟨la, e2, _, _⟩ := DataW.trod_int Tryz.underlying2 g2
  simp at e0 e1 e2
  obtain ⟨v0, v1, v2, v3, e3, e4, e5, e6, _⟩ := open_vec_cells g3
  have hd : d = (DataW.agg ([y0, y1, y2, y3, y4].map (·.1)) : DataW H) := (Prod.mk.inj hx).1
  subst hd
  have hw2 : ∀ m ∈ y0.1.weights Tryz.prog 3 ++ (y1.1.weights Tryz.prog 2 ++ (y2.1.weights Tryz.prog 2 ++ (y3.1.weights Tryz.prog 23 ++ (y4.1.weights Tryz.prog 31 ++ [])))), m ≤ reachBytes := fun m hm => hw m (by
    simp only [List.map_cons, List.map_nil, DataW.weights, Tryz.underlying33]
    exact hm)
  obtain ⟨es, ks, c, h1, h2, h3, h4⟩ := open_causal g4 fun m hm => hw2 m (List.mem_append_right _ (List.mem_append_right _ (List.mem_append_right _ (List.mem_append_right _ (List.mem_append_left _ hm)))))
  subst e0 e1 e2 e3 e4 e5 e6
  exact ⟨_, _, _, _, _, _, _, _, _, _, es, ks, c, rfl, h1, h2, h3, h4⟩
end
end Go.Proofs.YtclfajhdonabhaaGreat

/- Vectors: tributaryref07 AtMost, Raised: the walks. Printed by wip/readygen.py. -/
namespace Go.Proofs.YtclfajhdonabhaaGreat
open Go.RowKit

/-- The cells of a vector. -/
def vecC (f : Int → Int) : Array Value := #[.int .i64 (f 0), .int .i64 (f 1), .int .i64 (f 2), .int .i64 (f 3)]
theorem vecC_at (f : Int → Int) {k : Nat} (h : k < 4) : (vecC f)[k]? = some (.int .i64 (f k)) := by
  rcases (by omega : k = 0 ∨ k = 1 ∨ k = 2 ∨ k = 3) with rfl | rfl | rfl | rfl <;> rfl
theorem vecC_set (f : Int → Int) {k : Nat} (h : k < 4) (x : Int) : (vecC f).setIfInBounds k (.int .i64 x) = vecC (setF f k x) := by
  rcases (by omega : k = 0 ∨ k = 1 ∨ k = 2 ∨ k = 3) with rfl | rfl | rfl | rfl <;> simp [vecC, setF]
theorem vecC_congr {f g : Int → Int} (h : ∀ d, 0 ≤ d → d < 4 → f d = g d) : vecC f = vecC g := by
  unfold vecC
  rw [h 0 (by decide) (by decide), h 1 (by decide) (by decide), h 2 (by decide) (by decide), h 3 (by decide) (by decide)]
theorem vecC_vec (v0 v1 v2 v3 : Int) : vecC (vecF v0 v1 v2 v3) = #[.int .i64 v0, .int .i64 v1, .int .i64 v2, .int .i64 v3] := rfl
/-- A block that holds a vector. -/
def VecAt (w : World) (g : Nat) (f : Int → Int) (T : TypeId) : Prop := w.heap[g]? = some (.cells (vecC f) T (0, 0))
theorem VecAt.cell {w : World} {g : Nat} {f : Int → Int} {T : TypeId} (h : VecAt w g f T) {k : Nat} (hk : k < 4) : w.cell? ⟨g, k, none⟩ = some (.int .i64 (f k)) := cell_at' h k (vecC_at f hk)
theorem VecAt.free {w : World} {g : Nat} {f : Int → Int} {T : TypeId} (h : VecAt w g f T) (k : Nat) : w.frozen? ⟨g, k, none⟩ = false := free_at' h k
theorem VecAt.set {w : World} {g : Nat} {f : Int → Int} {T : TypeId} (h : VecAt w g f T) {k : Nat} (hk : k < 4) (x : Int) : VecAt (w.setCell ⟨g, k, none⟩ (.int .i64 x)) g (setF f k x) T := by
  have := set_at' h k (.int .i64 x)
  rw [vecC_set f hk] at this
  exact this
theorem VecAt.keep {w w' : World} {g : Nat} {f : Int → Int} {T : TypeId} (h : VecAt w g f T) (fr : Frm NoS w w') : VecAt w' g f T := fr.blk h id
theorem VecAt.congr {w : World} {g : Nat} {f f' : Int → Int} {T : TypeId} (h : VecAt w g f T) (he : ∀ d, 0 ≤ d → d < 4 → f d = f' d) : VecAt w g f' T := by
  unfold VecAt at *
  rw [← vecC_congr he]
  exact h
theorem vec_new (w : World) (v0 v1 v2 v3 : Int) (T : TypeId) : VecAt (w.alloc (.cells #[.int .i64 v0, .int .i64 v1, .int .i64 v2, .int .i64 v3] T)) w.heap.size (vecF v0 v1 v2 v3) T := heap_alloc_new w _
/-- Is the one vector at most the other one? -/
def AtMostP (f g : Int → Int) : Prop := ∀ d, 0 ≤ d → d < 4 → f d ≤ g d
def maxF (f g : Int → Int) (d : Int) : Int := max (f d) (g d)
/-- The first k numbers are raised. -/
def upF (f g : Int → Int) (k : Nat) (d : Int) : Int := if d < k then max (f d) (g d) else f d
theorem upF_step (f g : Int → Int) (k : Nat) (d : Int) : setF (upF f g k) k (max (f k) (g k)) d = upF f g (k + 1) d := by
  unfold setF upF
  by_cases h : d = k
  · subst h; simp; intro h3; omega
  · rw [if_neg h]
    by_cases h2 : d < k
    · rw [if_pos h2, if_pos (by omega)]
    · rw [if_neg h2, if_neg (by omega)]
theorem max_ite (a b : Int) : (if a < b then b else a) = max a b := by
  by_cases h : a < b
  · rw [if_pos h]; omega
  · rw [if_neg h]; omega
theorem upF_at (f g : Int → Int) (k : Nat) : upF f g k k = f k := by unfold upF; simp
theorem upF_all (f g : Int → Int) {d : Int} (h : d < 4) : upF f g 4 d = maxF f g d := by unfold upF maxF; exact if_pos (by omega)
set_option maxHeartbeats 2000000 in
set_option maxRecDepth 1000000 in
theorem r7AtMost_any (w : World) (v0 v1 v2 v3 u0 u1 u2 u3 : Int) : Calls Tryz.prog 37 #[vecV v0 v1 v2 v3, vecV u0 u1 u2 u3] w fun e w' => e = .returned (.bool (tf (AtMostP (vecF v0 v1 v2 v3) (vecF u0 u1 u2 u3)))) ∧ Frm NoS w w' := by
  obtain ⟨hb1, hfb, hbs⟩ := two_blocks w (.cells #[.int .i64 v0, .int .i64 v1, .int .i64 v2, .int .i64 v3] 23) #[.int .i64 u0, .int .i64 u1, .int .i64 u2, .int .i64 u3] 23
  have hb1 : VecAt ((w.alloc (.cells #[.int .i64 v0, .int .i64 v1, .int .i64 v2, .int .i64 v3] 23)).alloc (.cells #[.int .i64 u0, .int .i64 u1, .int .i64 u2, .int .i64 u3] 23)) (w.heap.size + 1) (vecF u0 u1 u2 u3) 23 := hb1
  have hb0 : VecAt ((w.alloc (.cells #[.int .i64 v0, .int .i64 v1, .int .i64 v2, .int .i64 v3] 23)).alloc (.cells #[.int .i64 u0, .int .i64 u1, .int .i64 u2, .int .i64 u3] 23)) w.heap.size (vecF v0 v1 v2 v3) 23 := (vec_new w v0 v1 v2 v3 _).keep (Frm.alloc _ _ _)
  have HB0 := Lib.hid hb0; clear hb0
  have HB1 := Lib.hid hb1; clear hb1
  have HFB := Lib.hid hfb; clear hfb hbs
  unfold vecV
  generalize hf : vecF v0 v1 v2 v3 = f at *
  generalize hg : vecF u0 u1 u2 u3 = g at *
  clear hf hg
  go_enter Tryz.func37, Tryz.ntmps37
  go_wp2
  go_loopw [6] (fun i ww => ∃ k : Nat, k ≤ 4 ∧ i = .int .i64 k ∧ (∀ d : Int, 0 ≤ d → d < k → f d ≤ g d) ∧ Frm NoS ((w.alloc (.cells #[.int .i64 v0, .int .i64 v1, .int .i64 v2, .int .i64 v3] 23)).alloc (.cells #[.int .i64 u0, .int .i64 u1, .int .i64 u2, .int .i64 u3] 23)) ww) (fun i _ => 4 - (intOf i).toNat)
  case atStart => exact ⟨0, Nat.zero_le _, rfl, (fun d h0 h1 => by have : d < 0 := h1; omega), Frm.refl _ _⟩
  case round =>
    obtain ⟨k, hk, rfl, hr, hw⟩ := hrel
    have HR := Lib.hid hr; clear hr
    have HW := Lib.hid hw; clear hw
    by_cases hlt : k < 4
    · have hki : (k : Int) < 4 := by omega
      have c0 := (HB0.out.keep HW.out).cell hlt
      have c1 := (HB1.out.keep HW.out).cell hlt
      have hst : f k ≤ g k → ∀ d : Int, 0 ≤ d → d < ((k + 1 : Nat) : Int) → f d ≤ g d := fun h d h0 h1 => by
        by_cases he : d = k
        · subst he; exact h
        · exact HR.out d h0 (by omega)
      have hno : g k < f k → ¬ AtMostP f g := fun h h2 => by have := h2 k (by omega) hki; omega
      have HST := Lib.hid hst; clear hst
      have HNO := Lib.hid hno; clear hno
      generalize f k = x at *
      generalize g k = y at *
      cases hc : decide (y < x) with
      | true =>
        have HC := Lib.hid hc
        go_wp2_with fail
        go_quiet (fail)
        go_wp2
        go_ret
        exact ⟨ret_bool (tf_false (HNO.out (by simpa using HC.out))).symm, HFB.out.then1 HW.out.drewN1⟩
      | false =>
        have HC := Lib.hid hc
        go_wp2_with fail
        go_quiet (fail)
        go_wp2
        go_roundw
        case rel => exact ⟨k + 1, by omega, by go_num, HST.out (by have := HC.out; simp at this; exact this), HW.out.drewN1⟩
        case measure => simp [intOf]; omega
    · obtain rfl : k = 4 := by omega
      go_wp2
      go_ret
      exact ⟨ret_bool (tf_true (fun d h0 h4 => HR.out d h0 h4)).symm, HFB.out.then1 HW.out⟩
/-- Three blocks: the one of a vector that is turned, another vector's, the result's. -/
structure Vec3 (w ww : World) (f g : Int → Int) (T T2 : TypeId) : Prop where
  a : VecAt ww w.heap.size f T
  b : VecAt ww (w.heap.size + 1) g T
  r : VecAt ww (w.heap.size + 1 + 1) (fun _ => 0) T2
  frm : Frm NoS w ww
theorem Vec3.start (w : World) (v0 v1 v2 v3 u0 u1 u2 u3 : Int) (T T2 : TypeId) : Vec3 w (((w.alloc (.cells #[.int .i64 v0, .int .i64 v1, .int .i64 v2, .int .i64 v3] T)).alloc (.cells #[.int .i64 u0, .int .i64 u1, .int .i64 u2, .int .i64 u3] T)).alloc (.cells #[.int .i64 0, .int .i64 0, .int .i64 0, .int .i64 0] T2)) (vecF v0 v1 v2 v3) (vecF u0 u1 u2 u3) T T2 := by
  have h0 := heap_alloc_new w (.cells #[.int .i64 v0, .int .i64 v1, .int .i64 v2, .int .i64 v3] T)
  have h1 := heap_alloc_new (w.alloc (.cells #[.int .i64 v0, .int .i64 v1, .int .i64 v2, .int .i64 v3] T)) (.cells #[.int .i64 u0, .int .i64 u1, .int .i64 u2, .int .i64 u3] T)
  have h2 := heap_alloc_new ((w.alloc (.cells #[.int .i64 v0, .int .i64 v1, .int .i64 v2, .int .i64 v3] T)).alloc (.cells #[.int .i64 u0, .int .i64 u1, .int .i64 u2, .int .i64 u3] T)) (.cells #[.int .i64 0, .int .i64 0, .int .i64 0, .int .i64 0] T2)
  have sz : ∀ (u : World) (o : Obj), (u.alloc o).heap.size = u.heap.size + 1 := fun u o => by simp
  simp only [sz] at h1 h2
  exact ⟨((Frm.alloc NoS _ _).alloc1).blk h0 id, (Frm.alloc NoS _ _).blk h1 id, h2, ((Frm.alloc NoS _ _).alloc1).alloc1⟩
theorem Vec3.keep {w ww w' : World} {f g : Int → Int} {T T2 : TypeId} (h : Vec3 w ww f g T T2) (fr : Frm NoS ww w') : Vec3 w w' f g T T2 := ⟨h.a.keep fr, h.b.keep fr, h.r.keep fr, h.frm.then1 fr⟩
theorem Vec3.set {w ww : World} {f g : Int → Int} {T T2 : TypeId} (h : Vec3 w ww f g T T2) {k : Nat} (hk : k < 4) (x : Int) : Vec3 w (ww.setCell ⟨w.heap.size, k, none⟩ (.int .i64 x)) (setF f k x) g T T2 :=
  ⟨h.a.set hk x, (set_else (by omega)).trans h.b, (set_else (by omega)).trans h.r, h.frm.set1 (.inr (Nat.le_refl _))⟩
theorem Vec3.congr {w ww : World} {f f' g : Int → Int} {T T2 : TypeId} (h : Vec3 w ww f g T T2) (he : ∀ d, 0 ≤ d → d < 4 → f d = f' d) : Vec3 w ww f' g T T2 := ⟨h.a.congr he, h.b, h.r, h.frm⟩
/-- A vector's block stored whole. -/
theorem VecAt.set4 {w : World} {b : Nat} {f : Int → Int} {T : TypeId} (h : VecAt w b f T) (g : Int → Int) : VecAt ((((w.setCell ⟨b, 0, none⟩ (.int .i64 (g 0))).setCell ⟨b, 1, none⟩ (.int .i64 (g 1))).setCell ⟨b, 2, none⟩ (.int .i64 (g 2))).setCell ⟨b, 3, none⟩ (.int .i64 (g 3))) b g T :=
  set_at' (set_at' (set_at' (set_at' h 0 _) 1 _) 2 _) 3 _
theorem Frm.set4 {w0 w : World} {b : Nat} (f : Frm NoS w0 w) (hb : w0.heap.size ≤ b) (v0 v1 v2 v3 : Value) : Frm NoS w0 ((((w.setCell ⟨b, 0, none⟩ v0).setCell ⟨b, 1, none⟩ v1).setCell ⟨b, 2, none⟩ v2).setCell ⟨b, 3, none⟩ v3) :=
  (((f.set1 (p := ⟨b, 0, none⟩) (.inr hb)).set1 (p := ⟨b, 1, none⟩) (.inr hb)).set1 (p := ⟨b, 2, none⟩) (.inr hb)).set1 (p := ⟨b, 3, none⟩) (.inr hb)
set_option maxHeartbeats 2000000 in
set_option maxRecDepth 1000000 in
theorem r7Raised_any (w : World) (v0 v1 v2 v3 u0 u1 u2 u3 : Int) : Calls Tryz.prog 38 #[vecV v0 v1 v2 v3, vecV u0 u1 u2 u3] w fun e w' => e = .returned (.agg (vecC (maxF (vecF v0 v1 v2 v3) (vecF u0 u1 u2 u3)))) ∧ Frm NoS w w' := by
  have HS := Lib.hid (Vec3.start w v0 v1 v2 v3 u0 u1 u2 u3 23 23)
  unfold vecV
  generalize hf : vecF v0 v1 v2 v3 = f at *
  generalize hg : vecF u0 u1 u2 u3 = g at *
  clear hf hg
  go_enter Tryz.func38, Tryz.ntmps38
  go_wp2
  go_loopw [6] (fun i ww => ∃ k : Nat, k ≤ 4 ∧ i = .int .i64 k ∧ Vec3 w ww (upF f g k) g 23 23) (fun i _ => 4 - (intOf i).toNat)
  case atStart => exact ⟨0, Nat.zero_le _, rfl, HS.out.congr fun d h0 h4 => by unfold upF; rw [if_neg (by omega)]⟩
  case round =>
    obtain ⟨k, hk, rfl, hv⟩ := hrel
    have HV := Lib.hid hv; clear hv
    by_cases hlt : k < 4
    · have hki : (k : Int) < 4 := by omega
      have c0 := HV.out.a.cell hlt
      have c1 := HV.out.b.cell hlt
      have g0 := HV.out.a.free k
      have hbl : w.heap.size < wr.heap.size := lt_of_block HV.out.a
      have HST := Lib.hid (HV.out.set hlt (if f k < g k then g k else f k))
      have HSM := Lib.hid (HV.out.set hlt (max (f k) (g k)))
      rw [upF_at] at c0
      have hup : ∀ d, setF (upF f g k) k (if f k < g k then g k else f k) d = upF f g (k + 1) d := fun d => by rw [max_ite]; exact upF_step f g k d
      have HUP := Lib.hid hup; clear hup
      have HUM := Lib.hid (fun d => upF_step f g k d)
      generalize f k = x at *
      generalize g k = y at *
      go_wp2_with fail
      go_region
      go_wp2
      go_roundw
      case rel => first | exact ⟨k + 1, by omega, by go_num, (HST.out.congr fun d h0 h4 => HUP.out d).keep (Frm.drew _ _)⟩ | exact ⟨k + 1, by omega, by go_num, (HSM.out.congr fun d h0 h4 => HUM.out d).keep (Frm.drew _ _)⟩
      case measure => simp [intOf]; omega
    · obtain rfl : k = 4 := by omega
      have HV2 := Lib.hid (HV.out.congr fun d h0 h4 => upF_all f g h4)
      generalize hmf : maxF f g = h at *
      have HMF := Lib.hid hmf; clear hmf
      have c0 := HV2.out.a.cell (k := 0) (by decide)
      have c1 := HV2.out.a.cell (k := 1) (by decide)
      have c2 := HV2.out.a.cell (k := 2) (by decide)
      have c3 := HV2.out.a.cell (k := 3) (by decide)
      have r0 := HV2.out.r.cell (k := 0) (by decide)
      have r1 := HV2.out.r.cell (k := 1) (by decide)
      have r2 := HV2.out.r.cell (k := 2) (by decide)
      have r3 := HV2.out.r.cell (k := 3) (by decide)
      have g0 := HV2.out.r.free 0
      have g1 := HV2.out.r.free 1
      have g2 := HV2.out.r.free 2
      have g3 := HV2.out.r.free 3
      have HR := Lib.hid (HV2.out.r.set4 h)
      have HF := Lib.hid (HV2.out.frm.set4 (b := w.heap.size + 1 + 1) (by omega) (.int .i64 (h 0)) (.int .i64 (h 1)) (.int .i64 (h 2)) (.int .i64 (h 3)))
      go_wp2
      clear c0 c1 c2 c3 r0 r1 r2 r3 g0 g1 g2 g3
      have r0 := HR.out.cell (k := 0) (by decide)
      have r1 := HR.out.cell (k := 1) (by decide)
      have r2 := HR.out.cell (k := 2) (by decide)
      have r3 := HR.out.cell (k := 3) (by decide)
      exact bodyPost_ret (v := .agg (vecC h)) (by simp [results, Tryz.results38, go_sem, r0, r1, r2, r3, vecC]) rfl ⟨by rw [HMF.out], HF.out⟩
end Go.Proofs.YtclfajhdonabhaaGreat

/- bundle: Ready, Known, Behind; tributaryref22: Ready, Behind: the walks. Printed by wip/readygen.py. -/
namespace Go.Proofs.YtclfajhdonabhaaGreat
open Go.RowKit

set_option maxHeartbeats 4000000 in
set_option maxRecDepth 1000000 in
theorem bKnown_any (Q : Nat → Prop) (es : List Ent) (ks : KidsL) (c : CtxL) (w : World) (dc af la v0 v1 v2 v3 u0 u1 u2 u3 : Int) (ev kv cv : Value) (h : CauAt Q w ev kv cv es ks c) (hok : CauOk es ks c) :
    Calls Tryz.prog 10 #[.agg #[.int .i64 dc, .int .i64 af, .int .i64 la, .int .i64 v0, .int .i64 v1, .int .i64 v2, .int .i64 v3, ev, kv, cv], vecV u0 u1 u2 u3] w fun e w' => e = .returned (.bool (tf (BunRight dc af la (vecF v0 v1 v2 v3) es ks c ∧ la ≤ (vecF u0 u1 u2 u3) dc))) ∧ Frm NoS w w' := by
  obtain ⟨a0, c0, a1, c1, a2, c2, rfl, rfl, rfl⟩ := h.shape
  have HR := Lib.hid (fun W (f : Frm NoS w W) => bRight_any Q es ks c W dc af la v0 v1 v2 v3 _ _ _ (h.keep0 f) hok)
  clear h hok
  unfold vecV
  by_cases hr : BunRight dc af la (vecF v0 v1 v2 v3) es ks c
  · rw [tf_true hr] at HR
    have hy : tf (BunRight dc af la (vecF v0 v1 v2 v3) es ks c ∧ la ≤ (vecF u0 u1 u2 u3) dc) = decide (la ≤ (vecF u0 u1 u2 u3) dc) := (tf_bool (by rw [decide_eq_true_iff]; exact ⟨fun h => ⟨hr, h⟩, fun h => h.2⟩)).symm
    rw [hy]
    have hn := hr.nums
    clear hy hr
    obtain ⟨dn, hdn⟩ : ∃ dn : Nat, dc = dn := ⟨dc.toNat, by have := hn.1; omega⟩
    have hd4 : dn < 4 := by have := hn.2.1; omega
    have hd4i : (dn : Int) < 4 := by omega
    have hd4b : decide ((dn : Int) < 4) = true := by simpa using hd4i
    clear hn
    subst hdn
    generalize es.length = n at *
    generalize ks.len = m at *
    generalize c.length = k at *
    obtain ⟨α, hne, K, hK1, hK0, hK2⟩ := worlds ((w.alloc (.cells #[.int .i64 dn, .int .i64 af, .int .i64 la, .int .i64 v0, .int .i64 v1, .int .i64 v2, .int .i64 v3, .slice a0 n c0, .slice a1 m c1, .slice a2 k c2] 36)).alloc (.cells #[.int .i64 u0, .int .i64 u1, .int .i64 u2, .int .i64 u3] 23))
    have HFK := Lib.hid (fun s => ((Frm.alloc NoS w (.cells #[.int .i64 dn, .int .i64 af, .int .i64 la, .int .i64 v0, .int .i64 v1, .int .i64 v2, .int .i64 v3, .slice a0 n c0, .slice a1 m c1, .slice a2 k c2] 36)).alloc1 (o := .cells #[.int .i64 u0, .int .i64 u1, .int .i64 u2, .int .i64 u3] 23)).then1 (hK1 s))
    have kb := fun s => box10 w _ _ _ _ _ _ _ _ _ _ _ (K s) ((Frm.alloc NoS _ _).then1 (hK1 s))
    have k0 := fun s => (kb s).1
    have k1 := fun s => (kb s).2.1
    have k2 := fun s => (kb s).2.2.1
    have k3 := fun s => (kb s).2.2.2.1
    have k4 := fun s => (kb s).2.2.2.2.1
    have k5 := fun s => (kb s).2.2.2.2.2.1
    have k6 := fun s => (kb s).2.2.2.2.2.2.1
    have k7 := fun s => (kb s).2.2.2.2.2.2.2.1
    have k8 := fun s => (kb s).2.2.2.2.2.2.2.2.1
    have k9 := fun s => (kb s).2.2.2.2.2.2.2.2.2
    clear kb
    have hvu : ∀ s, VecAt (K s) (w.heap.size + 1) (vecF u0 u1 u2 u3) 23 := fun s => (show VecAt ((w.alloc (.cells #[.int .i64 dn, .int .i64 af, .int .i64 la, .int .i64 v0, .int .i64 v1, .int .i64 v2, .int .i64 v3, .slice a0 n c0, .slice a1 m c1, .slice a2 k c2] 36)).alloc (.cells #[.int .i64 u0, .int .i64 u1, .int .i64 u2, .int .i64 u3] 23)) (w.heap.size + 1) (vecF u0 u1 u2 u3) 23 from (two_blocks w _ _ _).1).keep (hK1 s)
    have HVU := Lib.hid hvu; clear hvu
    have kd := fun s => (HVU.out s).cell hd4
    generalize (vecF u0 u1 u2 u3) dn = x at *
    go_enter Tryz.func10, Tryz.ntmps10
    go_wp2_with fail
    refine wp_region_new K (by kernel_rfl) (by kernel_rfl) hK0 ?_
    repeat (go_big_quiet_step ((go_at_call 27; exact Calls.in_class hK2 (HR.out _ (HFK.out _)))))
    refine wpQuiet_nil ?_
    intro w' hw'
    obtain ⟨s, rfl⟩ := hw'
    go_wp2
    go_ret
    exact ⟨rfl, HFK.out s⟩
  · rw [tf_false hr] at HR
    rw [tf_false fun h => hr h.1]
    clear hr
    generalize es.length = n at *
    generalize ks.len = m at *
    generalize c.length = k at *
    obtain ⟨α, hne, K, hK1, hK0, hK2⟩ := worlds ((w.alloc (.cells #[.int .i64 dc, .int .i64 af, .int .i64 la, .int .i64 v0, .int .i64 v1, .int .i64 v2, .int .i64 v3, .slice a0 n c0, .slice a1 m c1, .slice a2 k c2] 36)).alloc (.cells #[.int .i64 u0, .int .i64 u1, .int .i64 u2, .int .i64 u3] 23))
    have HFK := Lib.hid (fun s => ((Frm.alloc NoS w (.cells #[.int .i64 dc, .int .i64 af, .int .i64 la, .int .i64 v0, .int .i64 v1, .int .i64 v2, .int .i64 v3, .slice a0 n c0, .slice a1 m c1, .slice a2 k c2] 36)).alloc1 (o := .cells #[.int .i64 u0, .int .i64 u1, .int .i64 u2, .int .i64 u3] 23)).then1 (hK1 s))
    have kb := fun s => box10 w _ _ _ _ _ _ _ _ _ _ _ (K s) ((Frm.alloc NoS _ _).then1 (hK1 s))
    have k0 := fun s => (kb s).1
    have k1 := fun s => (kb s).2.1
    have k2 := fun s => (kb s).2.2.1
    have k3 := fun s => (kb s).2.2.2.1
    have k4 := fun s => (kb s).2.2.2.2.1
    have k5 := fun s => (kb s).2.2.2.2.2.1
    have k6 := fun s => (kb s).2.2.2.2.2.2.1
    have k7 := fun s => (kb s).2.2.2.2.2.2.2.1
    have k8 := fun s => (kb s).2.2.2.2.2.2.2.2.1
    have k9 := fun s => (kb s).2.2.2.2.2.2.2.2.2
    clear kb
    have hvu : ∀ s, VecAt (K s) (w.heap.size + 1) (vecF u0 u1 u2 u3) 23 := fun s => (show VecAt ((w.alloc (.cells #[.int .i64 dc, .int .i64 af, .int .i64 la, .int .i64 v0, .int .i64 v1, .int .i64 v2, .int .i64 v3, .slice a0 n c0, .slice a1 m c1, .slice a2 k c2] 36)).alloc (.cells #[.int .i64 u0, .int .i64 u1, .int .i64 u2, .int .i64 u3] 23)) (w.heap.size + 1) (vecF u0 u1 u2 u3) 23 from (two_blocks w _ _ _).1).keep (hK1 s)
    have HVU := Lib.hid hvu; clear hvu
    go_enter Tryz.func10, Tryz.ntmps10
    go_wp2_with fail
    refine wp_region_new K (by kernel_rfl) (by kernel_rfl) hK0 ?_
    repeat (go_big_quiet_step ((go_at_call 27; exact Calls.in_class hK2 (HR.out _ (HFK.out _)))))
    refine wpQuiet_nil ?_
    intro w' hw'
    obtain ⟨s, rfl⟩ := hw'
    go_wp2
    go_ret
    exact ⟨rfl, HFK.out s⟩
set_option maxHeartbeats 4000000 in
set_option maxRecDepth 1000000 in
theorem bReady_any (Q : Nat → Prop) (es : List Ent) (ks : KidsL) (c : CtxL) (w : World) (dc af la v0 v1 v2 v3 u0 u1 u2 u3 : Int) (ev kv cv : Value) (h : CauAt Q w ev kv cv es ks c) (hok : CauOk es ks c) :
    Calls Tryz.prog 9 #[.agg #[.int .i64 dc, .int .i64 af, .int .i64 la, .int .i64 v0, .int .i64 v1, .int .i64 v2, .int .i64 v3, ev, kv, cv], vecV u0 u1 u2 u3] w fun e w' => e = .returned (.bool (tf (BunRight dc af la (vecF v0 v1 v2 v3) es ks c ∧ (vecF u0 u1 u2 u3) dc = af ∧ AtMostP (vecF v0 v1 v2 v3) (vecF u0 u1 u2 u3)))) ∧ Frm NoS w w' := by
  obtain ⟨a0, c0, a1, c1, a2, c2, rfl, rfl, rfl⟩ := h.shape
  have HR := Lib.hid (fun W (f : Frm NoS w W) => bRight_any Q es ks c W dc af la v0 v1 v2 v3 _ _ _ (h.keep0 f) hok)
  clear h hok
  have hix : ∀ (k : Nat), k < 4 → ∀ W, (Instr.index 23 (.agg #[.int .i64 v0, .int .i64 v1, .int .i64 v2, .int .i64 v3]) (.int .i64 (k : Int))).run Tryz.prog W = .ok (.int .i64 ((vecF v0 v1 v2 v3) k)) W := fun k hk => by
    rcases (by omega : k = 0 ∨ k = 1 ∨ k = 2 ∨ k = 3) with rfl | rfl | rfl | rfl <;> exact fun _ => by kernel_rfl
  have HIX := Lib.hid hix; clear hix
  unfold vecV
  by_cases hr : BunRight dc af la (vecF v0 v1 v2 v3) es ks c
  · rw [tf_true hr] at HR
    have hn := hr.nums
    have HRR := Lib.hid hr; clear hr
    obtain ⟨dn, hdn⟩ : ∃ dn : Nat, dc = dn := ⟨dc.toNat, by have := hn.1; omega⟩
    have hd4 : dn < 4 := by have := hn.2.1; omega
    have hd4i : (dn : Int) < 4 := by omega
    have hd4b : decide ((dn : Int) < 4) = true := by simpa using hd4i
    clear hn
    subst hdn
    have HPO := Lib.hid (show ∀ b : Bool, b = tf ((vecF u0 u1 u2 u3) dn = af ∧ AtMostP (vecF v0 v1 v2 v3) (vecF u0 u1 u2 u3)) → b = tf (BunRight dn af la (vecF v0 v1 v2 v3) es ks c ∧ (vecF u0 u1 u2 u3) dn = af ∧ AtMostP (vecF v0 v1 v2 v3) (vecF u0 u1 u2 u3)) from fun b hb => hb.trans (tf_congr ⟨fun h => ⟨HRR.out, h⟩, fun h => h.2⟩))
    clear HRR
    generalize BunRight dn af la (vecF v0 v1 v2 v3) es ks c = R at *
    generalize es.length = n at *
    generalize ks.len = m at *
    generalize c.length = k at *
    obtain ⟨α, hne, K, hK1, hK0, hK2⟩ := worlds ((w.alloc (.cells #[.int .i64 dn, .int .i64 af, .int .i64 la, .int .i64 v0, .int .i64 v1, .int .i64 v2, .int .i64 v3, .slice a0 n c0, .slice a1 m c1, .slice a2 k c2] 36)).alloc (.cells #[.int .i64 u0, .int .i64 u1, .int .i64 u2, .int .i64 u3] 23))
    have HFK := Lib.hid (fun s => ((Frm.alloc NoS w (.cells #[.int .i64 dn, .int .i64 af, .int .i64 la, .int .i64 v0, .int .i64 v1, .int .i64 v2, .int .i64 v3, .slice a0 n c0, .slice a1 m c1, .slice a2 k c2] 36)).alloc1 (o := .cells #[.int .i64 u0, .int .i64 u1, .int .i64 u2, .int .i64 u3] 23)).then1 (hK1 s))
    have kb := fun s => box10 w _ _ _ _ _ _ _ _ _ _ _ (K s) ((Frm.alloc NoS _ _).then1 (hK1 s))
    have k0 := fun s => (kb s).1
    have k1 := fun s => (kb s).2.1
    have k2 := fun s => (kb s).2.2.1
    have k3 := fun s => (kb s).2.2.2.1
    have k4 := fun s => (kb s).2.2.2.2.1
    have k5 := fun s => (kb s).2.2.2.2.2.1
    have k6 := fun s => (kb s).2.2.2.2.2.2.1
    have k7 := fun s => (kb s).2.2.2.2.2.2.2.1
    have k8 := fun s => (kb s).2.2.2.2.2.2.2.2.1
    have k9 := fun s => (kb s).2.2.2.2.2.2.2.2.2
    clear kb
    have hvu : ∀ s, VecAt (K s) (w.heap.size + 1) (vecF u0 u1 u2 u3) 23 := fun s => (show VecAt ((w.alloc (.cells #[.int .i64 dn, .int .i64 af, .int .i64 la, .int .i64 v0, .int .i64 v1, .int .i64 v2, .int .i64 v3, .slice a0 n c0, .slice a1 m c1, .slice a2 k c2] 36)).alloc (.cells #[.int .i64 u0, .int .i64 u1, .int .i64 u2, .int .i64 u3] 23)) (w.heap.size + 1) (vecF u0 u1 u2 u3) 23 from (two_blocks w _ _ _).1).keep (hK1 s)
    have HVU := Lib.hid hvu; clear hvu
    have kd := fun s => (HVU.out s).cell hd4
    generalize hfv : (vecF v0 v1 v2 v3) = f at *
    generalize hfu : (vecF u0 u1 u2 u3) = g at *
    clear hfv hfu
    by_cases he : g dn = af
    · have HEQ := Lib.hid he
      rw [he] at kd
      clear he
      go_enter Tryz.func9, Tryz.ntmps9
      go_wp2_with fail
      refine wp_region_new K (by kernel_rfl) (by kernel_rfl) hK0 ?_
      repeat (go_big_quiet_step ((go_at_call 27; exact Calls.in_class hK2 (HR.out _ (HFK.out _)))))
      refine wpQuiet_nil ?_
      intro w' hw'
      obtain ⟨s, rfl⟩ := hw'
      have HVS := Lib.hid (HVU.out s)
      have HFS := Lib.hid (HFK.out s)
      have y3 := k3 s
      have y4 := k4 s
      have y5 := k5 s
      have y6 := k6 s
      clear kd k0 k1 k2 k3 k4 k5 k6 k7 k8 k9 HFK HVU HR
      generalize K s = X at *
      clear hK0 hK1 hK2
      go_wp2
      clear y3 y4 y5 y6
      go_loopw [21] (fun i ww => ∃ k : Nat, k ≤ 4 ∧ i = .int .i64 k ∧ (∀ d : Int, 0 ≤ d → d < k → f d ≤ g d) ∧ Frm NoS X ww) (fun i _ => 4 - (intOf i).toNat)
      case atStart => exact ⟨0, Nat.zero_le _, rfl, (fun d h0 h1 => by have : d < 0 := h1; omega), Frm.refl _ _⟩
      case round =>
        obtain ⟨k, hk, rfl, hrr, hw⟩ := hrel
        have HRK := Lib.hid hrr; clear hrr
        have HW := Lib.hid hw; clear hw
        by_cases hlt : k < 4
        · have hki : (k : Int) < 4 := by omega
          have hx := HIX.out k hlt
          have c1 := (HVS.out.keep HW.out).cell hlt
          have hst : f k ≤ g k → ∀ d : Int, 0 ≤ d → d < ((k + 1 : Nat) : Int) → f d ≤ g d := fun h d h0 h1 => by
            by_cases he : d = k
            · subst he; exact h
            · exact HRK.out d h0 (by omega)
          have hno : g k < f k → ¬ AtMostP f g := fun h h2 => by have := h2 k (by omega) hki; omega
          have HST := Lib.hid hst; clear hst
          have HNO := Lib.hid hno; clear hno
          generalize f k = x at *
          generalize g k = y at *
          cases hc : decide (y < x) with
          | true =>
            have HC := Lib.hid hc
            go_wp2
            go_ret
            exact ⟨ret_bool (HPO.out _ (tf_false fun h => HNO.out (by simpa using HC.out) h.2).symm), HFS.out.then1 HW.out⟩
          | false =>
            have HC := Lib.hid hc
            go_wp2
            go_roundw
            case rel => exact ⟨k + 1, by omega, by go_num, HST.out (by have := HC.out; simp at this; exact this), HW.out⟩
            case measure => simp [intOf]; omega
        · obtain rfl : k = 4 := by omega
          go_wp2
          go_ret
          exact ⟨ret_bool (HPO.out _ (tf_true ⟨HEQ.out, fun d h0 h4 => HRK.out d h0 h4⟩).symm), HFS.out.then1 HW.out⟩
    · have HNE := Lib.hid he
      have hb : ((g dn : Int) == af) = false := by simpa using he
      clear he
      generalize g dn = x at *
      go_enter Tryz.func9, Tryz.ntmps9
      go_wp2_with fail
      refine wp_region_new K (by kernel_rfl) (by kernel_rfl) hK0 ?_
      repeat (go_big_quiet_step ((go_at_call 27; exact Calls.in_class hK2 (HR.out _ (HFK.out _)))))
      refine wpQuiet_nil ?_
      intro w' hw'
      obtain ⟨s, rfl⟩ := hw'
      go_wp2
      go_ret
      exact ⟨ret_bool (HPO.out _ (tf_false fun h => HNE.out h.1).symm), HFK.out s⟩
  · rw [tf_false hr] at HR
    rw [tf_false fun h => hr h.1]
    clear hr HIX
    generalize es.length = n at *
    generalize ks.len = m at *
    generalize c.length = k at *
    obtain ⟨α, hne, K, hK1, hK0, hK2⟩ := worlds ((w.alloc (.cells #[.int .i64 dc, .int .i64 af, .int .i64 la, .int .i64 v0, .int .i64 v1, .int .i64 v2, .int .i64 v3, .slice a0 n c0, .slice a1 m c1, .slice a2 k c2] 36)).alloc (.cells #[.int .i64 u0, .int .i64 u1, .int .i64 u2, .int .i64 u3] 23))
    have HFK := Lib.hid (fun s => ((Frm.alloc NoS w (.cells #[.int .i64 dc, .int .i64 af, .int .i64 la, .int .i64 v0, .int .i64 v1, .int .i64 v2, .int .i64 v3, .slice a0 n c0, .slice a1 m c1, .slice a2 k c2] 36)).alloc1 (o := .cells #[.int .i64 u0, .int .i64 u1, .int .i64 u2, .int .i64 u3] 23)).then1 (hK1 s))
    have kb := fun s => box10 w _ _ _ _ _ _ _ _ _ _ _ (K s) ((Frm.alloc NoS _ _).then1 (hK1 s))
    have k0 := fun s => (kb s).1
    have k1 := fun s => (kb s).2.1
    have k2 := fun s => (kb s).2.2.1
    have k3 := fun s => (kb s).2.2.2.1
    have k4 := fun s => (kb s).2.2.2.2.1
    have k5 := fun s => (kb s).2.2.2.2.2.1
    have k6 := fun s => (kb s).2.2.2.2.2.2.1
    have k7 := fun s => (kb s).2.2.2.2.2.2.2.1
    have k8 := fun s => (kb s).2.2.2.2.2.2.2.2.1
    have k9 := fun s => (kb s).2.2.2.2.2.2.2.2.2
    clear kb
    have hvu : ∀ s, VecAt (K s) (w.heap.size + 1) (vecF u0 u1 u2 u3) 23 := fun s => (show VecAt ((w.alloc (.cells #[.int .i64 dc, .int .i64 af, .int .i64 la, .int .i64 v0, .int .i64 v1, .int .i64 v2, .int .i64 v3, .slice a0 n c0, .slice a1 m c1, .slice a2 k c2] 36)).alloc (.cells #[.int .i64 u0, .int .i64 u1, .int .i64 u2, .int .i64 u3] 23)) (w.heap.size + 1) (vecF u0 u1 u2 u3) 23 from (two_blocks w _ _ _).1).keep (hK1 s)
    have HVU := Lib.hid hvu; clear hvu
    go_enter Tryz.func9, Tryz.ntmps9
    go_wp2_with fail
    refine wp_region_new K (by kernel_rfl) (by kernel_rfl) hK0 ?_
    repeat (go_big_quiet_step ((go_at_call 27; exact Calls.in_class hK2 (HR.out _ (HFK.out _)))))
    refine wpQuiet_nil ?_
    intro w' hw'
    obtain ⟨s, rfl⟩ := hw'
    go_wp2
    go_ret
    exact ⟨rfl, HFK.out s⟩
end Go.Proofs.YtclfajhdonabhaaGreat

/- bundle: Behind; tributaryref22: Ready, Behind: the walks. Printed by wip/readygen.py. -/
namespace Go.Proofs.YtclfajhdonabhaaGreat
open Go.RowKit

/-- What is known behind a bundle. -/
def behF (u v : Int → Int) (dc la : Int) : Int → Int := setF (maxF u v) dc (max (maxF u v dc) la)
/-- Three blocks: the one of a vector that is turned, a bundle's, the result's. -/
structure Beh (w ww : World) (f : Int → Int) (cs : Array Value) (T TB : TypeId) : Prop where
  a : VecAt ww w.heap.size f T
  b : ww.heap[w.heap.size + 1]? = some (.cells cs TB (0, 0))
  r : VecAt ww (w.heap.size + 1 + 1) (fun _ => 0) T
  frm : Frm NoS w ww
theorem Beh.start (w : World) (u0 u1 u2 u3 : Int) (cs : Array Value) (T TB : TypeId) : Beh w (((w.alloc (.cells #[.int .i64 u0, .int .i64 u1, .int .i64 u2, .int .i64 u3] T)).alloc (.cells cs TB)).alloc (.cells #[.int .i64 0, .int .i64 0, .int .i64 0, .int .i64 0] T)) (vecF u0 u1 u2 u3) cs T TB := by
  have h0 := heap_alloc_new w (.cells #[.int .i64 u0, .int .i64 u1, .int .i64 u2, .int .i64 u3] T)
  have h1 := heap_alloc_new (w.alloc (.cells #[.int .i64 u0, .int .i64 u1, .int .i64 u2, .int .i64 u3] T)) (.cells cs TB)
  have h2 := heap_alloc_new ((w.alloc (.cells #[.int .i64 u0, .int .i64 u1, .int .i64 u2, .int .i64 u3] T)).alloc (.cells cs TB)) (.cells #[.int .i64 0, .int .i64 0, .int .i64 0, .int .i64 0] T)
  have sz : ∀ (u : World) (o : Obj), (u.alloc o).heap.size = u.heap.size + 1 := fun u o => by simp
  simp only [sz] at h1 h2
  exact ⟨((Frm.alloc NoS _ _).alloc1).blk h0 id, (Frm.alloc NoS _ _).blk h1 id, h2, ((Frm.alloc NoS _ _).alloc1).alloc1⟩
theorem Beh.keep {w ww w' : World} {f : Int → Int} {cs : Array Value} {T TB : TypeId} (h : Beh w ww f cs T TB) (fr : Frm NoS ww w') : Beh w w' f cs T TB := ⟨h.a.keep fr, fr.blk h.b id, h.r.keep fr, h.frm.then1 fr⟩
theorem Beh.set {w ww : World} {f : Int → Int} {cs : Array Value} {T TB : TypeId} (h : Beh w ww f cs T TB) {k : Nat} (hk : k < 4) (x : Int) : Beh w (ww.setCell ⟨w.heap.size, k, none⟩ (.int .i64 x)) (setF f k x) cs T TB :=
  ⟨h.a.set hk x, (set_else (by omega)).trans h.b, (set_else (by omega)).trans h.r, h.frm.set1 (.inr (Nat.le_refl _))⟩
theorem Beh.set4 {w ww : World} {f : Int → Int} {cs : Array Value} {T TB : TypeId} (h : Beh w ww f cs T TB) (g : Int → Int) :
    Beh w ((((ww.setCell ⟨w.heap.size, 0, none⟩ (.int .i64 (g 0))).setCell ⟨w.heap.size, 1, none⟩ (.int .i64 (g 1))).setCell ⟨w.heap.size, 2, none⟩ (.int .i64 (g 2))).setCell ⟨w.heap.size, 3, none⟩ (.int .i64 (g 3))) g cs T TB := by
  have := (((h.set (k := 0) (by decide) (g 0)).set (k := 1) (by decide) (g 1)).set (k := 2) (by decide) (g 2)).set (k := 3) (by decide) (g 3)
  refine ⟨this.a.congr fun d h0 h4 => ?_, this.b, this.r, this.frm⟩
  rcases four h0 h4 with rfl | rfl | rfl | rfl <;> simp [setF]
theorem Beh.congr {w ww : World} {f f' : Int → Int} {cs : Array Value} {T TB : TypeId} (h : Beh w ww f cs T TB) (he : ∀ d, 0 ≤ d → d < 4 → f d = f' d) : Beh w ww f' cs T TB := ⟨h.a.congr he, h.b, h.r, h.frm⟩
set_option maxHeartbeats 4000000 in
set_option maxRecDepth 1000000 in
theorem bBehind_no (Q : Nat → Prop) (es : List Ent) (ks : KidsL) (c : CtxL) (w : World) (dc af la v0 v1 v2 v3 u0 u1 u2 u3 : Int) (ev kv cv : Value) (h : CauAt Q w ev kv cv es ks c) (hok : CauOk es ks c) (hr : ¬ BunRight dc af la (vecF v0 v1 v2 v3) es ks c) :
    Calls Tryz.prog 11 #[vecV u0 u1 u2 u3, .agg #[.int .i64 dc, .int .i64 af, .int .i64 la, .int .i64 v0, .int .i64 v1, .int .i64 v2, .int .i64 v3, ev, kv, cv]] w fun e w' => e = .returned (.agg (vecC (vecF u0 u1 u2 u3))) ∧ Frm NoS w w' := by
  obtain ⟨a0, c0, a1, c1, a2, c2, rfl, rfl, rfl⟩ := h.shape
  have HR := Lib.hid (fun W (f : Frm NoS w W) => tf_false hr ▸ bRight_any Q es ks c W dc af la v0 v1 v2 v3 _ _ _ (h.keep0 f) hok)
  clear h hok hr
  generalize es.length = n at *
  generalize ks.len = m at *
  generalize c.length = k at *
  have hst := Beh.start w u0 u1 u2 u3 #[.int .i64 dc, .int .i64 af, .int .i64 la, .int .i64 v0, .int .i64 v1, .int .i64 v2, .int .i64 v3, .slice a0 n c0, .slice a1 m c1, .slice a2 k c2] 23 36
  have HST := Lib.hid hst; clear hst
  unfold vecV
  go_enter Tryz.func11, Tryz.ntmps11
  go_wp2_with (go_at_call 27; go_loud (refine (HR.out _ HST.out.frm).mono ?_); rintro e w1 ⟨rfl, hw1⟩; have HB1 := Lib.hid (HST.out.keep hw1); clear hw1; have a0' : w1.cell? ⟨w.heap.size, 0, none⟩ = some (.int .i64 u0) := HB1.out.a.cell (k := 0) (by decide); have a1' : w1.cell? ⟨w.heap.size, 1, none⟩ = some (.int .i64 u1) := HB1.out.a.cell (k := 1) (by decide); have a2' : w1.cell? ⟨w.heap.size, 2, none⟩ = some (.int .i64 u2) := HB1.out.a.cell (k := 2) (by decide); have a3' : w1.cell? ⟨w.heap.size, 3, none⟩ = some (.int .i64 u3) := HB1.out.a.cell (k := 3) (by decide); have r0 := HB1.out.r.cell (k := 0) (by decide); have g0 := HB1.out.r.free 0; have r1 := HB1.out.r.cell (k := 1) (by decide); have g1 := HB1.out.r.free 1; have r2 := HB1.out.r.cell (k := 2) (by decide); have g2 := HB1.out.r.free 2; have r3 := HB1.out.r.cell (k := 3) (by decide); have g3 := HB1.out.r.free 3; have HR4 := Lib.hid (show VecAt ((((w1.setCell ⟨w.heap.size + 1 + 1, 0, none⟩ (.int .i64 u0)).setCell ⟨w.heap.size + 1 + 1, 1, none⟩ (.int .i64 u1)).setCell ⟨w.heap.size + 1 + 1, 2, none⟩ (.int .i64 u2)).setCell ⟨w.heap.size + 1 + 1, 3, none⟩ (.int .i64 u3)) (w.heap.size + 1 + 1) (vecF u0 u1 u2 u3) 23 from HB1.out.r.set4 (vecF u0 u1 u2 u3)); have HF4 := Lib.hid (HB1.out.frm.set4 (b := w.heap.size + 1 + 1) (by omega) (.int .i64 u0) (.int .i64 u1) (.int .i64 u2) (.int .i64 u3)))
  clear a0' a1' a2' a3' r0 r1 r2 r3 g0 g1 g2 g3
  have r0 : ((((w1.setCell ⟨w.heap.size + 1 + 1, 0, none⟩ (.int .i64 u0)).setCell ⟨w.heap.size + 1 + 1, 1, none⟩ (.int .i64 u1)).setCell ⟨w.heap.size + 1 + 1, 2, none⟩ (.int .i64 u2)).setCell ⟨w.heap.size + 1 + 1, 3, none⟩ (.int .i64 u3)).cell? ⟨w.heap.size + 1 + 1, 0, none⟩ = some (.int .i64 u0) := HR4.out.cell (k := 0) (by decide)
  have r1 : ((((w1.setCell ⟨w.heap.size + 1 + 1, 0, none⟩ (.int .i64 u0)).setCell ⟨w.heap.size + 1 + 1, 1, none⟩ (.int .i64 u1)).setCell ⟨w.heap.size + 1 + 1, 2, none⟩ (.int .i64 u2)).setCell ⟨w.heap.size + 1 + 1, 3, none⟩ (.int .i64 u3)).cell? ⟨w.heap.size + 1 + 1, 1, none⟩ = some (.int .i64 u1) := HR4.out.cell (k := 1) (by decide)
  have r2 : ((((w1.setCell ⟨w.heap.size + 1 + 1, 0, none⟩ (.int .i64 u0)).setCell ⟨w.heap.size + 1 + 1, 1, none⟩ (.int .i64 u1)).setCell ⟨w.heap.size + 1 + 1, 2, none⟩ (.int .i64 u2)).setCell ⟨w.heap.size + 1 + 1, 3, none⟩ (.int .i64 u3)).cell? ⟨w.heap.size + 1 + 1, 2, none⟩ = some (.int .i64 u2) := HR4.out.cell (k := 2) (by decide)
  have r3 : ((((w1.setCell ⟨w.heap.size + 1 + 1, 0, none⟩ (.int .i64 u0)).setCell ⟨w.heap.size + 1 + 1, 1, none⟩ (.int .i64 u1)).setCell ⟨w.heap.size + 1 + 1, 2, none⟩ (.int .i64 u2)).setCell ⟨w.heap.size + 1 + 1, 3, none⟩ (.int .i64 u3)).cell? ⟨w.heap.size + 1 + 1, 3, none⟩ = some (.int .i64 u3) := HR4.out.cell (k := 3) (by decide)
  generalize ((((w1.setCell ⟨w.heap.size + 1 + 1, 0, none⟩ (.int .i64 u0)).setCell ⟨w.heap.size + 1 + 1, 1, none⟩ (.int .i64 u1)).setCell ⟨w.heap.size + 1 + 1, 2, none⟩ (.int .i64 u2)).setCell ⟨w.heap.size + 1 + 1, 3, none⟩ (.int .i64 u3)) = X at *
  exact bodyPost_ret (v := .agg (vecC (vecF u0 u1 u2 u3))) (by simp [results, Tryz.results11, go_sem, r0, r1, r2, r3, vecC, vecF]) rfl ⟨rfl, HF4.out⟩
set_option maxHeartbeats 4000000 in
set_option maxRecDepth 1000000 in
theorem bBehind_ok (Q : Nat → Prop) (es : List Ent) (ks : KidsL) (c : CtxL) (w : World) (dc af la v0 v1 v2 v3 u0 u1 u2 u3 : Int) (ev kv cv : Value) (h : CauAt Q w ev kv cv es ks c) (hok : CauOk es ks c) (hr : BunRight dc af la (vecF v0 v1 v2 v3) es ks c) :
    Calls Tryz.prog 11 #[vecV u0 u1 u2 u3, .agg #[.int .i64 dc, .int .i64 af, .int .i64 la, .int .i64 v0, .int .i64 v1, .int .i64 v2, .int .i64 v3, ev, kv, cv]] w fun e w' => e = .returned (.agg (vecC (behF (vecF u0 u1 u2 u3) (vecF v0 v1 v2 v3) dc la))) ∧ Frm NoS w w' := by
  obtain ⟨a0, c0, a1, c1, a2, c2, rfl, rfl, rfl⟩ := h.shape
  have HR := Lib.hid (fun W (f : Frm NoS w W) => tf_true hr ▸ bRight_any Q es ks c W dc af la v0 v1 v2 v3 _ _ _ (h.keep0 f) hok)
  have hn := hr.nums
  clear h hok hr
  obtain ⟨dn, hdn⟩ : ∃ dn : Nat, dc = dn := ⟨dc.toNat, by have := hn.1; omega⟩
  have hd4 : dn < 4 := by have := hn.2.1; omega
  have hd4i : (dn : Int) < 4 := by omega
  have hd4b : decide ((dn : Int) < 4) = true := by simpa using hd4i
  clear hn
  subst hdn
  generalize es.length = n at *
  generalize ks.len = m at *
  generalize c.length = k at *
  have hix : ∀ (k : Nat), k < 4 → ∀ W, (Instr.index 23 (.agg #[.int .i64 v0, .int .i64 v1, .int .i64 v2, .int .i64 v3]) (.int .i64 (k : Int))).run Tryz.prog W = .ok (.int .i64 ((vecF v0 v1 v2 v3) k)) W := fun k hk => by
    rcases (by omega : k = 0 ∨ k = 1 ∨ k = 2 ∨ k = 3) with rfl | rfl | rfl | rfl <;> exact fun _ => by kernel_rfl
  have HIX := Lib.hid hix; clear hix
  have hst := Beh.start w u0 u1 u2 u3 #[.int .i64 dn, .int .i64 af, .int .i64 la, .int .i64 v0, .int .i64 v1, .int .i64 v2, .int .i64 v3, .slice a0 n c0, .slice a1 m c1, .slice a2 k c2] 23 36
  have HST := Lib.hid hst; clear hst
  unfold vecV
  generalize hfv : (vecF v0 v1 v2 v3) = f at *
  generalize hfu : (vecF u0 u1 u2 u3) = u at *
  clear hfv hfu
  go_enter Tryz.func11, Tryz.ntmps11
  go_wp2_with (go_at_call 27; go_loud (refine (HR.out _ HST.out.frm).mono ?_); rintro e w1 ⟨rfl, hw1⟩; have HB1 := Lib.hid (HST.out.keep hw1); clear hw1; have b3 := cell_at' HB1.out.b 3 rfl; have b4 := cell_at' HB1.out.b 4 rfl; have b5 := cell_at' HB1.out.b 5 rfl; have b6 := cell_at' HB1.out.b 6 rfl)
  clear b3 b4 b5 b6
  go_loopw [13] (fun i ww => ∃ j : Nat, j ≤ 4 ∧ i = .int .i64 j ∧ Beh w ww (upF u f j) #[.int .i64 dn, .int .i64 af, .int .i64 la, .int .i64 v0, .int .i64 v1, .int .i64 v2, .int .i64 v3, .slice a0 n c0, .slice a1 m c1, .slice a2 k c2] 23 36) (fun i _ => 4 - (intOf i).toNat)
  case atStart => exact ⟨0, Nat.zero_le _, rfl, HB1.out.congr fun d h0 h4 => by unfold upF; rw [if_neg (by omega)]⟩
  case round =>
    obtain ⟨k', hk, rfl, hv⟩ := hrel
    have HV := Lib.hid hv; clear hv
    by_cases hlt : k' < 4
    · have hki : (k' : Int) < 4 := by omega
      have c0' := HV.out.a.cell hlt
      have hx := HIX.out k' hlt
      have g0 := HV.out.a.free k'
      have HS2 := Lib.hid (HV.out.set hlt (max (u k') (f k')))
      rw [upF_at] at c0'
      have hup : ∀ d, setF (upF u f k') k' (max (u k') (f k')) d = upF u f (k' + 1) d := fun d => upF_step u f k' d
      have HUP := Lib.hid hup; clear hup
      generalize u k' = x at *
      generalize f k' = y at *
      go_wp2
      go_roundw
      case rel => exact ⟨k' + 1, by omega, by go_num, HS2.out.congr fun d h0 h4 => HUP.out d⟩
      case measure => simp [intOf]; omega
    · obtain rfl : k' = 4 := by omega
      have HV2 := Lib.hid (HV.out.congr fun d h0 h4 => upF_all u f h4)
      have c0' := HV2.out.a.cell hd4
      have g0 := HV2.out.a.free dn
      have d0 := cell_at' HV2.out.b 0 rfl
      have d2 := cell_at' HV2.out.b 2 rfl
      have hbl : w.heap.size < wr.heap.size := lt_of_block HV2.out.a
      have hbl1 : w.heap.size + 1 < wr.heap.size := lt_of_block HV2.out.b
      have HS3 := Lib.hid (HV2.out.set hd4 (max (maxF u f dn) la))
      have hbe : ∀ d, setF (maxF u f) dn (max (maxF u f dn) la) d = behF u f dn la d := fun d => rfl
      have HBE := Lib.hid hbe; clear hbe
      generalize maxF u f dn = x at *
      go_wp2_with fail
      go_region
      clear c0' g0 d0 d2 hbl hbl1
      have HB5 := Lib.hid ((HS3.out.congr fun d h0 h4 => HBE.out d).keep (Frm.drew NoS _))
      generalize hgg : behF u f dn la = g at *
      have HGG := Lib.hid hgg; clear hgg
      generalize (wr.setCell ⟨w.heap.size, dn, none⟩ (.int .i64 (max x la))).drew = X at *
      have a0' := HB5.out.a.cell (k := 0) (by decide)
      have a1' := HB5.out.a.cell (k := 1) (by decide)
      have a2' := HB5.out.a.cell (k := 2) (by decide)
      have a3' := HB5.out.a.cell (k := 3) (by decide)
      have r0 := HB5.out.r.cell (k := 0) (by decide)
      have r1 := HB5.out.r.cell (k := 1) (by decide)
      have r2 := HB5.out.r.cell (k := 2) (by decide)
      have r3 := HB5.out.r.cell (k := 3) (by decide)
      have g0 := HB5.out.r.free 0
      have g1 := HB5.out.r.free 1
      have g2 := HB5.out.r.free 2
      have g3 := HB5.out.r.free 3
      have HR4 := Lib.hid (HB5.out.r.set4 g)
      have HF4 := Lib.hid (HB5.out.frm.set4 (b := w.heap.size + 1 + 1) (by omega) (.int .i64 (g 0)) (.int .i64 (g 1)) (.int .i64 (g 2)) (.int .i64 (g 3)))
      go_wp2
      clear a0' a1' a2' a3' r0 r1 r2 r3 g0 g1 g2 g3
      have r0 := HR4.out.cell (k := 0) (by decide)
      have r1 := HR4.out.cell (k := 1) (by decide)
      have r2 := HR4.out.cell (k := 2) (by decide)
      have r3 := HR4.out.cell (k := 3) (by decide)
      exact bodyPost_ret (v := .agg (vecC g)) (by simp [results, Tryz.results11, go_sem, r0, r1, r2, r3, vecC]) rfl ⟨by rw [HGG.out], HF4.out⟩
set_option maxHeartbeats 4000000 in
set_option maxRecDepth 1000000 in
theorem r22Ready_ok (w : World) (dc af la v0 v1 v2 v3 u0 u1 u2 u3 : Int) (a0 a1 a2 : Option Addr) (n m k c0 c1 c2 : Nat) (hn : BunNums dc af la (vecF v0 v1 v2 v3)) :
    Calls Tryz.prog 12 #[.agg #[.int .i64 dc, .int .i64 af, .int .i64 la, .int .i64 v0, .int .i64 v1, .int .i64 v2, .int .i64 v3, .slice a0 n c0, .slice a1 m c1, .slice a2 k c2], vecV u0 u1 u2 u3] w fun e w' => e = .returned (.bool (tf ((vecF u0 u1 u2 u3) dc = af ∧ AtMostP (vecF v0 v1 v2 v3) (vecF u0 u1 u2 u3)))) ∧ Frm NoS w w' := by
  have HM := Lib.hid (fun W => r7AtMost_any W v0 v1 v2 v3 u0 u1 u2 u3)
  obtain ⟨dn, hdn⟩ : ∃ dn : Nat, dc = dn := ⟨dc.toNat, by have := hn.1; omega⟩
  have hd4 : dn < 4 := by have := hn.2.1; omega
  have hd4i : (dn : Int) < 4 := by omega
  have hd4b : decide ((dn : Int) < 4) = true := by simpa using hd4i
  clear hn
  subst hdn
  obtain ⟨α, hne, K, hK1, hK0, hK2⟩ := worlds ((w.alloc (.cells #[.int .i64 dn, .int .i64 af, .int .i64 la, .int .i64 v0, .int .i64 v1, .int .i64 v2, .int .i64 v3, .slice a0 n c0, .slice a1 m c1, .slice a2 k c2] 33)).alloc (.cells #[.int .i64 u0, .int .i64 u1, .int .i64 u2, .int .i64 u3] 23))
  have HFK := Lib.hid (fun s => ((Frm.alloc NoS w (.cells #[.int .i64 dn, .int .i64 af, .int .i64 la, .int .i64 v0, .int .i64 v1, .int .i64 v2, .int .i64 v3, .slice a0 n c0, .slice a1 m c1, .slice a2 k c2] 33)).alloc1 (o := .cells #[.int .i64 u0, .int .i64 u1, .int .i64 u2, .int .i64 u3] 23)).then1 (hK1 s))
  have kb := fun s => box10 w _ _ _ _ _ _ _ _ _ _ _ (K s) ((Frm.alloc NoS _ _).then1 (hK1 s))
  have k0 := fun s => (kb s).1
  have k1 := fun s => (kb s).2.1
  have k2 := fun s => (kb s).2.2.1
  have k3 := fun s => (kb s).2.2.2.1
  have k4 := fun s => (kb s).2.2.2.2.1
  have k5 := fun s => (kb s).2.2.2.2.2.1
  have k6 := fun s => (kb s).2.2.2.2.2.2.1
  have k7 := fun s => (kb s).2.2.2.2.2.2.2.1
  have k8 := fun s => (kb s).2.2.2.2.2.2.2.2.1
  have k9 := fun s => (kb s).2.2.2.2.2.2.2.2.2
  clear kb
  have hvu : ∀ s, VecAt (K s) (w.heap.size + 1) (vecF u0 u1 u2 u3) 23 := fun s => (show VecAt ((w.alloc (.cells #[.int .i64 dn, .int .i64 af, .int .i64 la, .int .i64 v0, .int .i64 v1, .int .i64 v2, .int .i64 v3, .slice a0 n c0, .slice a1 m c1, .slice a2 k c2] 33)).alloc (.cells #[.int .i64 u0, .int .i64 u1, .int .i64 u2, .int .i64 u3] 23)) (w.heap.size + 1) (vecF u0 u1 u2 u3) 23 from (two_blocks w _ _ _).1).keep (hK1 s)
  have HVU := Lib.hid hvu; clear hvu
  have kd := fun s => (HVU.out s).cell hd4
  have q0 : ∀ s, (K s).cell? ⟨w.heap.size + 1, 0, none⟩ = some (.int .i64 u0) := fun s => (HVU.out s).cell (k := 0) (by decide)
  have q1 : ∀ s, (K s).cell? ⟨w.heap.size + 1, 1, none⟩ = some (.int .i64 u1) := fun s => (HVU.out s).cell (k := 1) (by decide)
  have q2 : ∀ s, (K s).cell? ⟨w.heap.size + 1, 2, none⟩ = some (.int .i64 u2) := fun s => (HVU.out s).cell (k := 2) (by decide)
  have q3 : ∀ s, (K s).cell? ⟨w.heap.size + 1, 3, none⟩ = some (.int .i64 u3) := fun s => (HVU.out s).cell (k := 3) (by decide)
  unfold vecV at *
  generalize hA : AtMostP (vecF v0 v1 v2 v3) (vecF u0 u1 u2 u3) = A at *
  clear hA
  by_cases he : (vecF u0 u1 u2 u3) dn = af
  · have hy : tf ((vecF u0 u1 u2 u3) dn = af ∧ A) = tf A := tf_congr ⟨fun h => h.2, fun h => ⟨he, h⟩⟩
    rw [hy]
    rw [he] at kd
    clear he hy
    generalize tf A = b at *
    go_enter Tryz.func12, Tryz.ntmps12
    go_wp2_with fail
    refine wp_region_new K (by kernel_rfl) (by kernel_rfl) hK0 ?_
    repeat (go_big_quiet_step ((go_at_call 37; exact Calls.in_class hK2 (HM.out _))))
    refine wpQuiet_nil ?_
    intro w' hw'
    obtain ⟨s, rfl⟩ := hw'
    go_wp2
    go_ret
    exact ⟨rfl, HFK.out s⟩
  · rw [tf_false fun h => he h.1]
    have hb : (((vecF u0 u1 u2 u3) dn : Int) == af) = false := by simpa using he
    clear he
    generalize (vecF u0 u1 u2 u3) dn = x at *
    go_enter Tryz.func12, Tryz.ntmps12
    go_wp2_with fail
    refine wp_region_new K (by kernel_rfl) (by kernel_rfl) hK0 ?_
    repeat (go_big_quiet_step ((go_at_call 37; exact Calls.in_class hK2 (HM.out _))))
    refine wpQuiet_nil ?_
    intro w' hw'
    obtain ⟨s, rfl⟩ := hw'
    go_wp2
    go_ret
    exact ⟨rfl, HFK.out s⟩
set_option maxHeartbeats 4000000 in
set_option maxRecDepth 1000000 in
theorem r22Behind_ok (w : World) (dc af la v0 v1 v2 v3 u0 u1 u2 u3 : Int) (a0 a1 a2 : Option Addr) (n m k c0 c1 c2 : Nat) (hn : BunNums dc af la (vecF v0 v1 v2 v3)) :
    Calls Tryz.prog 13 #[vecV u0 u1 u2 u3, .agg #[.int .i64 dc, .int .i64 af, .int .i64 la, .int .i64 v0, .int .i64 v1, .int .i64 v2, .int .i64 v3, .slice a0 n c0, .slice a1 m c1, .slice a2 k c2]] w fun e w' => e = .returned (.agg (vecC (behF (vecF u0 u1 u2 u3) (vecF v0 v1 v2 v3) dc la))) ∧ Frm NoS w w' := by
  have HM := Lib.hid (fun W => r7Raised_any W u0 u1 u2 u3 v0 v1 v2 v3)
  obtain ⟨dn, hdn⟩ : ∃ dn : Nat, dc = dn := ⟨dc.toNat, by have := hn.1; omega⟩
  have hd4 : dn < 4 := by have := hn.2.1; omega
  have hd4i : (dn : Int) < 4 := by omega
  have hd4b : decide ((dn : Int) < 4) = true := by simpa using hd4i
  clear hn
  subst hdn
  have hst := Beh.start w u0 u1 u2 u3 #[.int .i64 dn, .int .i64 af, .int .i64 la, .int .i64 v0, .int .i64 v1, .int .i64 v2, .int .i64 v3, .slice a0 n c0, .slice a1 m c1, .slice a2 k c2] 23 33
  have HST := Lib.hid hst; clear hst
  unfold vecV at *
  generalize hfv : (vecF v0 v1 v2 v3) = f at *
  generalize hfu : (vecF u0 u1 u2 u3) = u at *
  clear hfv hfu
  unfold behF
  generalize hmf : maxF u f = h at *
  clear hmf
  go_enter Tryz.func13, Tryz.ntmps13
  go_wp2_with (go_at_call 38; go_loud (refine (HM.out _).mono ?_); rintro e w1 ⟨rfl, hw1⟩; unfold vecC; have HB1 := Lib.hid (HST.out.keep hw1); clear hw1; have a0' := HB1.out.a.cell (k := 0) (by decide); have f0 := HB1.out.a.free 0; have a1' := HB1.out.a.cell (k := 1) (by decide); have f1 := HB1.out.a.free 1; have a2' := HB1.out.a.cell (k := 2) (by decide); have f2 := HB1.out.a.free 2; have a3' := HB1.out.a.cell (k := 3) (by decide); have f3 := HB1.out.a.free 3; have HB2 := Lib.hid (HB1.out.set4 h))
  clear a0' a1' a2' a3' f0 f1 f2 f3
  generalize ((((w1.setCell ⟨w.heap.size, 0, none⟩ (.int .i64 (h 0))).setCell ⟨w.heap.size, 1, none⟩ (.int .i64 (h 1))).setCell ⟨w.heap.size, 2, none⟩ (.int .i64 (h 2))).setCell ⟨w.heap.size, 3, none⟩ (.int .i64 (h 3))) = wr at *
  have c0' := HB2.out.a.cell hd4
  have g0 := HB2.out.a.free dn
  have d0 := cell_at' HB2.out.b 0 rfl
  have d2 := cell_at' HB2.out.b 2 rfl
  have hbl : w.heap.size < wr.heap.size := lt_of_block HB2.out.a
  have hbl1 : w.heap.size + 1 < wr.heap.size := lt_of_block HB2.out.b
  have HS3 := Lib.hid (HB2.out.set hd4 (max (h dn) la))
  have hbe : ∀ d, setF h dn (max (h dn) la) d = setF h dn (max (h dn) la) d := fun d => rfl
  have HBE := Lib.hid hbe; clear hbe
  generalize hxx : h dn = x at *
  go_region
  clear c0' g0 d0 d2 hbl hbl1
  have HB5 := Lib.hid ((HS3.out.congr fun d h0 h4 => HBE.out d).keep (Frm.drew NoS _))
  generalize (wr.setCell ⟨w.heap.size, dn, none⟩ (.int .i64 (max x la))).drew = X at *
  generalize hgg : setF h dn (max x la) = g at *
  have HGG := Lib.hid hgg; clear hgg
  have HXX := Lib.hid hxx; clear hxx
  have a0' := HB5.out.a.cell (k := 0) (by decide)
  have a1' := HB5.out.a.cell (k := 1) (by decide)
  have a2' := HB5.out.a.cell (k := 2) (by decide)
  have a3' := HB5.out.a.cell (k := 3) (by decide)
  have r0 := HB5.out.r.cell (k := 0) (by decide)
  have r1 := HB5.out.r.cell (k := 1) (by decide)
  have r2 := HB5.out.r.cell (k := 2) (by decide)
  have r3 := HB5.out.r.cell (k := 3) (by decide)
  have g0 := HB5.out.r.free 0
  have g1 := HB5.out.r.free 1
  have g2 := HB5.out.r.free 2
  have g3 := HB5.out.r.free 3
  have HR4 := Lib.hid (HB5.out.r.set4 g)
  have HF4 := Lib.hid (HB5.out.frm.set4 (b := w.heap.size + 1 + 1) (by omega) (.int .i64 (g 0)) (.int .i64 (g 1)) (.int .i64 (g 2)) (.int .i64 (g 3)))
  go_wp2
  clear a0' a1' a2' a3' r0 r1 r2 r3 g0 g1 g2 g3
  have r0 := HR4.out.cell (k := 0) (by decide)
  have r1 := HR4.out.cell (k := 1) (by decide)
  have r2 := HR4.out.cell (k := 2) (by decide)
  have r3 := HR4.out.cell (k := 3) (by decide)
  exact bodyPost_ret (v := .agg (vecC g)) (by simp [results, Tryz.results13, go_sem, r0, r1, r2, r3, vecC]) rfl ⟨by rw [HXX.out, HGG.out], HF4.out⟩
end Go.Proofs.YtclfajhdonabhaaGreat

/- Two vectors compared. -/
namespace Go.Proofs.YtclfajhdonabhaaGreat
open Go.RowKit

theorem Tryz.vec_cells : Tryz.prog.cellsOf 2 = 1 := by kernel_rfl
theorem i64_eql (d : Nat) (a b : Int) (W : World) : (Op.equalIn (d + 1) 2 (.int .i64 a) (.int .i64 b)).run Tryz.prog W = .ok (a == b) W := by
  simp [Op.equalIn, run_underlying Tryz.underlying2]
theorem part_i64 (xs : Array Value) (k : Nat) (v : Value) (h : xs[k]? = some v) (W : World) : (part 2 xs k).run Tryz.prog W = .ok v W := by
  obtain ⟨i0, hi, hz0, hz1, hz2⟩ := info_parts info_i64
  simp [part, go_sem, h]
theorem items_step (d : Nat) (xs ys : Array Value) (i : Nat) (is : List Nat) (a b : Int) (hx : xs[i]? = some (.int .i64 a)) (hy : ys[i]? = some (.int .i64 b)) (W : World) :
    (Op.eqItems (d + 1) 2 1 xs ys (i :: is)).run Tryz.prog W = if a = b then (Op.eqItems (d + 1) 2 1 xs ys is).run Tryz.prog W else .ok false W := by
  have h1 := part_i64 xs i _ hx
  have h2 := part_i64 ys i _ hy
  rw [Op.eqItems]
  simp only [Sem.run_bind, Nat.mul_one, h1, h2, Result.andThen_ok, i64_eql]
  by_cases h : a = b
  · rw [if_pos h]; subst h; simp
  · rw [if_neg h]
    have : (a == b) = false := by simpa using h
    rw [this]; simp
set_option maxRecDepth 100000 in
theorem vec_equal (a0 a1 a2 a3 b0 b1 b2 b3 : Int) (W : World) : (Op.equal 23 (.agg #[.int .i64 a0, .int .i64 a1, .int .i64 a2, .int .i64 a3]) (.agg #[.int .i64 b0, .int .i64 b1, .int .i64 b2, .int .i64 b3])).run Tryz.prog W = .ok ((a0 == b0) && ((a1 == b1) && ((a2 == b2) && (a3 == b3)))) W := by
  obtain ⟨i0, hi, hz0, hz1, hz2⟩ := info_parts info_i64
  unfold Op.equal
  obtain ⟨d, hd⟩ : ∃ d, Op.maxDepth = d + 1 + 1 := ⟨Op.maxDepth - 2, rfl⟩
  rw [hd, run_equalIn_array (d := d + 1) (hu := Tryz.underlying23) (hi := hi), Tryz.vec_cells, show List.range 4 = [0, 1, 2, 3] from rfl]
  rw [items_step d _ _ 0 _ a0 b0 rfl rfl, items_step d _ _ 1 _ a1 b1 rfl rfl, items_step d _ _ 2 _ a2 b2 rfl rfl, items_step d _ _ 3 _ a3 b3 rfl rfl]
  by_cases h0 : a0 = b0 <;> by_cases h1 : a1 = b1 <;> by_cases h2 : a2 = b2 <;> by_cases h3 : a3 = b3 <;> simp [h0, h1, h2, h3, Op.eqItems]
theorem vec_eql (a0 a1 a2 a3 b0 b1 b2 b3 : Int) (W : World) : (binOp .eql 23 (.agg #[.int .i64 a0, .int .i64 a1, .int .i64 a2, .int .i64 a3]) (.agg #[.int .i64 b0, .int .i64 b1, .int .i64 b2, .int .i64 b3])).run Tryz.prog W = .ok (.bool ((a0 == b0) && ((a1 == b1) && ((a2 == b2) && (a3 == b3))))) W := by
  simp [binOp, vec_equal]
theorem vec_same (a0 a1 a2 a3 : Int) (W : World) : (binOp .eql 23 (.agg #[.int .i64 a0, .int .i64 a1, .int .i64 a2, .int .i64 a3]) (.agg #[.int .i64 a0, .int .i64 a1, .int .i64 a2, .int .i64 a3])).run Tryz.prog W = .ok (.bool true) W := by
  rw [vec_eql]; simp
end Go.Proofs.YtclfajhdonabhaaGreat

/- The law BundleReady: its walk. Printed by wip/readygen.py. -/
namespace Go.Proofs.YtclfajhdonabhaaGreat
open Go.RowKit

set_option maxHeartbeats 8000000 in
set_option maxRecDepth 1000000 in
theorem bundleReady_law (w : World) (u0 u1 u2 u3 : Int) (v : Value) (h : BunIn w v) : Calls Tryz.prog 3 #[v, vecV u0 u1 u2 u3] w fun e w' => e = .returned (.bool true) ∧ Frm (fun _ => False) w w' := by
  obtain ⟨dc, af, la, v0, v1, v2, v3, ev, kv, cv, es, ks, c, rfl, hc, hok, hf, hcl⟩ := h.out
  have HA := Lib.hid awake22_any
  have HS := Lib.hid (fun W (f : Frm NoS w W) => r22Small_any (fun _ => True) es ks c 40 W dc af la v0 v1 v2 v3 _ _ _ (hc.keep0 f) hok hcl (by decide) (by decide))
  have HQ := Lib.hid (fun W (f : Frm NoS w W) (ok : CauOk es ks c) => r22Right_any (fun _ => True) es ks c W dc af la v0 v1 v2 v3 _ _ _ (hc.keep0 f) ok)
  have HKN := Lib.hid (fun W (f : Frm NoS w W) (ok : CauOk es ks c) => bKnown_any (fun _ => True) es ks c W dc af la v0 v1 v2 v3 u0 u1 u2 u3 _ _ _ (hc.keep0 f) ok)
  have HRE := Lib.hid (fun W (f : Frm NoS w W) (ok : CauOk es ks c) => bReady_any (fun _ => True) es ks c W dc af la v0 v1 v2 v3 u0 u1 u2 u3 _ _ _ (hc.keep0 f) ok)
  have HBN := Lib.hid (fun W (f : Frm NoS w W) (ok : CauOk es ks c) hr => bBehind_no (fun _ => True) es ks c W dc af la v0 v1 v2 v3 u0 u1 u2 u3 _ _ _ (hc.keep0 f) ok hr)
  have HBO := Lib.hid (fun W (f : Frm NoS w W) (ok : CauOk es ks c) hr => bBehind_ok (fun _ => True) es ks c W dc af la v0 v1 v2 v3 u0 u1 u2 u3 _ _ _ (hc.keep0 f) ok hr)
  obtain ⟨a0, c0, a1, c1, a2, c2, rfl, rfl, rfl⟩ := hc.shape
  have HRR := Lib.hid (fun W hn => r22Ready_ok W dc af la v0 v1 v2 v3 u0 u1 u2 u3 a0 a1 a2 es.length ks.len c.length c0 c1 c2 hn)
  have HRB := Lib.hid (fun W hn => r22Behind_ok W dc af la v0 v1 v2 v3 u0 u1 u2 u3 a0 a1 a2 es.length ks.len c.length c0 c1 c2 hn)
  clear hc
  unfold vecV at *
  cases hb : (decide (0 ≤ roomT es ks 40 8) && decide ((c.length : Int) ≤ 40)) with
  | false =>
    rw [hb] at HS
    clear hb HQ hok hf hcl HKN HRE HBN HBO HRR HRB
    generalize es.length = n at *
    generalize ks.len = m at *
    generalize c.length = k at *
    obtain ⟨-, hf0, -⟩ := two_blocks w (.cells #[.int .i64 dc, .int .i64 af, .int .i64 la, .int .i64 v0, .int .i64 v1, .int .i64 v2, .int .i64 v3, .slice a0 n c0, .slice a1 m c1, .slice a2 k c2] 33) #[.int .i64 u0, .int .i64 u1, .int .i64 u2, .int .i64 u3] 23
    have HF0 := Lib.hid hf0; clear hf0
    have hb0 : ((w.alloc (.cells #[.int .i64 dc, .int .i64 af, .int .i64 la, .int .i64 v0, .int .i64 v1, .int .i64 v2, .int .i64 v3, .slice a0 n c0, .slice a1 m c1, .slice a2 k c2] 33)).alloc (.cells #[.int .i64 u0, .int .i64 u1, .int .i64 u2, .int .i64 u3] 23)).heap[w.heap.size]? = some (.cells #[.int .i64 dc, .int .i64 af, .int .i64 la, .int .i64 v0, .int .i64 v1, .int .i64 v2, .int .i64 v3, .slice a0 n c0, .slice a1 m c1, .slice a2 k c2] 33 (0, 0)) := (Frm.alloc NoS _ _).blk (heap_alloc_new w _) id
    have HB0 := Lib.hid hb0; clear hb0
    go_enter Tryz.func3, Tryz.ntmps3
    go_wp2_with (first
      | (go_at_call 7; go_loud (refine (HS.out _ (HF0.out.then1 HW1.out)).mono ?_); rintro e w2 ⟨rfl, hw2⟩; have HW2 := Lib.hid ((HF0.out.then1 HW1.out).then1 hw2); clear hw2)
      | (go_at_call 6; first | (go_loud (refine (HA.out _).mono ?_); rintro e w3 ⟨rfl, hw3⟩; have HW3 := Lib.hid (HW2.out.then1 hw3); clear hw3) | (go_loud (refine (HA.out _).mono ?_); rintro e w1 ⟨rfl, hw1⟩; have hb1 := hw1.blk HB0.out id; have y0 := cell_at' hb1 0 rfl; have y1 := cell_at' hb1 1 rfl; have y2 := cell_at' hb1 2 rfl; have y3 := cell_at' hb1 3 rfl; have y4 := cell_at' hb1 4 rfl; have y5 := cell_at' hb1 5 rfl; have y6 := cell_at' hb1 6 rfl; have y7 := cell_at' hb1 7 rfl; have y8 := cell_at' hb1 8 rfl; have y9 := cell_at' hb1 9 rfl; have HW1 := Lib.hid hw1; clear hw1 hb1)))
    go_ret
    exact ⟨rfl, HW3.out⟩
  | true =>
    have ok := small_ok hok hf hb
    have HQ2 := Lib.hid (fun W f => HQ.out W f ok); clear HQ
    have HKN2 := Lib.hid (fun W f => HKN.out W f ok); clear HKN
    have HRE2 := Lib.hid (fun W f => HRE.out W f ok); clear HRE
    have HBN2 := Lib.hid (fun W f => HBN.out W f ok); clear HBN
    have HBO2 := Lib.hid (fun W f => HBO.out W f ok); clear HBO
    rw [hb] at HS
    clear hb hok hf hcl ok
    by_cases hr : BunRight dc af la (vecF v0 v1 v2 v3) es ks c
    · have hn := hr.nums
      rw [tf_true hr] at HQ2
      have hk : tf (BunRight dc af la (vecF v0 v1 v2 v3) es ks c ∧ la ≤ (vecF u0 u1 u2 u3) dc) = decide (la ≤ (vecF u0 u1 u2 u3) dc) := (tf_bool (by rw [decide_eq_true_iff]; exact ⟨fun h => ⟨hr, h⟩, fun h => h.2⟩)).symm
      have hy : tf (BunRight dc af la (vecF v0 v1 v2 v3) es ks c ∧ (vecF u0 u1 u2 u3) dc = af ∧ AtMostP (vecF v0 v1 v2 v3) (vecF u0 u1 u2 u3)) = tf ((vecF u0 u1 u2 u3) dc = af ∧ AtMostP (vecF v0 v1 v2 v3) (vecF u0 u1 u2 u3)) := tf_congr ⟨fun h => h.2, fun h => ⟨hr, h⟩⟩
      rw [hk] at HKN2
      rw [hy] at HRE2
      have HBO3 := Lib.hid (fun W f => HBO2.out W f hr); clear HBO2
      have HRR3 := Lib.hid (fun W => HRR.out W hn); clear HRR
      have HRB3 := Lib.hid (fun W => HRB.out W hn); clear HRB
      clear hk hy hr HBN2
      obtain ⟨dn, hdn⟩ : ∃ dn : Nat, dc = dn := ⟨dc.toNat, by have := hn.1; omega⟩
      have hd4 : dn < 4 := by have := hn.2.1; omega
      have hd4i : (dn : Int) < 4 := by omega
      have hd4b : decide ((dn : Int) < 4) = true := by simpa using hd4i
      clear hn
      subst hdn
      unfold vecC at HBO3 HRB3
      generalize behF (vecF u0 u1 u2 u3) (vecF v0 v1 v2 v3) dn la = g at *
      generalize tf ((vecF u0 u1 u2 u3) dn = af ∧ AtMostP (vecF v0 v1 v2 v3) (vecF u0 u1 u2 u3)) = b at *
      generalize BunRight dn af la (vecF v0 v1 v2 v3) es ks c = R at *
      generalize es.length = n at *
      generalize ks.len = m at *
      generalize c.length = k at *
      obtain ⟨hv0, hf0, -⟩ := two_blocks w (.cells #[.int .i64 dn, .int .i64 af, .int .i64 la, .int .i64 v0, .int .i64 v1, .int .i64 v2, .int .i64 v3, .slice a0 n c0, .slice a1 m c1, .slice a2 k c2] 33) #[.int .i64 u0, .int .i64 u1, .int .i64 u2, .int .i64 u3] 23
      have hv0 : VecAt ((w.alloc (.cells #[.int .i64 dn, .int .i64 af, .int .i64 la, .int .i64 v0, .int .i64 v1, .int .i64 v2, .int .i64 v3, .slice a0 n c0, .slice a1 m c1, .slice a2 k c2] 33)).alloc (.cells #[.int .i64 u0, .int .i64 u1, .int .i64 u2, .int .i64 u3] 23)) (w.heap.size + 1) (vecF u0 u1 u2 u3) 23 := hv0
      have HV0 := Lib.hid hv0; clear hv0
      have HF0 := Lib.hid hf0; clear hf0
      have hb0 : ((w.alloc (.cells #[.int .i64 dn, .int .i64 af, .int .i64 la, .int .i64 v0, .int .i64 v1, .int .i64 v2, .int .i64 v3, .slice a0 n c0, .slice a1 m c1, .slice a2 k c2] 33)).alloc (.cells #[.int .i64 u0, .int .i64 u1, .int .i64 u2, .int .i64 u3] 23)).heap[w.heap.size]? = some (.cells #[.int .i64 dn, .int .i64 af, .int .i64 la, .int .i64 v0, .int .i64 v1, .int .i64 v2, .int .i64 v3, .slice a0 n c0, .slice a1 m c1, .slice a2 k c2] 33 (0, 0)) := (Frm.alloc NoS _ _).blk (heap_alloc_new w _) id
      have HB0 := Lib.hid hb0; clear hb0
      go_enter Tryz.func3, Tryz.ntmps3
      go_wp2_with (first
        | (go_at_call 6; go_loud (refine (HA.out _).mono ?_); rintro e w1 ⟨rfl, hw1⟩; have hb1 := hw1.blk HB0.out id; have y0 := cell_at' hb1 0 rfl; have y1 := cell_at' hb1 1 rfl; have y2 := cell_at' hb1 2 rfl; have y3 := cell_at' hb1 3 rfl; have y4 := cell_at' hb1 4 rfl; have y5 := cell_at' hb1 5 rfl; have y6 := cell_at' hb1 6 rfl; have y7 := cell_at' hb1 7 rfl; have y8 := cell_at' hb1 8 rfl; have y9 := cell_at' hb1 9 rfl; have HW1 := Lib.hid hw1; clear hw1 hb1)
        | (go_at_call 7; go_loud (refine (HS.out _ (HF0.out.then1 HW1.out)).mono ?_); rintro e w2 ⟨rfl, hw2⟩; clear y0 y1 y2 y3 y4 y5 y6 y7 y8 y9; have hw12 := HW1.out.then1 hw2; have hb2 := hw12.blk HB0.out id; have y0 := cell_at' hb2 0 rfl; have y1 := cell_at' hb2 1 rfl; have y2 := cell_at' hb2 2 rfl; have y3 := cell_at' hb2 3 rfl; have y4 := cell_at' hb2 4 rfl; have y5 := cell_at' hb2 5 rfl; have y6 := cell_at' hb2 6 rfl; have y7 := cell_at' hb2 7 rfl; have y8 := cell_at' hb2 8 rfl; have y9 := cell_at' hb2 9 rfl; have hbl := lt_of_block hb2; have HW2 := Lib.hid hw12; clear hw2 hw12 hb2)
        | (go_at_call 8; go_loud (refine (HQ2.out _ ((HF0.out.then1 HW2.out).alloc1)).mono ?_); rintro e w3 ⟨rfl, hw3⟩; clear y0 y1 y2 y3 y4 y5 y6 y7 y8 y9; have hx3 := hw3.blk (heap_alloc_new w2 _) id; have HX3 := Lib.hid hx3; clear hx3; have hwa := (HW2.out.alloc1).then1 hw3; have HB3 := Lib.hid (hwa.blk HB0.out id); have HV3 := Lib.hid (HV0.out.keep hwa); have HW3 := Lib.hid (HF0.out.then1 hwa); clear hw3 hwa))
      (try clear hbl)
      obtain ⟨α, hne, K, hK1, hK0, hK2⟩ := worlds w3
      have HFK := Lib.hid (fun s => HW3.out.then1 (hK1 s))
      have hxk := fun s => (hK1 s).blk HX3.out id
      have hxb := fun s => (hK1 s).blk HB3.out id
      have hxv := fun s => HV3.out.keep (hK1 s)
      have k0 := fun s => cell_at' (hxb s) 0 rfl
      have p0 := fun s => cell_at' (hxk s) 0 rfl
      have k1 := fun s => cell_at' (hxb s) 1 rfl
      have p1 := fun s => cell_at' (hxk s) 1 rfl
      have k2 := fun s => cell_at' (hxb s) 2 rfl
      have p2 := fun s => cell_at' (hxk s) 2 rfl
      have k3 := fun s => cell_at' (hxb s) 3 rfl
      have p3 := fun s => cell_at' (hxk s) 3 rfl
      have k4 := fun s => cell_at' (hxb s) 4 rfl
      have p4 := fun s => cell_at' (hxk s) 4 rfl
      have k5 := fun s => cell_at' (hxb s) 5 rfl
      have p5 := fun s => cell_at' (hxk s) 5 rfl
      have k6 := fun s => cell_at' (hxb s) 6 rfl
      have p6 := fun s => cell_at' (hxk s) 6 rfl
      have k7 := fun s => cell_at' (hxb s) 7 rfl
      have p7 := fun s => cell_at' (hxk s) 7 rfl
      have k8 := fun s => cell_at' (hxb s) 8 rfl
      have p8 := fun s => cell_at' (hxk s) 8 rfl
      have k9 := fun s => cell_at' (hxb s) 9 rfl
      have p9 := fun s => cell_at' (hxk s) 9 rfl
      have q0 : ∀ s, (K s).cell? ⟨w.heap.size + 1, 0, none⟩ = some (.int .i64 u0) := fun s => (hxv s).cell (k := 0) (by decide)
      have q1 : ∀ s, (K s).cell? ⟨w.heap.size + 1, 1, none⟩ = some (.int .i64 u1) := fun s => (hxv s).cell (k := 1) (by decide)
      have q2 : ∀ s, (K s).cell? ⟨w.heap.size + 1, 2, none⟩ = some (.int .i64 u2) := fun s => (hxv s).cell (k := 2) (by decide)
      have q3 : ∀ s, (K s).cell? ⟨w.heap.size + 1, 3, none⟩ = some (.int .i64 u3) := fun s => (hxv s).cell (k := 3) (by decide)
      have kd := fun s => (hxv s).cell hd4
      clear hxk hxb hxv
      generalize (vecF u0 u1 u2 u3) dn = x at *
      have hveq := vec_same (g 0) (g 1) (g 2) (g 3)
      refine wp_region_new K (by kernel_rfl) (by kernel_rfl) hK0 ?_
      repeat (go_big_quiet_step ((first | (go_at_call 9; exact Calls.in_class hK2 (HRE2.out _ (HFK.out _))) | (go_at_call 10; exact Calls.in_class hK2 (HKN2.out _ (HFK.out _))) | (go_at_call 11; exact Calls.in_class hK2 (HBO3.out _ (HFK.out _))) | (go_at_call 12; exact Calls.in_class hK2 (HRR3.out _)) | (go_at_call 13; exact Calls.in_class hK2 (HRB3.out _)))))
      refine wpQuiet_nil ?_
      intro w' hw'
      obtain ⟨s, rfl⟩ := hw'
      go_wp2
      go_ret
      exact ⟨by simp, HFK.out s⟩
    · rw [tf_false hr] at HQ2
      rw [tf_false fun h => hr h.1] at HKN2 HRE2
      have HBN3 := Lib.hid (fun W f => HBN2.out W f hr); clear HBN2
      rw [vecC_vec] at HBN3
      clear hr HBO2 HRR HRB
      generalize es.length = n at *
      generalize ks.len = m at *
      generalize c.length = k at *
      obtain ⟨hv0, hf0, -⟩ := two_blocks w (.cells #[.int .i64 dc, .int .i64 af, .int .i64 la, .int .i64 v0, .int .i64 v1, .int .i64 v2, .int .i64 v3, .slice a0 n c0, .slice a1 m c1, .slice a2 k c2] 33) #[.int .i64 u0, .int .i64 u1, .int .i64 u2, .int .i64 u3] 23
      have hv0 : VecAt ((w.alloc (.cells #[.int .i64 dc, .int .i64 af, .int .i64 la, .int .i64 v0, .int .i64 v1, .int .i64 v2, .int .i64 v3, .slice a0 n c0, .slice a1 m c1, .slice a2 k c2] 33)).alloc (.cells #[.int .i64 u0, .int .i64 u1, .int .i64 u2, .int .i64 u3] 23)) (w.heap.size + 1) (vecF u0 u1 u2 u3) 23 := hv0
      have HV0 := Lib.hid hv0; clear hv0
      have HF0 := Lib.hid hf0; clear hf0
      have hb0 : ((w.alloc (.cells #[.int .i64 dc, .int .i64 af, .int .i64 la, .int .i64 v0, .int .i64 v1, .int .i64 v2, .int .i64 v3, .slice a0 n c0, .slice a1 m c1, .slice a2 k c2] 33)).alloc (.cells #[.int .i64 u0, .int .i64 u1, .int .i64 u2, .int .i64 u3] 23)).heap[w.heap.size]? = some (.cells #[.int .i64 dc, .int .i64 af, .int .i64 la, .int .i64 v0, .int .i64 v1, .int .i64 v2, .int .i64 v3, .slice a0 n c0, .slice a1 m c1, .slice a2 k c2] 33 (0, 0)) := (Frm.alloc NoS _ _).blk (heap_alloc_new w _) id
      have HB0 := Lib.hid hb0; clear hb0
      go_enter Tryz.func3, Tryz.ntmps3
      go_wp2_with (first
        | (go_at_call 6; go_loud (refine (HA.out _).mono ?_); rintro e w1 ⟨rfl, hw1⟩; have hb1 := hw1.blk HB0.out id; have y0 := cell_at' hb1 0 rfl; have y1 := cell_at' hb1 1 rfl; have y2 := cell_at' hb1 2 rfl; have y3 := cell_at' hb1 3 rfl; have y4 := cell_at' hb1 4 rfl; have y5 := cell_at' hb1 5 rfl; have y6 := cell_at' hb1 6 rfl; have y7 := cell_at' hb1 7 rfl; have y8 := cell_at' hb1 8 rfl; have y9 := cell_at' hb1 9 rfl; have HW1 := Lib.hid hw1; clear hw1 hb1)
        | (go_at_call 7; go_loud (refine (HS.out _ (HF0.out.then1 HW1.out)).mono ?_); rintro e w2 ⟨rfl, hw2⟩; clear y0 y1 y2 y3 y4 y5 y6 y7 y8 y9; have hw12 := HW1.out.then1 hw2; have hb2 := hw12.blk HB0.out id; have y0 := cell_at' hb2 0 rfl; have y1 := cell_at' hb2 1 rfl; have y2 := cell_at' hb2 2 rfl; have y3 := cell_at' hb2 3 rfl; have y4 := cell_at' hb2 4 rfl; have y5 := cell_at' hb2 5 rfl; have y6 := cell_at' hb2 6 rfl; have y7 := cell_at' hb2 7 rfl; have y8 := cell_at' hb2 8 rfl; have y9 := cell_at' hb2 9 rfl; have hbl := lt_of_block hb2; have HW2 := Lib.hid hw12; clear hw2 hw12 hb2)
        | (go_at_call 8; go_loud (refine (HQ2.out _ ((HF0.out.then1 HW2.out).alloc1)).mono ?_); rintro e w3 ⟨rfl, hw3⟩; clear y0 y1 y2 y3 y4 y5 y6 y7 y8 y9; have hx3 := hw3.blk (heap_alloc_new w2 _) id; have HX3 := Lib.hid hx3; clear hx3; have hwa := (HW2.out.alloc1).then1 hw3; have HB3 := Lib.hid (hwa.blk HB0.out id); have HV3 := Lib.hid (HV0.out.keep hwa); have HW3 := Lib.hid (HF0.out.then1 hwa); clear hw3 hwa))
      (try clear hbl)
      obtain ⟨α, hne, K, hK1, hK0, hK2⟩ := worlds w3
      have HFK := Lib.hid (fun s => HW3.out.then1 (hK1 s))
      have hxk := fun s => (hK1 s).blk HX3.out id
      have hxb := fun s => (hK1 s).blk HB3.out id
      have hxv := fun s => HV3.out.keep (hK1 s)
      have k0 := fun s => cell_at' (hxb s) 0 rfl
      have p0 := fun s => cell_at' (hxk s) 0 rfl
      have k1 := fun s => cell_at' (hxb s) 1 rfl
      have p1 := fun s => cell_at' (hxk s) 1 rfl
      have k2 := fun s => cell_at' (hxb s) 2 rfl
      have p2 := fun s => cell_at' (hxk s) 2 rfl
      have k3 := fun s => cell_at' (hxb s) 3 rfl
      have p3 := fun s => cell_at' (hxk s) 3 rfl
      have k4 := fun s => cell_at' (hxb s) 4 rfl
      have p4 := fun s => cell_at' (hxk s) 4 rfl
      have k5 := fun s => cell_at' (hxb s) 5 rfl
      have p5 := fun s => cell_at' (hxk s) 5 rfl
      have k6 := fun s => cell_at' (hxb s) 6 rfl
      have p6 := fun s => cell_at' (hxk s) 6 rfl
      have k7 := fun s => cell_at' (hxb s) 7 rfl
      have p7 := fun s => cell_at' (hxk s) 7 rfl
      have k8 := fun s => cell_at' (hxb s) 8 rfl
      have p8 := fun s => cell_at' (hxk s) 8 rfl
      have k9 := fun s => cell_at' (hxb s) 9 rfl
      have p9 := fun s => cell_at' (hxk s) 9 rfl
      have q0 : ∀ s, (K s).cell? ⟨w.heap.size + 1, 0, none⟩ = some (.int .i64 u0) := fun s => (hxv s).cell (k := 0) (by decide)
      have q1 : ∀ s, (K s).cell? ⟨w.heap.size + 1, 1, none⟩ = some (.int .i64 u1) := fun s => (hxv s).cell (k := 1) (by decide)
      have q2 : ∀ s, (K s).cell? ⟨w.heap.size + 1, 2, none⟩ = some (.int .i64 u2) := fun s => (hxv s).cell (k := 2) (by decide)
      have q3 : ∀ s, (K s).cell? ⟨w.heap.size + 1, 3, none⟩ = some (.int .i64 u3) := fun s => (hxv s).cell (k := 3) (by decide)
      clear hxk hxb hxv
      have hveq := vec_same u0 u1 u2 u3
      refine wp_region_new K (by kernel_rfl) (by kernel_rfl) hK0 ?_
      repeat (go_big_quiet_step ((first | (go_at_call 9; exact Calls.in_class hK2 (HRE2.out _ (HFK.out _))) | (go_at_call 10; exact Calls.in_class hK2 (HKN2.out _ (HFK.out _))) | (go_at_call 11; exact Calls.in_class hK2 (HBN3.out _ (HFK.out _))))))
      refine wpQuiet_nil ?_
      intro w' hw'
      obtain ⟨s, rfl⟩ := hw'
      go_wp2
      go_ret
      exact ⟨by simp, HFK.out s⟩
/-- What came in as a vector. -/
def VecIn (v : Value) : Prop := ∃ u0 u1 u2 u3 : Int, v = vecV u0 u1 u2 u3
theorem bundleReady_walk (w : World) (v : Value) (h : BunIn w v) (u : Value) (hu : VecIn u) : Calls Tryz.prog 3 #[v, u] w fun e w' => e = .returned (.bool true) ∧ Frm (fun _ => False) w w' := by
  obtain ⟨u0, u1, u2, u3, rfl⟩ := hu
  exact bundleReady_law w u0 u1 u2 u3 v h
end Go.Proofs.YtclfajhdonabhaaGreat
