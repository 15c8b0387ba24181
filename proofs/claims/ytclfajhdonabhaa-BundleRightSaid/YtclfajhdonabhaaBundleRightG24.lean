/- Words for the law BundleRight: BunLawR, BunOpen. -/
import Derived.Test.YtclfajhdonabhaaBundleRightG6
import Derived.Test.YtclfajhdonabhaaBundleRightG18
import Derived.Test.YtclfajhdonabhaaBundleRightG23
import Derived.Laws.IdiomArrays
import Derived.SizedLaws
/- The law BundleRight: its walk. -/
namespace Go.Proofs.Ytclfajhdonabhaa
open Go.RowKit

set_option maxRecDepth 100000 in
theorem r22Small_any (Q : Nat → Prop) (es : List Ent) (ks : KidsL) (c : CtxL) (left : Int) (w : World) (dc af la v0 v1 v2 v3 : Int) (ev kv cv : Value) (h : CauAt Q w ev kv cv es ks c) (hok : TrOk es ks) (hcl : c.length ≤ 140737488351232) (h1 : left ≤ 1000) (h2 : 0 ≤ left) :
    Calls Try.prog 5 #[.agg #[.int .i64 dc, .int .i64 af, .int .i64 la, .int .i64 v0, .int .i64 v1, .int .i64 v2, .int .i64 v3, ev, kv, cv], .int .i64 left] w fun e w' => e = .returned (.bool (decide (0 ≤ roomT es ks left 8) && decide ((c.length : Int) ≤ left))) ∧ Frm NoS w w' := by
  have HC := Lib.hid (fun W (f : Frm NoS w W) => r9Small_any Q es ks c left W _ _ _ (h.keep0 f) hok hcl h1 h2)
  obtain ⟨a0, c0, a1, c1, a2, c2, rfl, rfl, rfl⟩ := h.shape
  clear h hok
  generalize (decide (0 ≤ roomT es ks left 8) && decide ((c.length : Int) ≤ left)) = b at *
  generalize c.length = k at *
  go_enter Try.func5, Try.ntmps5
  go_wp2_with (go_at_call 11; go_loud (refine (HC.out _ (Frm.alloc _ _ _)).mono ?_); rintro e w1 ⟨rfl, hw1⟩; have HW1 := Lib.hid ((Frm.alloc NoS _ _).then1 hw1); clear hw1)
  go_ret
  exact ⟨rfl, HW1.out⟩
/-- A bundle that came in. -/
structure BunIn (w : World) (v : Value) where
  out : ∃ (dc af la v0 v1 v2 v3 : Int) (ev kv cv : Value) (es : List Ent) (ks : KidsL) (c : CtxL), v = .agg #[.int .i64 dc, .int .i64 af, .int .i64 la, .int .i64 v0, .int .i64 v1, .int .i64 v2, .int .i64 v3, ev, kv, cv] ∧ CauAt (fun _ => True) w ev kv cv es ks c ∧ TrOk es ks ∧ FitsC c ∧ c.length ≤ 140737488351232
theorem small_ok {es : List Ent} {ks : KidsL} {c : CtxL} (hok : TrOk es ks) (hf : FitsC c) (h : (decide (0 ≤ roomT es ks 40 8) && decide ((c.length : Int) ≤ 40)) = true) : CauOk es ks c := by
  simp only [Bool.and_eq_true, decide_eq_true_iff] at h
  have := roomT_size h.1
  exact ⟨hok, by omega, hf, by omega⟩
set_option maxHeartbeats 2000000 in
set_option maxRecDepth 1000000 in
theorem bundleRight_walk (w : World) (v : Value) (h : BunIn w v) : Calls Try.prog 3 #[v] w fun e w' => e = .returned (.bool true) ∧ Frm (fun _ => False) w w' := by
  obtain ⟨dc, af, la, v0, v1, v2, v3, ev, kv, cv, es, ks, c, rfl, hc, hok, hf, hcl⟩ := h.out
  have HA := Lib.hid awake22_any
  have HS := Lib.hid (fun W (f : Frm NoS w W) => r22Small_any (fun _ => True) es ks c 40 W dc af la v0 v1 v2 v3 _ _ _ (hc.keep0 f) hok hcl (by decide) (by decide))
  have HR := Lib.hid (fun W (f : Frm NoS w W) (ok : CauOk es ks c) => bRight_any (fun _ => True) es ks c W dc af la v0 v1 v2 v3 _ _ _ (hc.keep0 f) ok)
  have HQ := Lib.hid (fun W (f : Frm NoS w W) (ok : CauOk es ks c) => r22Right_any (fun _ => True) es ks c W dc af la v0 v1 v2 v3 _ _ _ (hc.keep0 f) ok)
  obtain ⟨a0, c0, a1, c1, a2, c2, rfl, rfl, rfl⟩ := hc.shape
  clear hc
  have HBX := Lib.hid (box10 w (.int .i64 dc) (.int .i64 af) (.int .i64 la) (.int .i64 v0) (.int .i64 v1) (.int .i64 v2) (.int .i64 v3) (.slice a0 es.length c0) (.slice a1 ks.len c1) (.slice a2 c.length c2) 33)
  cases hb : (decide (0 ≤ roomT es ks 40 8) && decide ((c.length : Int) ≤ 40)) with
  | false =>
    rw [hb] at HS
    clear hb HR HQ hok hf hcl
    generalize es.length = n at *
    generalize ks.len = m at *
    generalize c.length = k at *
    go_enter Try.func3, Try.ntmps3
    go_wp2_with (first
      | (go_at_call 5; go_loud (refine (HS.out _ ((Frm.alloc NoS _ _).then1 HW1.out)).mono ?_); rintro e w2 ⟨rfl, hw2⟩; have HW2 := Lib.hid (((Frm.alloc NoS _ _).then1 HW1.out).then1 hw2); clear hw2)
      | (go_at_call 4; first | (go_loud (refine (HA.out _).mono ?_); rintro e w3 ⟨rfl, hw3⟩; have HW3 := Lib.hid (HW2.out.then1 hw3); clear hw3) | (go_loud (refine (HA.out _).mono ?_); rintro e w1 ⟨rfl, hw1⟩; obtain ⟨y0, y1, y2, y3, y4, y5, y6, y7, y8, y9⟩ := HBX.out w1 hw1; have HW1 := Lib.hid hw1; clear hw1)))
    go_ret
    exact ⟨rfl, HW3.out⟩
  | true =>
    have ok := small_ok hok hf hb
    have HR := Lib.hid (fun W f => HR.out W f ok)
    have HQ := Lib.hid (fun W f => HQ.out W f ok)
    rw [hb] at HS
    clear hb hok hf hcl ok
    generalize tf (BunRight dc af la (vecF v0 v1 v2 v3) es ks c) = b at *
    generalize es.length = n at *
    generalize ks.len = m at *
    generalize c.length = k at *
    go_enter Try.func3, Try.ntmps3
    go_wp2_with (first
      | (go_at_call 4; go_loud (refine (HA.out _).mono ?_); rintro e w1 ⟨rfl, hw1⟩; obtain ⟨y0, y1, y2, y3, y4, y5, y6, y7, y8, y9⟩ := HBX.out w1 hw1; have HW1 := Lib.hid hw1; clear hw1)
      | (go_at_call 5; go_loud (refine (HS.out _ ((Frm.alloc NoS _ _).then1 HW1.out)).mono ?_); rintro e w2 ⟨rfl, hw2⟩; clear y0 y1 y2 y3 y4 y5 y6 y7 y8 y9; have hw3 := HW1.out.then1 hw2; have HW2 := Lib.hid hw3; clear hw2 hw3))
    obtain ⟨α, hne, K, hK1, hK0, hK2⟩ := worlds w2
    have kb := fun s => HBX.out (K s) (HW2.out.then1 (hK1 s))
    have hfk := fun s => (Frm.alloc NoS w _).then1 (HW2.out.then1 (hK1 s))
    have HFK := Lib.hid hfk; clear hfk
    have k0 := fun s => (kb s).1
    have k1 := fun s => (kb s).2.1
    have k2 := fun s => (kb s).2.2.1
    have k3 := fun s => (kb s).2.2.2.1
    have k4 := fun s => (kb s).2.2.2.2.1
    have k5 := fun s => (kb s).2.2.2.2.2.1
    have k6 := fun s => (kb s).2.2.2.2.2.2.1
    have k7 := fun s => (kb s).2.2.2.2.2.2.2.1
    have k8 := fun s => (kb s).2.2.2.2.2.2.2.2.1
    have k9 := fun s => (kb s).2.2.2.2.2.2.2.2.2
    clear kb
    refine wp_region_new K (by kernel_rfl) (by kernel_rfl) hK0 ?_
    repeat (go_big_quiet_step ((first | (go_at_call 6; exact Calls.in_class hK2 (HR.out _ (HFK.out _))) | (go_at_call 7; exact Calls.in_class hK2 (HQ.out _ (HFK.out _))))))
    refine wpQuiet_nil ?_
    intro w' hw'
    obtain ⟨s, rfl⟩ := hw'
    go_wp2
    go_ret
    exact ⟨by simp, HFK.out s⟩
end Go.Proofs.Ytclfajhdonabhaa

/- What came in: a bundle, a vector. -/
namespace Go.Proofs.Ytclfajhdonabhaa
open Go.RowKit Go.WideShapes Go.ChangeShapes

theorem Try.cells_bundle : Try.prog.cellsOf 33 = 10 := by kernel_rfl
theorem Try.cells_causal : Try.prog.cellsOf 31 = 3 := by kernel_rfl
theorem Try.cells_vector : Try.prog.cellsOf 23 = 4 := by kernel_rfl
theorem sized_at {H : Type} {P : Program} {ts us : List TypeId} {ds gs : List (DataW H)} (h : (DataW.weightsEach P (ts ++ us) (ds ++ gs)).all (· ≤ reachBytes) = true) {j : Nat} {t : TypeId} {d : DataW H} (ht : ts[j]? = some t) (hd : ds[j]? = some d) :
    ∀ n ∈ d.weights P t, n ≤ reachBytes := fun n hn => by
  have h1 : (ts ++ us)[j]? = some t := by rw [List.getElem?_append_left (List.getElem?_eq_some_iff.1 ht).1]; exact ht
  have h2 : (ds ++ gs)[j]? = some d := by rw [List.getElem?_append_left (List.getElem?_eq_some_iff.1 hd).1]; exact hd
  simpa using List.all_eq_true.1 h n (DataW.weights_mem_each h1 h2 n hn)
section
variable {H : Type} {enc : TypeId × Value → H} {w : World}
set_option maxRecDepth 100000 in
theorem open_causal {fuel : Nat} {ev kv cv : Value} {x : DataW H × List MemPlace} (h : DataW.trod enc Try.prog w 0 (fun _ => true) true fuel 31 [ev, kv, cv] = some x) (hw : ∀ n ∈ x.1.weights Try.prog 31, n ≤ reachBytes) :
    ∃ es ks c, CauAt (fun _ => True) w ev kv cv es ks c ∧ TrOk es ks ∧ FitsC c ∧ c.length ≤ 140737488351232 := by
  obtain ⟨xs, n, hn, rfl, _, hxl, hf⟩ := DataW.trod_struct Try.underlying31 h
  obtain ⟨y0, y1, rfl⟩ : ∃ y0 y1, xs = [y0, y1] := by
    match xs, hxl with
    | [y0, y1], _ => exact ⟨y0, y1, rfl⟩
  have g0 := hf 0 _ rfl
  have g1 := hf 1 _ rfl
  have g0 : DataW.trod enc Try.prog w 0 (fun _ => true) true n 27 [ev, kv] = some y0 := g0
  have g1 : DataW.trod enc Try.prog w 0 (fun _ => true) true n 29 [cv] = some y1 := g1
  have hw2 : ∀ m ∈ y0.1.weights Try.prog 27 ++ (y1.1.weights Try.prog 29 ++ []), m ≤ reachBytes := fun m hm => hw m (by
    simp only [List.map_cons, List.map_nil, DataW.weights, Try.underlying31]
    exact hm)
  obtain ⟨es, ks, h1, h2⟩ := open_tree _ ev kv _ g0 fun m hm => hw2 m (List.mem_append_left _ hm)
  obtain ⟨c, h3, h4, h5⟩ := open_ctx g1 fun m hm => hw2 m (List.mem_append_right _ (List.mem_append_left _ hm))
  exact ⟨es, ks, c, ⟨h1, h3⟩, h2, h4, h5⟩
set_option maxRecDepth 100000 in
theorem open_vec_cells {fuel : Nat} {c0 c1 c2 c3 : Value} {x : DataW H × List MemPlace} (h : DataW.trod enc Try.prog w 0 (fun _ => true) true fuel 23 [c0, c1, c2, c3] = some x) :
    ∃ v0 v1 v2 v3 : Int, c0 = .int .i64 v0 ∧ c1 = .int .i64 v1 ∧ c2 = .int .i64 v2 ∧ c3 = .int .i64 v3 ∧ ∀ v ∈ [v0, v1, v2, v3], -9223372036854775808 ≤ v ∧ v ≤ 9223372036854775807 := by
  obtain ⟨z0, z1, z2, z3, m, _, k0, k1, k2, k3⟩ := trod_array4 Try.underlying23 Try.cells_I64 h
  obtain ⟨v0, e0, _, w0⟩ := DataW.trod_int Try.underlying2 k0
  obtain ⟨v1, e1, _, w1⟩ := DataW.trod_int Try.underlying2 k1
  obtain ⟨v2, e2, _, w2⟩ := DataW.trod_int Try.underlying2 k2
  obtain ⟨v3, e3, _, w3⟩ := DataW.trod_int Try.underlying2 k3
  simp at e0 e1 e2 e3
  refine ⟨v0, v1, v2, v3, e0, e1, e2, e3, fun v hv => ?_⟩
  simp only [List.mem_cons, List.not_mem_nil, or_false] at hv
  rcases hv with rfl | rfl | rfl | rfl
  · exact wfInt w0
  · exact wfInt w1
  · exact wfInt w2
  · exact wfInt w3
set_option maxRecDepth 100000 in
theorem open_bundle {base : Nat} {v : Value} {d : DataW H} {ps : List MemPlace} (hv : Value.okWide Try.prog w .any base 33 v) (h : DataW.Trod enc Try.prog w 0 (fun _ => true) true 33 v d ps)
    (hw : ∀ n ∈ d.weights Try.prog 33, n ≤ reachBytes) : BunIn w v := by
  obtain ⟨cs, rfl, hsz⟩ := okWide_struct Try.underlying33 hv
  rw [Try.cells_bundle] at hsz
  obtain ⟨l⟩ := cs
  match l, hsz with
  | [c0, c1, c2, c3, c4, c5, c6, c7, c8, c9], _ =>
  obtain ⟨fuel, hf⟩ := h
  have hf : DataW.trod enc Try.prog w 0 (fun _ => true) true fuel 33 [c0, c1, c2, c3, c4, c5, c6, c7, c8, c9] = some (d, ps) := hf
  obtain ⟨xs, n, hn, hx, _, hxl, hg⟩ := DataW.trod_struct Try.underlying33 hf
  obtain ⟨y0, y1, y2, y3, y4, rfl⟩ : ∃ y0 y1 y2 y3 y4, xs = [y0, y1, y2, y3, y4] := by
    match xs, hxl with
    | [y0, y1, y2, y3, y4], _ => exact ⟨y0, y1, y2, y3, y4, rfl⟩
  have g0 : DataW.trod enc Try.prog w 0 (fun _ => true) true n 3 [c0] = some y0 := hg 0 _ rfl
  have g1 : DataW.trod enc Try.prog w 0 (fun _ => true) true n 2 [c1] = some y1 := hg 1 _ rfl
  have g2 : DataW.trod enc Try.prog w 0 (fun _ => true) true n 2 [c2] = some y2 := hg 2 _ rfl
  have g3 : DataW.trod enc Try.prog w 0 (fun _ => true) true n 23 [c3, c4, c5, c6] = some y3 := hg 3 _ rfl
  have g4 : DataW.trod enc Try.prog w 0 (fun _ => true) true n 31 [c7, c8, c9] = some y4 := hg 4 _ rfl
  obtain ⟨dc, e0, _, _⟩ := DataW.trod_int Try.underlying3 g0
  obtain ⟨af, e1, _, _⟩ := DataW.trod_int Try.underlying2 g1
  obtain ⟨la, e2, _, _⟩ := DataW.trod_int Try.underlying2 g2
  simp at e0 e1 e2
  obtain ⟨v0, v1, v2, v3, e3, e4, e5, e6, _⟩ := open_vec_cells g3
  have hd : d = (DataW.agg ([y0, y1, y2, y3, y4].map (·.1)) : DataW H) := (Prod.mk.inj hx).1
  subst hd
  have hw2 : ∀ m ∈ y0.1.weights Try.prog 3 ++ (y1.1.weights Try.prog 2 ++ (y2.1.weights Try.prog 2 ++ (y3.1.weights Try.prog 23 ++ (y4.1.weights Try.prog 31 ++ [])))), m ≤ reachBytes := fun m hm => hw m (by
    simp only [List.map_cons, List.map_nil, DataW.weights, Try.underlying33]
    exact hm)
  obtain ⟨es, ks, c, h1, h2, h3, h4⟩ := open_causal g4 fun m hm => hw2 m (List.mem_append_right _ (List.mem_append_right _ (List.mem_append_right _ (List.mem_append_right _ (List.mem_append_left _ hm)))))
  subst e0 e1 e2 e3 e4 e5 e6
  exact ⟨_, _, _, _, _, _, _, _, _, _, es, ks, c, rfl, h1, h2, h3, h4⟩
end
end Go.Proofs.Ytclfajhdonabhaa
