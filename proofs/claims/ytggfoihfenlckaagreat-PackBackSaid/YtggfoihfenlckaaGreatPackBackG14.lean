/- Words for the law PackBack: Thing, Few16, Varint, Out, Out2, RefNum. -/
import Derived.Test.YtggfoihfenlckaaGreatPackBackG1
import Derived.Test.YtggfoihfenlckaaGreatPackBackG10
import Derived.Test.YtggfoihfenlckaaGreatPackBackG12
import Derived.Test.YtggfoihfenlckaaGreatPackBackG13
import Derived.WalkKit
import Derived.Test.YtggfoihfenlckaaGreatProg
import Derived.Deep.AppendSrc
import Derived.Outline
set_option linter.unusedSimpArgs false
set_option linter.unusedVariables false
/- Things: how they lie, and what came in. -/
namespace Go.Proofs.YtggfoihfenlckaaGreat
open Go.RowKit Go.WideShapes Go.ChangeShapes
/-- How a thing lies, and what it reads as. -/
structure Th where
  kind : Int
  cv : Value
  ev : Value
  kv : Value
  xv : Value
  pv : Value
  a : Int
  s : ByteArray
  n : Int
  v0 : Int
  v1 : Int
  v2 : Int
  v3 : Int
  c : CtxL
  es : List Ent
  ks : KidsL
  xc : CtxL
  ss : List ByteArray
def Th.cells (o : Th) : List Value := [.int .u8 o.kind, o.cv, o.ev, o.kv, o.xv, o.pv, .int .i64 o.a, .string o.s, .int .i64 o.n, .int .i64 o.v0, .int .i64 o.v1, .int .i64 o.v2, .int .i64 o.v3]
def Th.zero : Th := ⟨0, .slice none 0 0, .slice none 0 0, .slice none 0 0, .slice none 0 0, .slice none 0 0, 0, ByteArray.empty, 0, 0, 0, 0, 0, [], [], .nil, [], []⟩
structure ThAt (w : World) (o : Th) : Prop where
  ctx : CtxAt w o.cv o.c
  cau : CauAt (fun _ => True) w o.ev o.kv o.xv o.es o.ks o.xc
  pth : StrsAt w o.pv o.ss
structure ThFit (o : Th) : Prop where
  cf : FitsC o.c
  cl : o.c.length ≤ 140737488351232
  tr : TrOk o.es o.ks
  xf : FitsC o.xc
  xl : o.xc.length ≤ 140737488351232
  sl : o.s.size ≤ 9223372036854775807
theorem ThAt.keep0 {w w' : World} {o : Th} (h : ThAt w o) (f : Frm NoS w w') : ThAt w' o := ⟨Rd.keep0 h.ctx f, h.cau.keep0 f, h.pth.keep0 f⟩
def thC (l : List Th) : List Value := l.flatMap Th.cells
/-- A row of things that came in. -/
structure ThsAt (w : World) (v : Value) (l : List Th) : Prop where
  rd : Rd w v l.length (thC l)
  each : ∀ o ∈ l, ThAt w o ∧ ThFit o
  len : l.length ≤ 140737488351232
theorem ThsAt.keep0 {w w' : World} {v : Value} {l : List Th} (h : ThsAt w v l) (f : Frm NoS w w') : ThsAt w' v l := ⟨h.rd.keep0 f, fun o ho => ⟨(h.each o ho).1.keep0 f, (h.each o ho).2⟩, h.len⟩
theorem Tryz.cells_thing : Tryz.prog.cellsOf 44 = 13 := by kernel_rfl
theorem Tryz.bytes_thing : Tryz.prog.bytesOf 44 = 192 := by kernel_rfl
theorem Tryz.bytes_str : Tryz.prog.bytesOf 9 = 16 := by kernel_rfl
instance : Inhabited Th := ⟨Th.zero⟩
theorem thC_get (l : List Th) (j : Nat) (u : Value) (h : (thC l)[j]? = some u) : j / 13 < l.length ∧ (l.getD (j / 13) Th.zero).cells[j % 13]? = some u := flatMap_get Th.cells 13 (by decide) (fun _ => rfl) Th.zero l j u h
theorem flatMap_at {α : Type} (f : α → List Value) (m : Nat) (hf : ∀ x, (f x).length = m) (d : α) : ∀ (l : List α) (k j : Nat) (u : Value), k < l.length → (f (l.getD k d))[j]? = some u → (l.flatMap f)[k * m + j]? = some u
  | [], _, _, _, h, _ => by cases h
  | x :: l, 0, j, u, _, hu => by
    have hu : (f x)[j]? = some u := hu
    have hj : j < (f x).length := (List.getElem?_eq_some_iff.1 hu).1
    rw [List.flatMap_cons, Nat.zero_mul, Nat.zero_add, List.getElem?_append_left hj]
    exact hu
  | x :: l, k + 1, j, u, h, hu => by
    have e : (k + 1) * m + j = m + (k * m + j) := by rw [Nat.succ_mul]; omega
    rw [List.flatMap_cons, e, List.getElem?_append_right (by rw [hf]; omega), hf, Nat.add_sub_cancel_left]
    exact flatMap_at f m hf d l k j u (by simpa using h) hu
theorem th_at {w : World} {b off c n : Nat} {l : List Th} (h : Rd w (.slice (some ⟨b, off, none⟩) n c) n (thC l)) (k : Nat) (hk : k < l.length) (j : Nat) {u : Value} (hu : (l.getD k Th.zero).cells[j]? = some u) : w.cell? ⟨b, off + k * 13 + j, none⟩ = some u := by
  have := h.cell (k * 13 + j) u (flatMap_at Th.cells 13 (fun _ => rfl) Th.zero l k j u hk hu)
  rwa [← Nat.add_assoc] at this
section
variable {H : Type} {enc : TypeId × Value → H} {w : World}
set_option maxRecDepth 100000 in
theorem open_strs {fuel : Nat} {c : Value} {x : DataW H × List MemPlace} (h : DataW.trod enc Tryz.prog w 0 (fun _ => true) true fuel 38 [c] = some x) (hw : ∀ n ∈ x.1.weights Tryz.prog 38, n ≤ reachBytes) :
    ∃ l : List ByteArray, StrsAt w c l := by
  obtain ⟨a0, len, cap, rfl⟩ := slice_of_trod Tryz.underlying38 h
  rcases open_arr2 Tryz.underlying38 Tryz.cells_S (by decide) Tryz.bytes_str h hw with ⟨rfl, rfl⟩ | ⟨b, off, n, rfl, h1, h2, _, h3, hel⟩
  · exact ⟨[], .inl ⟨a0, rfl, rfl, rfl⟩⟩
  · have hx : ∀ k, k < len → ∃ s : ByteArray, w.cell? ⟨b, off + k * 1 + 0, none⟩ = some (.string s) := fun k hk => by
      obtain ⟨cs, hl, hc, y, hy, _⟩ := hel k hk
      obtain ⟨c0, rfl⟩ : ∃ c0, cs = [c0] := by
        match cs, hl with
        | [c0], _ => exact ⟨c0, rfl⟩
      obtain ⟨s, e0, _, _⟩ := DataW.trod_string Tryz.underlying9 hy
      simp at e0
      subst e0
      exact ⟨s, hc 0 _ rfl⟩
    obtain ⟨l, hl, hlp⟩ := list_of_lt hx
    refine ⟨l, .inr ⟨b, off, cap, by rw [hl], by omega, h2, fun j u hu => ?_⟩⟩
    have hj : j < l.length := by
      have := (List.getElem?_eq_some_iff.1 hu).1
      simpa using this
    have := hlp j (by omega) ByteArray.empty
    rw [Nat.mul_one, Nat.add_zero] at this
    rw [this]
    rw [List.getElem?_map, List.getElem?_eq_getElem hj] at hu
    simp only [Option.map_some, Option.some.injEq] at hu
    rw [getD_at ByteArray.empty hj, hu]
set_option maxRecDepth 100000 in
theorem open_op {fuel : Nat} {c0 c1 c2 c3 : Value} {x : DataW H × List MemPlace} (h : DataW.trod enc Tryz.prog w 0 (fun _ => true) true fuel 40 [c0, c1, c2, c3] = some x) (hw : ∀ n ∈ x.1.weights Tryz.prog 40, n ≤ reachBytes) :
    ∃ (a n : Int) (s : ByteArray) (ss : List ByteArray), c1 = .int .i64 a ∧ c2 = .string s ∧ c3 = .int .i64 n ∧ StrsAt w c0 ss ∧ s.size ≤ 9223372036854775807 := by
  obtain ⟨xs, m, hn, rfl, _, hxl, hg⟩ := DataW.trod_struct Tryz.underlying40 h
  obtain ⟨y0, y1, y2, y3, rfl⟩ : ∃ y0 y1 y2 y3, xs = [y0, y1, y2, y3] := by
    match xs, hxl with
    | [y0, y1, y2, y3], _ => exact ⟨y0, y1, y2, y3, rfl⟩
  have g0 : DataW.trod enc Tryz.prog w 0 (fun _ => true) true m 38 [c0] = some y0 := hg 0 _ rfl
  have g1 : DataW.trod enc Tryz.prog w 0 (fun _ => true) true m 3 [c1] = some y1 := hg 1 _ rfl
  have g2 : DataW.trod enc Tryz.prog w 0 (fun _ => true) true m 9 [c2] = some y2 := hg 2 _ rfl
  have g3 : DataW.trod enc Tryz.prog w 0 (fun _ => true) true m 2 [c3] = some y3 := hg 3 _ rfl
  have hw2 : ∀ m ∈ y0.1.weights Tryz.prog 38 ++ (y1.1.weights Tryz.prog 3 ++ (y2.1.weights Tryz.prog 9 ++ (y3.1.weights Tryz.prog 2 ++ []))), m ≤ reachBytes := fun m hm => hw m (by
    simp only [List.map_cons, List.map_nil, DataW.weights, Tryz.underlying40]
    exact hm)
  obtain ⟨ss, h0⟩ := open_strs g0 fun m hm => hw2 m (List.mem_append_left _ hm)
  obtain ⟨a, e1, _, _⟩ := DataW.trod_int Tryz.underlying3 g1
  obtain ⟨s, e2, _, hs⟩ := DataW.trod_string Tryz.underlying9 g2
  obtain ⟨n, e3, _, _⟩ := DataW.trod_int Tryz.underlying2 g3
  simp at e1 e2 e3
  exact ⟨a, n, s, ss, e1, e2, e3, h0, by simp only [maxLen] at hs; omega⟩
set_option maxRecDepth 100000 in
theorem open_thing {fuel : Nat} {cs : List Value} {x : DataW H × List MemPlace} (hl : cs.length = 13) (h : DataW.trod enc Tryz.prog w 0 (fun _ => true) true fuel 44 cs = some x) (hw : ∀ n ∈ x.1.weights Tryz.prog 44, n ≤ reachBytes) :
    ∃ o : Th, cs = o.cells ∧ ThAt w o ∧ ThFit o := by
  match cs, hl with
  | [c0, c1, c2, c3, c4, c5, c6, c7, c8, c9, c10, c11, c12], _ =>
  obtain ⟨xs, m, hn, rfl, _, hxl, hg⟩ := DataW.trod_struct Tryz.underlying44 h
  obtain ⟨y0, y1, y2, y3, y4, rfl⟩ : ∃ y0 y1 y2 y3 y4, xs = [y0, y1, y2, y3, y4] := by
    match xs, hxl with
    | [y0, y1, y2, y3, y4], _ => exact ⟨y0, y1, y2, y3, y4, rfl⟩
  have g0 : DataW.trod enc Tryz.prog w 0 (fun _ => true) true m 5 [c0] = some y0 := hg 0 _ rfl
  have g1 : DataW.trod enc Tryz.prog w 0 (fun _ => true) true m 31 [c1] = some y1 := hg 1 _ rfl
  have g2 : DataW.trod enc Tryz.prog w 0 (fun _ => true) true m 37 [c2, c3, c4] = some y2 := hg 2 _ rfl
  have g3 : DataW.trod enc Tryz.prog w 0 (fun _ => true) true m 40 [c5, c6, c7, c8] = some y3 := hg 3 _ rfl
  have g4 : DataW.trod enc Tryz.prog w 0 (fun _ => true) true m 42 [c9, c10, c11, c12] = some y4 := hg 4 _ rfl
  have hw2 : ∀ m ∈ y0.1.weights Tryz.prog 5 ++ (y1.1.weights Tryz.prog 31 ++ (y2.1.weights Tryz.prog 37 ++ (y3.1.weights Tryz.prog 40 ++ (y4.1.weights Tryz.prog 42 ++ [])))), m ≤ reachBytes := fun m hm => hw m (by
    simp only [List.map_cons, List.map_nil, DataW.weights, Tryz.underlying44]
    exact hm)
  obtain ⟨kd, e0, _, _⟩ := DataW.trod_int Tryz.underlying5 g0
  obtain ⟨c, h1, f1, l1⟩ := open_ctx g1 fun m hm => hw2 m (List.mem_append_right _ (List.mem_append_left _ hm))
  obtain ⟨es, ks, xc, h2, t2, f2, l2⟩ := open_causal g2 fun m hm => hw2 m (List.mem_append_right _ (List.mem_append_right _ (List.mem_append_left _ hm)))
  obtain ⟨a, n, s, ss, e6, e7, e8, h3, l3⟩ := open_op g3 fun m hm => hw2 m (List.mem_append_right _ (List.mem_append_right _ (List.mem_append_right _ (List.mem_append_left _ hm))))
  obtain ⟨v0, v1, v2, v3, e9, e10, e11, e12, _⟩ := open_vec_cells g4
  simp at e0
  subst e0 e6 e7 e8 e9 e10 e11 e12
  exact ⟨⟨kd, c1, c2, c3, c4, c5, a, s, n, v0, v1, v2, v3, c, es, ks, xc, ss⟩, rfl, ⟨h1, h2, h3⟩, ⟨f1, l1, t2, f2, l2, l3⟩⟩
set_option maxRecDepth 100000 in
theorem open_things {base : Nat} {v : Value} {d : DataW H} {ps : List MemPlace} (hv : Value.okWide Tryz.prog w .any base 22 v) (h : DataW.Trod enc Tryz.prog w 0 (fun _ => true) true 22 v d ps)
    (hw : ∀ n ∈ d.weights Tryz.prog 22, n ≤ reachBytes) : ∃ l, ThsAt w v l := by
  obtain ⟨fuel, hf⟩ := h
  obtain ⟨a0, len, cap, rfl⟩ := okWide_slice Tryz.underlying22 hv
  have hf : DataW.trod enc Tryz.prog w 0 (fun _ => true) true fuel 22 [.slice a0 len cap] = some (d, ps) := hf
  rcases open_arr2 Tryz.underlying22 Tryz.cells_thing (by decide) Tryz.bytes_thing hf hw with ⟨rfl, rfl⟩ | ⟨b, off, n, rfl, h1, h2, _, h3, hel⟩
  · exact ⟨[], .inl ⟨a0, rfl, rfl, rfl⟩, fun o ho => (by cases ho), Nat.zero_le _⟩
  · have hx : ∀ k, k < len → ∃ o : Th, (∀ j u, o.cells[j]? = some u → w.cell? ⟨b, off + k * 13 + j, none⟩ = some u) ∧ ThAt w o ∧ ThFit o := fun k hk => by
      obtain ⟨cs, hl, hc, y, hy, hyw⟩ := hel k hk
      obtain ⟨o, rfl, h1, h2⟩ := open_thing hl hy hyw
      exact ⟨o, hc, h1, h2⟩
    obtain ⟨l, hl, hlp⟩ := list_of_lt hx
    refine ⟨l, .inr ⟨b, off, cap, by rw [hl], by omega, h2, fun j u hu => ?_⟩, fun o ho => ?_, by unfold reachBytes at h3; omega⟩
    · obtain ⟨g1, g2⟩ := thC_get l j u hu
      have := (hlp (j / 13) (by omega) Th.zero).1 (j % 13) u g2
      rwa [split_at] at this
    · obtain ⟨k, hk, rfl⟩ := List.getElem_of_mem ho
      have := (hlp k (by omega) Th.zero).2
      rwa [getD_at Th.zero hk] at this
end
end Go.Proofs.YtggfoihfenlckaaGreat
/- tributarylaw16: few: the walk. -/
namespace Go.Proofs.YtggfoihfenlckaaGreat
open Go.RowKit
def Th.small (o : Th) : Bool := decide (o.c.length ≤ 60) && ((decide (0 ≤ roomT o.es o.ks 40 8) && decide ((o.xc.length : Int) ≤ 40)) && shortB o.ss o.s)
def fewB (l : List Th) : Bool := decide (l.length ≤ 12) && l.all Th.small
theorem all_take {α : Type} {p : α → Bool} {l : List α} {k : Nat} (d : α) (h : k < l.length) : (l.take (k + 1)).all p = ((l.take k).all p && p (l.getD k d)) := by
  rw [take_succ d h, List.all_append]
  simp
theorem all_no {α : Type} {p : α → Bool} {l : List α} {k : Nat} (d : α) (h : k < l.length) (hp : p (l.getD k d) = false) : l.all p = false := by
  cases hq : l.all p with
  | false => rfl
  | true =>
    have := List.all_eq_true.1 hq _ (getD_mem d h)
    rw [hp] at this
    cases this
set_option maxHeartbeats 8000000 in
set_option maxRecDepth 1000000 in
theorem few16_any (l : List Th) (w : World) (v : Value) (h : ThsAt w v l) :
    Calls Tryz.prog 12 #[v] w fun e w' => e = .returned (.bool (fewB l)) ∧ Frm NoS w w' := by
  obtain ⟨a0, c0, rfl⟩ := h.rd.sl
  by_cases h12 : l.length ≤ 12
  rotate_left 1
  · have hb : fewB l = false := by unfold fewB; rw [decide_eq_false h12]; rfl
    rw [hb]
    clear hb h
    have h2 : ¬ (l.length : Int) ≤ 12 := by omega
    generalize l.length = n at *
    go_enter Tryz.func12, Tryz.ntmps12
    go_wp2
    go_ret
    exact ⟨rfl, Frm.refl _ _⟩
  have hsb : fewB l = l.all Th.small := by unfold fewB; rw [decide_eq_true h12]; rfl
  rw [hsb]
  clear hsb
  have h2 : (l.length : Int) ≤ 12 := by omega
  have HL := Lib.hid h; clear h
  generalize hn : l.length = n at *
  have HN := Lib.hid hn; clear hn
  go_enter Tryz.func12, Tryz.ntmps12
  go_wp2
  go_loopw [9] (fun i W => ∃ k : Nat, k ≤ n ∧ i = .int .i64 k ∧ (l.take k).all Th.small = true ∧ Frm NoS w W) (fun i _ => n - (intOf i).toNat)
  case atStart => exact ⟨0, Nat.zero_le _, rfl, by simp, Frm.refl _ _⟩
  case round =>
    obtain ⟨k, hk, rfl, ha, hw⟩ := hrel
    have HAN := Lib.hid ha; clear ha
    have HW := Lib.hid hw; clear hw
    by_cases hlt : k < n
    · have hlk : k < l.length := by rw [HN.out]; exact hlt
      have hrd := (HL.out.keep0 HW.out).rd
      rw [HN.out] at hrd
      rcases Rd.shape hrd with ⟨ad, he, hz⟩ | ⟨b, off, cc, he, hmax⟩
      · exfalso; omega
      injection he with e1 e2 e3
      subst e1 e3
      clear e2 hmax
      have q1 := th_at hrd k hlk 1 rfl
      have q2 := th_at hrd k hlk 2 rfl
      have q3 := th_at hrd k hlk 3 rfl
      have q4 := th_at hrd k hlk 4 rfl
      have q5 := th_at hrd k hlk 5 rfl
      have q6 := th_at hrd k hlk 6 rfl
      have q7 := th_at hrd k hlk 7 rfl
      have q8 := th_at hrd k hlk 8 rfl
      obtain ⟨hth, hft⟩ := (HL.out.keep0 HW.out).each _ (getD_mem Th.zero hlk)
      have HT := Lib.hid (all_take (p := Th.small) Th.zero hlk)
      have HE := Lib.hid (all_no (p := Th.small) Th.zero hlk)
      clear hrd
      generalize l.getD k Th.zero = o at *
      obtain ⟨kind, cv, ev, kv, xv, pv, a, s, n0, v0, v1, v2, v3, c, es, ks, xc, ss⟩ := o
      dsimp only at q1 q2 q3 q4 q5 q6 q7 q8
      obtain ⟨hc, hx, hp⟩ := hth
      obtain ⟨-, hcl, htr, -, hxl, hsl⟩ := hft
      dsimp only at hc hx hp hcl htr hxl hsl
      have HSM := Lib.hid (r9Small_any (fun _ => True) es ks xc 40 wr ev kv xv hx htr (by omega) (by decide) (by decide))
      have HSH := Lib.hid (fun W (f : Frm NoS wr W) => r15Short_any ss a n0 s W pv (hp.keep0 f))
      have hsm : ∀ b1 b2 : Bool, (decide (0 ≤ roomT es ks 40 8) && decide ((xc.length : Int) ≤ 40)) = b1 → shortB ss s = b2 → Th.small ⟨kind, cv, ev, kv, xv, pv, a, s, n0, v0, v1, v2, v3, c, es, ks, xc, ss⟩ = (decide (c.length ≤ 60) && (b1 && b2)) := fun b1 b2 e1 e2 => by subst e1 e2; rfl
      have hsm := hsm _ _ rfl rfl
      generalize (decide (0 ≤ roomT es ks 40 8) && decide ((xc.length : Int) ≤ 40)) = b1 at *
      generalize shortB ss s = b2 at *
      rw [hsm] at HT HE
      clear hsm
      obtain ⟨a5, c5, rfl⟩ := Rd.sl hc
      obtain ⟨a1, c1, a2, c2, a3, c3, rfl, rfl, rfl⟩ := hx.shape
      obtain ⟨a6, c6, rfl⟩ := hp.sl
      clear hc hx hp htr hsl
      generalize es.length = n1 at *
      generalize ks.len = n2 at *
      generalize xc.length = n3 at *
      generalize ss.length = n4 at *
      generalize c.length = n5 at *
      by_cases h60 : n5 ≤ 60
      rotate_left 1
      · have h3 : ¬ (n5 : Int) ≤ 60 := by omega
        have HEX := Lib.hid (HE.out (by rw [decide_eq_false h60]; rfl))
        clear HE HT h60
        go_wp2
        go_ret
        exact ⟨by rw [HEX.out]; rfl, HW.out⟩
      have h3 : (n5 : Int) ≤ 60 := by omega
      rw [decide_eq_true h60] at HT HE
      clear h60
      cases b1 with
      | false =>
        have HEX := Lib.hid (HE.out rfl)
        clear HE HT HSH
        go_wp2_with (go_at_call 49; go_loud (refine HSM.out.mono ?_); rintro e w1 ⟨rfl, hf1⟩; have HF1 := Lib.hid hf1; clear hf1)
        go_ret
        exact ⟨by rw [HEX.out]; rfl, HW.out.then1 HF1.out⟩
      | true =>
        cases b2 with
        | false =>
          have HEX := Lib.hid (HE.out rfl)
          clear HE HT
          go_wp2_with (first
            | (go_at_call 49; go_loud (refine HSM.out.mono ?_); rintro e w1 ⟨rfl, hf1⟩; have q5 := hf1.cell' q5 id; have q6 := hf1.cell' q6 id; have q7 := hf1.cell' q7 id; have q8 := hf1.cell' q8 id; have HF1 := Lib.hid hf1; clear hf1)
            | (go_at_call 50; go_loud (refine (HSH.out _ HF1.out).mono ?_); rintro e w2 ⟨rfl, hf2⟩; have HF2 := Lib.hid (HF1.out.then1 hf2); clear hf2))
          go_ret
          exact ⟨by rw [HEX.out]; rfl, HW.out.then1 HF2.out⟩
        | true =>
          have HTX := Lib.hid (show (l.take (k + 1)).all Th.small = true by rw [HT.out, HAN.out]; rfl)
          clear HE HT
          go_wp2_with (first
            | (go_at_call 49; go_loud (refine HSM.out.mono ?_); rintro e w1 ⟨rfl, hf1⟩; have q5 := hf1.cell' q5 id; have q6 := hf1.cell' q6 id; have q7 := hf1.cell' q7 id; have q8 := hf1.cell' q8 id; have HF1 := Lib.hid hf1; clear hf1)
            | (go_at_call 50; go_loud (refine (HSH.out _ HF1.out).mono ?_); rintro e w2 ⟨rfl, hf2⟩; have HF2 := Lib.hid (HF1.out.then1 hf2); clear hf2))
          go_roundw
          case rel => exact ⟨k + 1, by omega, by go_num, HTX.out, HW.out.then1 HF2.out⟩
          case measure => simp [intOf]; omega
    · obtain rfl : n = k := by omega
      have hall : l.all Th.small = true := by
        have := HAN.out
        rwa [List.take_of_length_le (by rw [HN.out]; exact Nat.le_refl _)] at this
      have HALL := Lib.hid hall; clear hall HAN
      go_wp2
      go_ret
      exact ⟨by rw [HALL.out]; rfl, HW.out⟩
end Go.Proofs.YtggfoihfenlckaaGreat
/- The plain law of varints: a number's bytes, and their properties. No program in sight. -/
namespace Go.Proofs.YtggfoihfenlckaaGreat
/-- Seven bits at a time, the least first; every byte but the last bears the mark 128. -/
def vl (n : Nat) : List UInt8 := if h : n < 128 then [UInt8.ofNat n] else UInt8.ofNat (n % 128 + 128) :: vl (n / 128)
  termination_by n
  decreasing_by omega
/-- The sign folded in: 2v, or -2v - 1. -/
def zz (v : Int) : Nat := if 0 ≤ v then (2 * v).toNat else (-(2 * v) - 1).toNat
/-- A number's bytes. -/
def numB (v : Int) : List UInt8 := vl (zz v)
theorem vl_small {n : Nat} (h : n < 128) : vl n = [UInt8.ofNat n] := by unfold vl; rw [dif_pos h]
theorem vl_big {n : Nat} (h : ¬ n < 128) : vl n = UInt8.ofNat (n % 128 + 128) :: vl (n / 128) := by rw [vl]; rw [dif_neg h]
theorem zz_lt {v : Int} (h1 : -9223372036854775808 ≤ v) (h2 : v ≤ 9223372036854775807) : zz v < 18446744073709551616 := by unfold zz; split <;> omega
theorem zz_inj {a b : Int} (h : zz a = zz b) : a = b := by unfold zz at h; split at h <;> split at h <;> omega
theorem toNat_ofNat {n : Nat} (h : n < 256) : (UInt8.ofNat n).toNat = n := by simp; omega
theorem vl_length (k : Nat) : ∀ n, n < 128 ^ (k + 1) → (vl n).length ≤ k + 1 := by
  induction k with
  | zero => intro n h; rw [vl_small (by simpa using h)]; simp
  | succ k ih =>
    intro n h
    by_cases hn : n < 128
    · rw [vl_small hn]; simp
    · rw [vl_big hn, List.length_cons]
      have := ih (n / 128) (by rw [Nat.div_lt_iff_lt_mul (by omega)]; rw [Nat.pow_succ] at h; exact h)
      omega
theorem vl_pos (n : Nat) : 1 ≤ (vl n).length := by
  by_cases hn : n < 128
  · rw [vl_small hn]; simp
  · rw [vl_big hn]; simp
theorem vl_le10 {n : Nat} (h : n < 18446744073709551616) : (vl n).length ≤ 10 := vl_length 9 n (by omega)
theorem numB_le10 {v : Int} (h1 : -9223372036854775808 ≤ v) (h2 : v ≤ 9223372036854775807) : (numB v).length ≤ 10 := vl_le10 (zz_lt h1 h2)
theorem numB_pos (v : Int) : 1 ≤ (numB v).length := vl_pos _
/-- Neither of two unlike numbers' bytes begins with the other's. -/
theorem vl_prefix : ∀ (n m : Nat) (x y : List UInt8), vl n ++ x = vl m ++ y → n = m ∧ x = y := by
  intro n
  induction n using Nat.strongRecOn with
  | ind n ih =>
    intro m x y h
    by_cases hn : n < 128 <;> by_cases hm : m < 128
    · rw [vl_small hn, vl_small hm] at h
      simp only [List.cons_append, List.nil_append, List.cons.injEq] at h
      refine ⟨?_, h.2⟩
      have := congrArg UInt8.toNat h.1
      rw [toNat_ofNat (by omega), toNat_ofNat (by omega)] at this
      exact this
    · rw [vl_small hn, vl_big hm] at h
      simp only [List.cons_append, List.nil_append, List.cons.injEq] at h
      have := congrArg UInt8.toNat h.1
      rw [toNat_ofNat (by omega), toNat_ofNat (by omega)] at this
      omega
    · rw [vl_big hn, vl_small hm] at h
      simp only [List.cons_append, List.nil_append, List.cons.injEq] at h
      have := congrArg UInt8.toNat h.1
      rw [toNat_ofNat (by omega), toNat_ofNat (by omega)] at this
      omega
    · rw [vl_big hn, vl_big hm] at h
      simp only [List.cons_append, List.cons.injEq] at h
      have h1 := congrArg UInt8.toNat h.1
      rw [toNat_ofNat (by omega), toNat_ofNat (by omega)] at h1
      obtain ⟨h2, h3⟩ := ih (n / 128) (by omega) (m / 128) x y h.2
      exact ⟨by omega, h3⟩
theorem numB_prefix {a b : Int} {x y : List UInt8} (h : numB a ++ x = numB b ++ y) : a = b ∧ x = y :=
  let ⟨h1, h2⟩ := vl_prefix _ _ _ _ h; ⟨zz_inj h1, h2⟩
end Go.Proofs.YtggfoihfenlckaaGreat
/- codec.Out: Num, Text, End; bytes.Clone. -/
namespace Go.Proofs.YtggfoihfenlckaaGreat
open Go.RowKit
theorem Tryz.info_u8 : (Tryz.prog.info? 5).map (fun i => (i.zero, i.size, i.bytes)) = some (some (.int .u8 0), 1, 1) := by kernel_rfl
/-- A codec.Out in block ob, whose slice is v, with the bytes bs. -/
structure OutAt (w : World) (ob : Nat) (v : Value) (bs : List UInt8) : Prop where
  cell : w.heap[ob]? = some (.cells #[v] 27 (0, 0))
  own : w.ownsRow 0 5 1 v bs.length (bV bs)
  apart : v.ownBlock ≠ some ob
/-- What a call on it may write. -/
def OutS (ob : Nat) (v : Value) (k : Nat) : Prop := k = ob ∨ v.ownBlock = some k
theorem xor_ones (a : Nat) (h : a < 2 ^ 64) : a ^^^ (2 ^ 64 - 1) = 2 ^ 64 - (a + 1) := by
  apply Nat.eq_of_testBit_eq
  intro i
  rw [Nat.testBit_xor, Nat.testBit_two_pow_sub_one, Nat.testBit_two_pow_sub_succ h]
  by_cases hi : i < 64
  · simp [hi]
  · have : a.testBit i = false := Nat.testBit_lt_two_pow (Nat.lt_of_lt_of_le h (Nat.pow_le_pow_right (by omega) (by omega)))
    simp [hi, this]
theorem zz_bits (x : Int) (h1 : -9223372036854775808 ≤ x) (h2 : x ≤ 9223372036854775807) :
    bits BinOp.xor IntKind.u64 (IntKind.u64.wrap (IntKind.u64.wrap x * 2)) (IntKind.u64.wrap (x / 9223372036854775808)) = (zz x : Int) := by
  rw [IntKind.wrap_u64, IntKind.wrap_u64, IntKind.wrap_u64]
  by_cases h : 0 ≤ x
  · have e1 : x / 9223372036854775808 % 18446744073709551616 = ((0 : Nat) : Int) := by omega
    have e2 : x % 18446744073709551616 * 2 % 18446744073709551616 = ((zz x : Nat) : Int) := by unfold zz; rw [if_pos h]; omega
    rw [e1, e2, bits_xor_u64_nat _ _ (zz_lt h1 h2) (by omega), Nat.xor_zero]
  · have e1 : x / 9223372036854775808 % 18446744073709551616 = ((2 ^ 64 - 1 : Nat) : Int) := by omega
    have e2 : x % 18446744073709551616 * 2 % 18446744073709551616 = ((18446744073709551615 - zz x : Nat) : Int) := by unfold zz; rw [if_neg h]; omega
    have hz := zz_lt h1 h2
    rw [e1, e2, bits_xor_u64_nat _ _ (by omega) (by omega), xor_ones _ (by omega)]
    omega
theorem OutAt.row {w w1 : World} {ob : Nat} {v : Value} {bs : List UInt8} (h : OutAt w ob v bs) (f : Frm (RowS v) w w1) : w1.cell? ⟨ob, 0, none⟩ = some v ∧ w1.frozen? ⟨ob, 0, none⟩ = false ∧ ob < w1.heap.size := by
  have hb := f.blk h.cell h.apart
  exact ⟨cell_of_one hb, free_of_one hb, lt_of_block hb⟩
theorem OutAt.store {w w1 : World} {ob : Nat} {v v2 : Value} {bs cs : List UInt8} {n2 : Nat} {xs2 : List Value} (h : OutAt w ob v bs) (own : w1.ownsRow 0 5 1 v2 n2 xs2) (f : Frm (RowS v) w w1) (fr : Fresh w v v2)
    (hx : xs2 = bV (bs ++ cs)) : OutAt (w1.setCell ⟨ob, 0, none⟩ v2) ob v2 (bs ++ cs) ∧ Frm (OutS ob v) w (w1.setCell ⟨ob, 0, none⟩ v2) := by
  have hb := f.blk h.cell h.apart
  have hap : v2.ownBlock ≠ some ob := fun e => by
    rcases fr ob e with h1 | h1
    · exact h.apart h1
    · have := lt_of_block h.cell; omega
  subst hx
  have hn : n2 = (bs ++ cs).length := by have := own.1; simpa using this.symm
  subst hn
  refine ⟨⟨one_setCell hb, ownsRow_setCell_other own hap _, hap⟩, ?_⟩
  exact (f.mono (T := OutS ob v) fun k _ hk => .inr hk).trans (Frm.setCell (S := OutS ob v) w1 (.inl (.inl rfl)) v2) fun _ _ h => h
theorem outS_fresh {w : World} {ob : Nat} {v v' : Value} (h : Fresh w v v') : ∀ i, i < w.heap.size → OutS ob v' i → OutS ob v i := fun i hi hs => by
  rcases hs with hs | hs
  · exact .inl hs
  · rcases h i hs with h1 | h1
    · exact .inr h1
    · omega
theorem or_mark (n : Nat) : bits BinOp.or IntKind.u8 ((n : Int) % 256) 128 = ((n % 128 + 128 : Nat) : Int) := by
  have e : ((n : Int) % 256) = ((n % 256 : Nat) : Int) := by omega
  rw [e, show (128 : Int) = ((128 : Nat) : Int) from rfl, u8_or_nat _ _ (by omega) (by omega)]
  have h : ∀ k, k < 256 → k ||| 128 = k % 128 + 128 := by decide +kernel
  rw [h _ (by omega)]
  congr 1
  omega
def NumRel (w : World) (ob : Nat) (v : Value) (bs : List UInt8) (x : Int) (u : Value) (wr : World) : Prop :=
  ∃ (n : Nat) (v' : Value) (cs : List UInt8), u = .int .u64 n ∧ n < 18446744073709551616 ∧ cs.length + (vl n).length ≤ 10 ∧ OutAt wr ob v' (bs ++ cs) ∧ cs ++ vl n = numB x ∧ Fresh w v v' ∧ Frm (OutS ob v) w wr
set_option maxHeartbeats 400000 in
set_option maxRecDepth 1000000 in
theorem num_go (ob : Nat) (x : Int) (w : World) (v : Value) (bs : List UInt8) (h : OutAt w ob v bs) (h1 : -9223372036854775808 ≤ x) (h2 : x ≤ 9223372036854775807) (hl : bs.length ≤ 100000000) :
    Calls Tryz.prog 95 #[.pointer (some ⟨ob, 0, none⟩), .int .i64 x] w fun e w' => e = .returned (.tuple #[]) ∧
      ∃ v', OutAt w' ob v' (bs ++ numB x) ∧ Fresh w v v' ∧ Frm (OutS ob v) w w' := by
  obtain ⟨i0, hi, hz0, hz1, hz2⟩ := info_parts Tryz.info_u8
  have hz := zz_bits x h1 h2
  go_enter Tryz.func95, Tryz.ntmps95
  go_wp2
  clear hz
  have hzl := zz_lt h1 h2
  go_loopw [4] (fun u wr => NumRel w ob v bs x u wr) (fun u _ => (intOf u).toNat)
  case atStart => exact ⟨_, v, [], rfl, hzl, by simpa using vl_le10 hzl, by simpa using h, rfl, fun k hk => .inl hk, Frm.refl _ _⟩
  case round =>
    obtain ⟨n, v', cs, rfl, hn, hc, ho, hcs, hfr, hfm⟩ := hrel
    have hcell := cell_of_one ho.cell
    have hfree := free_of_one ho.cell
    have hob := lt_of_block ho.cell
    have HO := Lib.hid ho; clear ho
    have HCS := Lib.hid hcs; clear hcs
    have HN := Lib.hid hn; clear hn
    have HC := Lib.hid hc; clear hc
    have HZ := Lib.hid hzl; clear hzl
    have HL := Lib.hid hl; clear hl
    have H1 := Lib.hid h1; clear h1
    have H2 := Lib.hid h2; clear h2
    have HF := Lib.hid hfr; clear hfr
    have HM := Lib.hid hfm; clear hfm
    clear h
    by_cases hlt : n < 128
    · go_wp2_with (at_builtin; go_loud (refine wpList_app1 _ _ rfl (.tmp 34) (.tmp 37) 25 rfl 5 i0 (.int .u8 0) 1 1 Tryz.underlying25 hi hz0 hz1 hz2 rfl (by decide) _ _ _ HO.out.own 1 1 rfl rfl rfl ?c1 ?c2 ?c3 ?_))
      case c1 => simp [Value.oneCell']
      case c2 => have := HC.out; have := HL.out; simp only [List.length_append, maxLen]; omega
      case c3 => have := HC.out; have := HL.out; simp only [List.length_append]; omega
      intro ad c w1 own1 fm1 fr1
      obtain ⟨k0, k1, k2⟩ := HO.out.row fm1
      have OW := Lib.hid own1; clear own1
      have FM := Lib.hid fm1; clear fm1
      have FR := Lib.hid fr1; clear fr1
      obtain ⟨o1, o2⟩ := HO.out.store (cs := [UInt8.ofNat n]) OW.out FM.out FR.out (bV_snoc _ _ (by rw [toNat_ofNat (by omega)]))
      have O1 := Lib.hid o1; clear o1
      have O2 := Lib.hid o2; clear o2
      go_wp2
      go_end0
      refine ⟨rfl, _, ?_, HF.out.trans HM.out.size FR.out, HM.out.trans O2.out ?_⟩
      · have e := O1.out
        rw [List.append_assoc, ← vl_small hlt, HCS.out] at e
        exact e
      · exact outS_fresh HF.out
    · go_wp2_with (at_builtin; go_loud (refine wpList_app1 _ _ rfl (.tmp 22) (.tmp 26) 25 rfl 5 i0 (.int .u8 0) 1 1 Tryz.underlying25 hi hz0 hz1 hz2 rfl (by decide) _ _ _ HO.out.own 1 1 rfl rfl rfl ?c1 ?c2 ?c3 ?_))
      case c1 => simp [Value.oneCell']
      case c2 => have := HC.out; have := HL.out; simp only [List.length_append, maxLen]; omega
      case c3 => have := HC.out; have := HL.out; simp only [List.length_append]; omega
      intro ad c w1 own1 fm1 fr1
      obtain ⟨k0, k1, k2⟩ := HO.out.row fm1
      have OW := Lib.hid own1; clear own1
      have FM := Lib.hid fm1; clear fm1
      have FR := Lib.hid fr1; clear fr1
      obtain ⟨o1, o2⟩ := HO.out.store (cs := [UInt8.ofNat (n % 128 + 128)]) OW.out FM.out FR.out (bV_snoc _ _ (by rw [toNat_ofNat (by omega), or_mark]))
      have O1 := Lib.hid o1; clear o1
      have O2 := Lib.hid o2; clear o2
      go_wp2
      go_roundw
      case rel =>
        have e := O1.out
        rw [List.append_assoc] at e
        have hb := vl_big hlt
        have hs := HCS.out
        have hc := HC.out
        rw [hb] at hs hc
        exact ⟨n / 128, _, cs ++ [UInt8.ofNat (n % 128 + 128)], by go_num, by have := HN.out; omega, by simp only [List.length_append, List.length_cons, List.length_nil] at hc ⊢; omega, e,
          by rw [List.append_assoc]; exact hs, HF.out.trans HM.out.size FR.out, HM.out.trans O2.out (outS_fresh HF.out)⟩
      case measure => simp [intOf]; omega
/-- append onto a []byte of one's own. -/
theorem app_u8 {ops : Array Oper} {rest : List Oper} {o : Oper} {a : Act} {Q : Exit → Act → World → Prop} (w : World) (hgd : o.guard = none) (s x : Operand) (tx : TypeId)
    (ho : o.op = .call { callee := .builtin .append, args := #[s, x], argTypes := #[25, tx] }) (v : Value) (bs : List UInt8) (hown : w.ownsRow 0 5 1 v bs.length (bV bs)) (xv : Value) (cs : List UInt8)
    (hv : a.eval s = v) (hx : a.eval x = xv) (hs : Src Tryz.prog 1 tx xv cs.length (bV cs) w) (hl : bs.length + cs.length ≤ 140737488355328)
    (h : ∀ ad c w', w'.ownsRow 0 5 1 (.slice ad (bs.length + cs.length) c) (bs ++ cs).length (bV (bs ++ cs)) → Frm (RowS v) w w' → Fresh w v (.slice ad (bs.length + cs.length) c) →
      (Value.slice ad (bs.length + cs.length) c = .slice none 0 0 ↔ v = .slice none 0 0 ∧ cs.length = 0) → wpList Tryz.prog ops Q rest (a.put o.dst (.slice ad (bs.length + cs.length) c)) w') :
    wpList Tryz.prog ops Q (o :: rest) a w := by
  obtain ⟨i0, hi, hz0, hz1, hz2⟩ := info_parts Tryz.info_u8
  refine wpList_app w hgd s x 25 tx ho 5 i0 (.int .u8 0) 1 1 Tryz.underlying25 hi hz0 hz1 hz2 rfl (by decide) v _ _ hv hown xv _ _ hx hs (by simp only [maxLen]; omega) (by omega) fun ad c w' g1 g2 g3 g4 => h ad c w' ?_ g2 g3 g4
  rw [bV_append, List.length_append]
  exact g1
/-- append of one byte, just laid, onto a []byte of one's own. -/
theorem app_u8_1 {ops : Array Oper} {rest : List Oper} {o : Oper} {a : Act} {Q : Exit → Act → World → Prop} (w : World) (hgd : o.guard = none) (s x : Operand)
    (ho : o.op = .call { callee := .builtin .append, args := #[s, x], argTypes := #[25, 25] }) (k : Int) (v : Value) (bs : List UInt8) (hown : w.ownsRow 0 5 1 v bs.length (bV bs)) (b : UInt8)
    (hv : a.eval s = v) (hx : a.eval x = .slice (some ⟨w.heap.size, 0, none⟩) 1 1) (hk : k = (b.toNat : Int)) (hl : bs.length + 1 ≤ 140737488355328)
    (h : ∀ ad c w', w'.ownsRow 0 5 1 (.slice ad (bs.length + 1) c) (bs ++ [b]).length (bV (bs ++ [b])) → Frm (RowS v) w w' → Fresh w v (.slice ad (bs.length + 1) c) → wpList Tryz.prog ops Q rest (a.put o.dst (.slice ad (bs.length + 1) c)) w') :
    wpList Tryz.prog ops Q (o :: rest) a (w.alloc (.cells #[.int .u8 k] 5)) := by
  obtain ⟨i0, hi, hz0, hz1, hz2⟩ := info_parts Tryz.info_u8
  subst hk
  refine wpList_app1 w [.int .u8 (b.toNat : Int)] hgd s x 25 ho 5 i0 (.int .u8 0) 1 1 Tryz.underlying25 hi hz0 hz1 hz2 rfl (by decide) v _ _ hown 1 1 hv hx rfl (by simp [Value.oneCell']) (by simp only [maxLen]; omega) (by omega) fun ad c w' g1 g2 g3 => h ad c w' ?_ g2 g3
  rw [bV_append, List.length_append]
  exact g1
theorem own_empty (w : World) : (w.alloc (.cells #[] 5)).ownsRow 0 5 1 (.slice (some ⟨w.heap.size, 0, none⟩) 0 0) ([] : List UInt8).length (bV []) :=
  ⟨rfl, .inr ⟨w.heap.size, 0, #[], rfl, Nat.zero_le _, heap_alloc_new w _, Nat.le_refl _, Nat.zero_le _, rfl, rfl⟩⟩
set_option maxHeartbeats 400000 in
set_option maxRecDepth 1000000 in
theorem clone_nil (w : World) : Calls Tryz.prog 61 #[.slice none 0 0] w fun e w' => e = .returned (.slice none 0 0) ∧ w = w' := by
  have hq := Lib.run_eql_slice_nil (P := Tryz.prog) w 25 5 none 0 0 0 0 Tryz.underlying25
  go_enter Tryz.func61, Tryz.ntmps61
  go_wp2
  go_ret
  exact ⟨rfl, rfl⟩
set_option maxHeartbeats 400000 in
set_option maxRecDepth 1000000 in
theorem clone_some (w : World) (a : Addr) (c : Nat) (bs : List UInt8) (h : Rd w (.slice (some a) bs.length c) bs.length (bV bs)) (hl : bs.length ≤ 140737488355328) :
    Calls Tryz.prog 61 #[.slice (some a) bs.length c] w fun e w' => ∃ ad c', e = .returned (.slice ad bs.length c') ∧ w'.ownsRow 0 5 1 (.slice ad bs.length c') bs.length (bV bs) ∧ NewV w (.slice ad bs.length c') ∧ Frm (fun _ => False) w w' := by
  obtain ⟨i0, hi, hz0, hz1, hz2⟩ := info_parts Tryz.info_u8
  have hq := Lib.run_eql_slice_nil (P := Tryz.prog) w 25 5 (some a) bs.length c 0 0 Tryz.underlying25
  go_enter Tryz.func61, Tryz.ntmps61
  have hs := (h.keep (Frm.alloc (fun _ => False) w (.cells #[] 5)) (fun _ _ h => h)).src (P := Tryz.prog) (size := 1) Tryz.underlying25 (by simp) (bV_oneCell bs)
  have HS := Lib.hid hs; clear hs
  have HH := Lib.hid h; clear h
  go_wp2_with (at_builtin; go_loud (refine app_u8 _ rfl (.tmp 5) (.tmp 6) 25 rfl _ [] (own_empty w) _ bs rfl rfl HS.out ?c1 ?_))
  case c1 => simpa using hl
  intro ad c1 w1 own1 fm1 fr1 _
  have OW := Lib.hid own1; clear own1
  have FM := Lib.hid fm1; clear fm1
  have FR := Lib.hid fr1; clear fr1
  clear hq
  go_wp2
  go_ret
  refine ⟨ad, c1, rfl, OW.out, ?_, ?_⟩
  · intro k hk
    rcases FR.out k hk with h1 | h1
    · simp [Value.ownBlock] at h1; omega
    · simp at h1; omega
  · exact (Frm.alloc (fun _ => False) w _).trans FM.out (fun i hi hs => by simp [RowS, Value.ownBlock] at hs; omega)
/-- A fresh value that reads as the bytes. -/
structure Copy (w : World) (v : Value) (bs : List UInt8) (w' : World) : Prop where
  own : w'.ownsRow 0 5 1 v bs.length (bV bs)
  new : NewV w v
  frm : Frm (fun _ => False) w w'
  shape : ∃ ad c, v = .slice ad bs.length c
theorem clone_any (w : World) (v : Value) (bs : List UInt8) (h : Rd w v bs.length (bV bs)) (hl : bs.length ≤ 140737488355328) :
    Calls Tryz.prog 61 #[v] w fun e w' => ∃ v', e = .returned v' ∧ Copy w v' bs w' := by
  rcases h with ⟨ad, rfl, h2, h3⟩ | ⟨b, off, c, rfl, hx⟩
  · have hb : bs = [] := by simpa [bV] using h3
    subst hb
    cases ad with
    | some a => exact (clone_some w a 0 [] (.inl ⟨_, rfl, rfl, rfl⟩) hl).mono fun e w' ⟨ad, c', he, h1, h2, h3⟩ => ⟨_, he, h1, h2, h3, ad, c', rfl⟩
    | none =>
    exact (clone_nil w).mono fun e w' ⟨he, hw⟩ => ⟨_, he, by subst hw; exact ⟨World.ownsRow_nil w 0 _ 1, fun k hk => by simp [Value.ownBlock] at hk, Frm.refl _ _, none, 0, rfl⟩⟩
  · exact (clone_some w ⟨b, off, none⟩ c bs (.inr ⟨b, off, c, rfl, hx⟩) hl).mono fun e w' ⟨ad, c', he, h1, h2, h3⟩ => ⟨_, he, h1, h2, h3, ad, c', rfl⟩
set_option maxHeartbeats 400000 in
set_option maxRecDepth 1000000 in
theorem end_long (ob : Nat) (w : World) (v : Value) (bs : List UInt8) (h : OutAt w ob v bs) (hl : 60000 < bs.length) : Calls Tryz.prog 14 #[.pointer (some ⟨ob, 0, none⟩)] w fun e w' => e = .returned (.tuple #[.slice none 0 0, .int .i64 3]) ∧ w = w' := by
  have hcell := cell_of_one h.cell
  obtain ⟨a, c, rfl⟩ : ∃ a c, v = .slice a bs.length c := by
    rcases h.own.2 with ⟨rfl, h0⟩ | ⟨g, cap, cur, rfl, _⟩
    · omega
    · exact ⟨_, _, rfl⟩
  clear h
  go_enter Tryz.func14, Tryz.ntmps14
  go_wp2
  go_ret2
  exact ⟨rfl, rfl⟩
set_option maxHeartbeats 400000 in
set_option maxRecDepth 1000000 in
theorem end_ok (ob : Nat) (w : World) (v : Value) (bs : List UInt8) (h : OutAt w ob v bs) (hl : bs.length ≤ 60000) : Calls Tryz.prog 14 #[.pointer (some ⟨ob, 0, none⟩)] w fun e w' => ∃ v', e = .returned (.tuple #[v', .int .i64 0]) ∧ Copy w v' bs w' := by
  have hcell := cell_of_one h.cell
  have hc := clone_any w v bs (Rd.own h.own) (by omega)
  have HC := Lib.hid hc; clear hc
  obtain ⟨a, c, rfl⟩ : ∃ a c, v = .slice a bs.length c := by
    rcases h.own.2 with ⟨rfl, h0⟩ | ⟨g, cap, cur, rfl, _⟩
    · exact ⟨none, 0, by rw [h0]⟩
    · exact ⟨_, _, rfl⟩
  clear h
  go_enter Tryz.func14, Tryz.ntmps14
  go_wp2_with (go_at_call 61; refine HC.out.mono ?_)
  rintro e w1 ⟨v', rfl, hcp⟩
  have HP := Lib.hid hcp; clear hcp
  go_wp2
  go_ret2
  exact ⟨v', rfl, HP.out⟩
end Go.Proofs.YtggfoihfenlckaaGreat
/- codec.Out.Text; tributarylaw02.awake. -/
namespace Go.Proofs.YtggfoihfenlckaaGreat
open Go.RowKit
/-- A text's bytes. -/
def textB (s : ByteArray) : List UInt8 := numB s.size ++ s.data.toList
theorem bV_string (s : ByteArray) : byteCells s = bV s.data.toList := rfl
theorem src_string (w : World) (s : ByteArray) : Src Tryz.prog 1 9 (.string s) s.data.toList.length (bV s.data.toList) w := by
  have := Src.ofString (P := Tryz.prog) w (tx := 9) Tryz.underlying9 s
  rw [bV_string] at this
  simpa using this
theorem own_shape {w : World} {e : TypeId} {size : Nat} {v : Value} {n : Nat} {xs : List Value} (h : w.ownsRow 0 e size v n xs) : ∃ a c, v = .slice a n c := by
  rcases h.2 with ⟨rfl, h0⟩ | ⟨g, cap, cur, rfl, _⟩
  · exact ⟨none, 0, by rw [h0]⟩
  · exact ⟨_, _, rfl⟩
set_option maxHeartbeats 400000 in
set_option maxRecDepth 1000000 in
theorem text_go (ob : Nat) (s : ByteArray) (w : World) (v : Value) (bs : List UInt8) (h : OutAt w ob v bs) (hl : bs.length + s.size ≤ 99999000) :
    Calls Tryz.prog 116 #[.pointer (some ⟨ob, 0, none⟩), .string s] w fun e w' => e = .returned (.tuple #[]) ∧
      ∃ v', OutAt w' ob v' (bs ++ textB s) ∧ Fresh w v v' ∧ Frm (OutS ob v) w w' := by
  have hn := num_go ob s.size w v bs h (by omega) (by omega) (by omega)
  have hb : (numB s.size).length ≤ 10 := numB_le10 (by omega) (by omega)
  have hlen : (bs ++ numB s.size).length + s.size ≤ 100000000 := by simp only [List.length_append]; omega
  generalize hB : bs ++ numB s.size = b1 at hn hlen
  have HB := Lib.hid hB; clear hB
  have HN := Lib.hid hn; clear hn
  have HL := Lib.hid hlen; clear hlen
  clear h hb hl
  go_enter Tryz.func116, Tryz.ntmps116
  go_wp2_with (go_at_call 95; refine HN.out.mono ?_)
  rintro e w1 ⟨rfl, v1, ho, hf, hm⟩
  have hcell := cell_of_one ho.cell
  have hfree := free_of_one ho.cell
  obtain ⟨a1, c1, rfl⟩ := own_shape ho.own
  have HO := Lib.hid ho; clear ho
  have HF := Lib.hid hf; clear hf
  have HM := Lib.hid hm; clear hm
  go_wp2_with (at_builtin; go_loud (refine app_u8 _ rfl (.tmp 14) (.tmp 15) 9 rfl _ _ HO.out.own _ s.data.toList rfl rfl (src_string _ s) ?c1 ?_))
  case c1 => have := HL.out; simp only [Array.length_toList]; show _ + s.size ≤ _; omega
  intro ad c2 w2 own1 fm1 fr1 _
  obtain ⟨k0, k1, k2⟩ := HO.out.row fm1
  have OW := Lib.hid own1; clear own1
  have FM := Lib.hid fm1; clear fm1
  have FR := Lib.hid fr1; clear fr1
  obtain ⟨o1, o2⟩ := HO.out.store (cs := s.data.toList) OW.out FM.out FR.out (by simp [bV_append])
  have O1 := Lib.hid o1; clear o1
  have O2 := Lib.hid o2; clear o2
  go_wp2
  go_end0
  refine ⟨rfl, _, ?_, HF.out.trans HM.out.size FR.out, HM.out.trans O2.out (outS_fresh HF.out)⟩
  have e := O1.out
  have hx : b1 ++ s.data.toList = bs ++ textB s := by rw [← HB.out, List.append_assoc]; rfl
  rw [hx] at e
  exact e
theorem out_new (w : World) : OutAt (w.alloc (.cells #[.slice none 0 0] 27)) w.heap.size (.slice none 0 0) [] :=
  ⟨heap_alloc_new w _, World.ownsRow_nil _ 0 _ 1, by simp [Value.ownBlock]⟩
theorem out_alloc_no (w : World) : ∀ i, i < w.heap.size → OutS w.heap.size (.slice none 0 0) i → False := fun i hi hs => by
  rcases hs with h | h
  · omega
  · simp [Value.ownBlock] at h
theorem conv_str {w : World} {v : Value} {bs : List UInt8} (h : Rd w v bs.length (bV bs)) : (convert 25 9 v).run Tryz.prog w = .ok (.string ⟨bs.toArray⟩) w := by
  rcases h with ⟨ad, rfl, h1, h2⟩ | ⟨b, off, c, rfl, _, _, h3⟩
  · have hb : bs = [] := by simpa [bV] using h2
    subst hb
    rw [run_convert_bytes_string w 25 9 5 _ _ _ Tryz.underlying25 Tryz.underlying5 Tryz.underlying9]
    cases ad with
    | none => rfl
    | some a =>
      have hl := run_loadCells_list (P := Tryz.prog) w a [] (fun j u hu => by simp at hu)
      rw [run_bytesToString w a 0 0 [] hl]
      rfl
  · rw [run_convert_bytes_string w 25 9 5 _ _ _ Tryz.underlying25 Tryz.underlying5 Tryz.underlying9]
    have e : bV bs = (bs.map (fun b => (b.toNat : Int))).map (Value.int .u8) := by simp [bV]
    have hl := run_loadCells_list (P := Tryz.prog) w ⟨b, off, none⟩ (bV bs) (fun j u hu => by rw [addr_add]; exact h3 j u hu)
    rw [bV_length, e] at hl
    rw [run_bytesToString w ⟨b, off, none⟩ bs.length c _ hl, foldl_push_byteCells]
    simp
end Go.Proofs.YtggfoihfenlckaaGreat
/- tributaryref02: Num, Text. -/
namespace Go.Proofs.YtggfoihfenlckaaGreat
open Go.RowKit
theorem Copy.nil (w : World) : Copy w (.slice none 0 0) [] w := ⟨World.ownsRow_nil w 0 _ 1, fun k hk => by simp [Value.ownBlock] at hk, Frm.refl _ _, none, 0, rfl⟩
/-- Behind an append onto it. -/
theorem Copy.app {w w1 w2 : World} {v v2 : Value} {bs cs : List UInt8} {n : Nat} {xs : List Value} (h : Copy w v bs w1) (own : w2.ownsRow 0 5 1 v2 n xs) (hx : xs = bV (bs ++ cs)) (f : Frm (RowS v) w1 w2) (fr : Fresh w1 v v2) : Copy w v2 (bs ++ cs) w2 := by
  subst hx
  have hn : n = (bs ++ cs).length := by have := own.1; simpa using this.symm
  subst hn
  refine ⟨own, fun k hk => ?_, h.frm.trans f fun i hi hs => ?_, own_shape own⟩
  · rcases fr k hk with h1 | h1
    · exact h.new k h1
    · exact Nat.le_trans h.frm.size h1
  · have := h.new i hs; omega
/-- Behind a step that leaves its row alone. -/
theorem Copy.step {w w1 w2 : World} {v : Value} {bs : List UInt8} (h : Copy w v bs w1) (f : Frm (fun _ => False) w1 w2) : Copy w v bs w2 :=
  ⟨f.owns h.own fun _ _ hs => hs, h.new, h.frm.trans f fun _ _ hs => hs, h.shape⟩
theorem Copy.rd {w w1 : World} {v : Value} {bs : List UInt8} (h : Copy w v bs w1) : Rd w1 v bs.length (bV bs) := Rd.own h.own
theorem Copy.weaken {w0 w w1 : World} {v : Value} {bs : List UInt8} (h : Copy w v bs w1) (f : Frm (fun _ => False) w0 w) : Copy w0 v bs w1 :=
  ⟨h.own, fun k hk => Nat.le_trans f.size (h.new k hk), f.trans h.frm fun _ _ hs => hs, h.shape⟩
def RNumRel (w : World) (x : Int) (u o : Value) (wr : World) : Prop :=
  ∃ (n : Nat) (cs : List UInt8), u = .int .u64 n ∧ n < 18446744073709551616 ∧ cs.length + (vl n).length ≤ 10 ∧ Copy w o cs wr ∧ cs ++ vl n = numB x
set_option maxHeartbeats 400000 in
set_option maxRecDepth 1000000 in
theorem rnum (x : Int) (w : World) (h1 : -9223372036854775808 ≤ x) (h2 : x ≤ 9223372036854775807) :
    Calls Tryz.prog 98 #[.int .i64 x] w fun e w' => ∃ v', e = .returned v' ∧ Copy w v' (numB x) w' := by
  have hzl := zz_lt h1 h2
  by_cases hneg : x < 0
  · have hze : (2 * -(x + 1) + 1 : Int) = (zz x : Int) := by unfold zz; rw [if_neg (by omega)]; omega
    go_enter Tryz.func98, Tryz.ntmps98
    go_wp2
    clear hneg
    go_loopw [3, 4] (fun u o wr => RNumRel w x u o wr) (fun u _ _ => (intOf u).toNat)
    case atStart => exact ⟨zz x, [], rfl, hzl, by simpa using vl_le10 hzl, Copy.nil w, rfl⟩
    case round =>
      obtain ⟨n, cs, rfl, hn, hc, ho, hcs⟩ := hrel
      obtain ⟨ao, co, rfl⟩ := ho.shape
      have HO := Lib.hid ho; clear ho
      have HCS := Lib.hid hcs; clear hcs
      have HN := Lib.hid hn; clear hn
      have HC := Lib.hid hc; clear hc
      have HZ := Lib.hid hzl; clear hzl
      have H1 := Lib.hid h1; clear h1
      have H2 := Lib.hid h2; clear h2
      have ZE := Lib.hid hze; clear hze
      by_cases hlt : n < 128
      · go_wp2_with (at_builtin; go_loud (refine app_u8_1 _ rfl (.tmp 27) (.tmp 30) rfl _ _ cs HO.out.own (UInt8.ofNat n) rfl rfl ?c1 ?c2 ?_))
        case c1 => rw [toNat_ofNat (by omega)]
        case c2 => have := HC.out; omega
        intro ad c w1 own1 fm1 fr1
        have OW := Lib.hid own1; clear own1
        have FM := Lib.hid fm1; clear fm1
        have FR := Lib.hid fr1; clear fr1
        go_wp2
        go_ret
        refine ⟨_, rfl, ?_⟩
        have e := HO.out.app (cs := [UInt8.ofNat n]) OW.out (by simp [bV_append]) FM.out FR.out
        rw [← vl_small hlt, HCS.out] at e
        exact e
      · obtain ⟨b, hb⟩ : ∃ b : UInt8, b = UInt8.ofNat (n % 128 + 128) := ⟨_, rfl⟩
        have hbn : b.toNat = n % 128 + 128 := by rw [hb, toNat_ofNat (by omega)]
        have hvb := vl_big hlt
        rw [← hb] at hvb
        have HV := Lib.hid hvb; clear hvb
        have hwr : IntKind.u64.wrap ((n : Int) / 128) = (n : Int) / 128 := IntWalk.u64_in _ (by have := HN.out; omega)
        have HB := Lib.hid hbn; clear hbn
        clear hb
        go_wp2_with (at_builtin; go_loud (refine app_u8_1 _ rfl (.tmp 18) (.tmp 23) rfl _ _ cs HO.out.own b rfl rfl ?c1 ?c2 ?_))
        case c1 => rw [HB.out]; omega
        case c2 => have := HC.out; omega
        intro ad c w1 own1 fm1 fr1
        have OW := Lib.hid own1; clear own1
        have FM := Lib.hid fm1; clear fm1
        have FR := Lib.hid fr1; clear fr1
        go_wp2
        go_roundw
        case rel =>
          have e := HO.out.app (cs := [b]) OW.out (by simp [bV_append]) FM.out FR.out
          have hs := HCS.out
          have hc := HC.out
          rw [HV.out] at hs hc
          exact ⟨n / 128, cs ++ [b], by go_num, by have := HN.out; omega, by simp only [List.length_append, List.length_cons, List.length_nil] at hc ⊢; omega, e, by rw [List.append_assoc]; exact hs⟩
        case measure => simp [intOf]; omega
  · have hze : (2 * x : Int) = (zz x : Int) := by unfold zz; rw [if_pos (by omega)]; omega
    go_enter Tryz.func98, Tryz.ntmps98
    go_wp2
    clear hneg
    go_loopw [3, 4] (fun u o wr => RNumRel w x u o wr) (fun u _ _ => (intOf u).toNat)
    case atStart => exact ⟨zz x, [], rfl, hzl, by simpa using vl_le10 hzl, Copy.nil w, rfl⟩
    case round =>
      obtain ⟨n, cs, rfl, hn, hc, ho, hcs⟩ := hrel
      obtain ⟨ao, co, rfl⟩ := ho.shape
      have HO := Lib.hid ho; clear ho
      have HCS := Lib.hid hcs; clear hcs
      have HN := Lib.hid hn; clear hn
      have HC := Lib.hid hc; clear hc
      have HZ := Lib.hid hzl; clear hzl
      have H1 := Lib.hid h1; clear h1
      have H2 := Lib.hid h2; clear h2
      have ZE := Lib.hid hze; clear hze
      by_cases hlt : n < 128
      · go_wp2_with (at_builtin; go_loud (refine app_u8_1 _ rfl (.tmp 27) (.tmp 30) rfl _ _ cs HO.out.own (UInt8.ofNat n) rfl rfl ?c1 ?c2 ?_))
        case c1 => rw [toNat_ofNat (by omega)]
        case c2 => have := HC.out; omega
        intro ad c w1 own1 fm1 fr1
        have OW := Lib.hid own1; clear own1
        have FM := Lib.hid fm1; clear fm1
        have FR := Lib.hid fr1; clear fr1
        go_wp2
        go_ret
        refine ⟨_, rfl, ?_⟩
        have e := HO.out.app (cs := [UInt8.ofNat n]) OW.out (by simp [bV_append]) FM.out FR.out
        rw [← vl_small hlt, HCS.out] at e
        exact e
      · obtain ⟨b, hb⟩ : ∃ b : UInt8, b = UInt8.ofNat (n % 128 + 128) := ⟨_, rfl⟩
        have hbn : b.toNat = n % 128 + 128 := by rw [hb, toNat_ofNat (by omega)]
        have hvb := vl_big hlt
        rw [← hb] at hvb
        have HV := Lib.hid hvb; clear hvb
        have hwr : IntKind.u64.wrap ((n : Int) / 128) = (n : Int) / 128 := IntWalk.u64_in _ (by have := HN.out; omega)
        have HB := Lib.hid hbn; clear hbn
        clear hb
        go_wp2_with (at_builtin; go_loud (refine app_u8_1 _ rfl (.tmp 18) (.tmp 23) rfl _ _ cs HO.out.own b rfl rfl ?c1 ?c2 ?_))
        case c1 => rw [HB.out]; omega
        case c2 => have := HC.out; omega
        intro ad c w1 own1 fm1 fr1
        have OW := Lib.hid own1; clear own1
        have FM := Lib.hid fm1; clear fm1
        have FR := Lib.hid fr1; clear fr1
        go_wp2
        go_roundw
        case rel =>
          have e := HO.out.app (cs := [b]) OW.out (by simp [bV_append]) FM.out FR.out
          have hs := HCS.out
          have hc := HC.out
          rw [HV.out] at hs hc
          exact ⟨n / 128, cs ++ [b], by go_num, by have := HN.out; omega, by simp only [List.length_append, List.length_cons, List.length_nil] at hc ⊢; omega, e, by rw [List.append_assoc]; exact hs⟩
        case measure => simp [intOf]; omega
set_option maxHeartbeats 400000 in
set_option maxRecDepth 1000000 in
theorem rtext (s : ByteArray) (w : World) (hl : s.size ≤ 140737488351232) :
    Calls Tryz.prog 117 #[.string s] w fun e w' => ∃ v', e = .returned v' ∧ Copy w v' (textB s) w' := by
  have hn := rnum s.size w (by omega) (by omega)
  have hb : (numB s.size).length ≤ 10 := numB_le10 (by omega) (by omega)
  have hlen : (numB s.size).length + s.size ≤ 140737488351300 := by omega
  have htx : textB s = numB s.size ++ s.data.toList := rfl
  generalize numB s.size = nb at *
  have HT := Lib.hid htx; clear htx
  have HN := Lib.hid hn; clear hn
  have HL := Lib.hid hlen; clear hlen
  clear hl hb
  go_enter Tryz.func117, Tryz.ntmps117
  go_wp2_with (go_at_call 98; refine HN.out.mono ?_)
  rintro e w1 ⟨v1, rfl, hcp⟩
  obtain ⟨a1, c1, rfl⟩ := hcp.shape
  have HP := Lib.hid hcp; clear hcp
  go_wp2_with (at_builtin; go_loud (refine app_u8 _ rfl (.tmp 5) (.tmp 6) 9 rfl _ nb HP.out.own _ s.data.toList rfl rfl (src_string _ s) ?c1 ?_))
  case c1 => have := HL.out; simp only [Array.length_toList]; show _ + s.size ≤ _; omega
  intro ad c2 w2 own1 fm1 fr1 _
  have OW := Lib.hid own1; clear own1
  have FM := Lib.hid fm1; clear fm1
  have FR := Lib.hid fr1; clear fr1
  go_wp2
  go_ret
  refine ⟨_, rfl, ?_⟩
  have e := HP.out.app (cs := s.data.toList) OW.out (by simp [bV_append]) FM.out FR.out
  rw [← HT.out] at e
  exact e
end Go.Proofs.YtggfoihfenlckaaGreat