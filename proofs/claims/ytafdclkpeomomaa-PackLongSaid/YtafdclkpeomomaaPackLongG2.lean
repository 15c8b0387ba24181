/- Words for the law PackLong: BSmall, Reg, BDot, RunAt, R6, SpRight, R6b. -/
import Derived.Test.YtafdclkpeomomaaPackLongG1
import Derived.Test.YtafdclkpeomomaaChecked
import Derived.Deep.RegionHeld
import Derived.Deep.RegionHeld3
import Derived.Deep.DeepCutAuto
import Derived.Deep.RegionWith
set_option linter.unusedSimpArgs false
set_option linter.unusedVariables false
/- Dots, numbers, keys: the small tests. -/
namespace Go.Proofs.Ytafdclkpeomomaa
open Go.RowKit

abbrev NoS : Nat → Prop := fun _ => False
def numB1 (n : Int) : Bool := decide (1 ≤ n ∧ n ≤ 1099511627776)
def dotB (d n : Int) : Bool := decide (0 ≤ d ∧ d < 4 ∧ 1 ≤ n ∧ n ≤ 1099511627776)
theorem number_any (n : Int) (w : World) : Calls Try.prog 57 #[.int .i64 n] w fun e w' => e = .returned (.bool (numB1 n)) ∧ w' = w := by
  go_enter Try.func57, Try.ntmps57
  go_wp2
  all_goals
    go_ret
    refine ⟨ret_bool ?_, rfl⟩
    rw [Bool.eq_iff_iff]
    simp [numB1] <;> omega
theorem dotRight_any (d n : Int) (w : World) : Calls Try.prog 42 #[.agg #[.int .i64 d, .int .i64 n]] w fun e w' => e = .returned (.bool (dotB d n)) ∧ Frm NoS w w' := by
  go_enter Try.func42, Try.ntmps42
  go_wp2
  all_goals
    go_ret
    refine ⟨ret_bool ?_, Frm.alloc _ _ _⟩
    rw [Bool.eq_iff_iff]
    simp [dotB] <;> omega
def keyB (s : ByteArray) : Bool := decide (1 ≤ s.size ∧ s.size ≤ 30)
theorem tkey_any (s : ByteArray) (w : World) (h : s.size ≤ 9223372036854775807) : Calls Try.prog 55 #[.string s] w fun e w' => e = .returned (.bool (keyB s)) ∧ w' = w := by
  go_enter Try.func55, Try.ntmps55
  go_wp2
  all_goals
    go_ret
    refine ⟨ret_bool ?_, rfl⟩
    rw [Bool.eq_iff_iff]
    simp [keyB] <;> omega
theorem empty_any (a b : Option Addr) (n m c d : Nat) (w : World) : Calls Try.prog 56 #[.agg #[.slice a n c, .slice b m d]] w fun e w' => e = .returned (.bool (decide (n = 0 ∧ m = 0))) ∧ Frm NoS w w' := by
  go_enter Try.func56, Try.ntmps56
  go_wp2
  all_goals
    go_ret
    refine ⟨ret_bool ?_, Frm.alloc _ _ _⟩
    rw [Bool.eq_iff_iff]
    simp <;> omega
/-- Is the one dot ahead of the other one? -/
def dotLt (d n e m : Int) : Bool := decide (d < e ∨ d = e ∧ n < m)
theorem nan64_any (a : Int) (w : World) : Calls Try.prog 68 #[.int .i64 a] w fun e w' => e = .returned (.bool false) ∧ w' = w := by
  go_enter Try.func68, Try.ntmps68
  go_wp2
  go_ret
  exact ⟨rfl, rfl⟩
theorem nanInt_any (a : Int) (w : World) : Calls Try.prog 81 #[.int .i64 a] w fun e w' => e = .returned (.bool false) ∧ w' = w := by
  go_enter Try.func81, Try.ntmps81
  go_wp2
  go_ret
  exact ⟨rfl, rfl⟩
def cmpI (a b : Int) : Int := if a < b then -1 else if b < a then 1 else 0
theorem cmp64_any (a b : Int) (w : World) : Calls Try.prog 60 #[.int .i64 a, .int .i64 b] w fun e w' => e = .returned (.int .i64 (cmpI a b)) ∧ w' = w := by
  go_enter Try.func60, Try.ntmps60
  go_wp2_with (go_at_call 68; refine (nan64_any _ _).mono ?_; rintro e w' ⟨rfl, rfl⟩)
  all_goals
    go_ret
    refine ⟨ret_int ?_, rfl⟩
    unfold cmpI
    split
    · omega
    · first | omega | (split <;> omega)
theorem cmpInt_any (a b : Int) (w : World) : Calls Try.prog 70 #[.int .i64 a, .int .i64 b] w fun e w' => e = .returned (.int .i64 (cmpI a b)) ∧ w' = w := by
  go_enter Try.func70, Try.ntmps70
  go_wp2_with (go_at_call 81; refine (nanInt_any _ _).mono ?_; rintro e w' ⟨rfl, rfl⟩)
  all_goals
    go_ret
    refine ⟨ret_int ?_, rfl⟩
    unfold cmpI
    split
    · omega
    · first | omega | (split <;> omega)
end Go.Proofs.Ytafdclkpeomomaa

/- Fixed steps through a region that draws its order. -/
namespace Go.Proofs.Ytafdclkpeomomaa

theorem take_op {P : Program} {ops : Array Oper} {Q : Exit → Act → World → Prop} {md : Region.Mode} {S : World → Prop} (i d : Nat) {oi : Oper} {v : Value} {fuel : Nat} {listed : Array Bool} {a : Act} {w : World} (hi : ops[i]? = some oi) (hd : oi.dst = some d)
    (hs : Region.noSelect ops = true) (hf : Region.free md ops listed i = true) (hr : (Region.ready md ops listed).contains i = true)
    (hQ : ∀ c a w, Q (.panic c) (a.put (some d) v) w → Q (.panic c) a w) (hy : YieldsIf P ops S oi v a) (hS : S w)
    (h : wpAnyH P md ops Q S fuel (listed.setIfInBounds i true) (a.put (some d) v) w) : wpAnyH P md ops Q S (fuel + 1) listed a w :=
  wpAnyH_take hi hs hf hr (by rw [hd]; exact hQ) hy hS (by rw [hd]; exact h)

end Go.Proofs.Ytafdclkpeomomaa

/- Which of two dots is ahead. -/
namespace Go.Proofs.Ytafdclkpeomomaa
open Go.RowKit

def orI (x y : Int) : Int := if x = 0 then y else x
set_option maxRecDepth 1000000 in
theorem cmpOr_two (b c : Nat) (x y : Int) (w : World) (hx : w.cell? ⟨b, 0, none⟩ = some (.int .i64 x)) (hy : w.cell? ⟨b, 1, none⟩ = some (.int .i64 y)) :
    Calls Try.prog 69 #[.slice (some ⟨b, 0, none⟩) 2 c] w fun e w' => e = .returned (.int .i64 (orI x y)) ∧ w' = w := by
  by_cases h0 : x = 0
  · subst h0
    by_cases h1 : y = 0
    · subst h1
      go_enter Try.func69, Try.ntmps69
      go_wp2
      go_loop [8] (fun i => ∃ k : Nat, k ≤ 2 ∧ i = .int .i64 k) (fun i => 2 - (intOf i).toNat)
      case atStart => exact ⟨0, by omega, rfl⟩
      case round =>
        obtain ⟨k, hk, rfl⟩ := hrel
        rcases (by omega : k = 0 ∨ k = 1 ∨ k = 2) with rfl | rfl | rfl
        · go_wp2
          go_round
          case rel => exact ⟨1, by omega, rfl⟩
          case measure => simp [intOf]
        · go_wp2
          go_round
          case rel => exact ⟨2, by omega, rfl⟩
          case measure => simp [intOf]
        · go_wp2
          go_ret
          exact ⟨rfl, rfl⟩
    · have h2 : ((y : Int) == 0) = false := by simpa using h1
      go_enter Try.func69, Try.ntmps69
      go_wp2
      go_loop [8] (fun i => ∃ k : Nat, k ≤ 1 ∧ i = .int .i64 k) (fun i => 2 - (intOf i).toNat)
      case atStart => exact ⟨0, by omega, rfl⟩
      case round =>
        obtain ⟨k, hk, rfl⟩ := hrel
        rcases (by omega : k = 0 ∨ k = 1) with rfl | rfl
        · go_wp2
          go_round
          case rel => exact ⟨1, by omega, rfl⟩
          case measure => simp [intOf]
        · go_wp2
          go_ret
          exact ⟨rfl, rfl⟩
  · have h2 : ((x : Int) == 0) = false := by simpa using h0
    go_enter Try.func69, Try.ntmps69
    go_wp2
    go_loop [8] (fun i => i = .int .i64 0) (fun i => 2 - (intOf i).toNat)
    case atStart => rfl
    case round =>
      obtain rfl := hrel
      go_wp2
      go_ret
      exact ⟨ret_int (by simp [orI, h0]), rfl⟩
def dotC (d n e m : Int) : Int := orI (cmpI d e) (cmpI n m)
theorem dotC_lt (d n e m : Int) : decide (dotC d n e m < 0) = dotLt d n e m := by
  rw [Bool.eq_iff_iff]
  simp only [dotC, dotLt, decide_eq_true_eq]
  unfold orI cmpI
  by_cases h1 : d < e
  · simp [h1]
  · by_cases h2 : e < d
    · simp [h1, h2]; omega
    · have : d = e := by omega
      subst this
      by_cases h3 : n < m
      · simp [h3]
      · by_cases h4 : m < n <;> simp [h3, h4] <;> omega
set_option maxRecDepth 1000000 in
theorem dotCmp_any (d n e m : Int) (w : World) : Calls Try.prog 65 #[.agg #[.int .i64 d, .int .i64 n], .agg #[.int .i64 e, .int .i64 m]] w fun x w' => x = .returned (.int .i64 (dotC d n e m)) ∧ Frm NoS w w' := by
  go_enter Try.func65, Try.ntmps65
  go_wp2_with fail
  go_region_held3 (fun w' => w'.cell? ⟨w.heap.size, 0, none⟩ = some (.int .i64 d) ∧ w'.cell? ⟨w.heap.size, 1, none⟩ = some (.int .i64 n) ∧ w'.cell? ⟨w.heap.size + 1, 0, none⟩ = some (.int .i64 e) ∧ w'.cell? ⟨w.heap.size + 1, 1, none⟩ = some (.int .i64 m))
    (go_keep)
    (first
      | (go_at_call 70; refine (cmpInt_any _ _ _).mono ?_; rintro e w' ⟨rfl, rfl⟩)
      | (go_at_call 60; refine (cmp64_any _ _ _).mono ?_; rintro e w' ⟨rfl, rfl⟩)
      | (go_at_call 69; refine (cmpOr_two _ _ (cmpI d e) (cmpI n m) _ (by go_simp) (by go_simp)).mono ?_; rintro e w' ⟨rfl, rfl⟩))
  all_goals
    go_wp2
    go_ret
    exact ⟨rfl, by repeat (first | exact Frm.refl _ _ | refine Frm.alloc1 ?_ | refine Frm.drew1 ?_)⟩
end Go.Proofs.Ytafdclkpeomomaa

/- How a slice of runs, of numbers, of spans reads; right lists, step by step. -/
namespace Go.Proofs.Ytafdclkpeomomaa
open Go.RowKit

/-- The cells of runs, of numbers, of spans. -/
def ruC (l : RunL) : List Value := l.flatMap fun r => [.int .i64 r.1, .int .i64 r.2]
def inV (l : List Int) : List Value := l.map fun n => .int .i64 n
def spC (c : CtxL) : List Value := c.flatMap fun s => [.int .i64 s.1, .int .i64 s.2.1, .int .i64 s.2.2]
theorem ruC_append (a b : RunL) : ruC (a ++ b) = ruC a ++ ruC b := by simp [ruC]
theorem inV_append (a b : List Int) : inV (a ++ b) = inV a ++ inV b := by simp [inV]
theorem spC_append (a b : CtxL) : spC (a ++ b) = spC a ++ spC b := by simp [spC]
theorem ruC_one (r : Int × Int) : ruC [r] = [.int .i64 r.1, .int .i64 r.2] := rfl
theorem spC_one (s : Int × Int × Int) : spC [s] = [.int .i64 s.1, .int .i64 s.2.1, .int .i64 s.2.2] := rfl
theorem ruC_length : ∀ l : RunL, (ruC l).length = l.length * 2
  | [] => rfl
  | r :: l => by
    have e : ruC (r :: l) = [.int .i64 r.1, .int .i64 r.2] ++ ruC l := rfl
    rw [e, List.length_append, ruC_length l]; simp; omega
theorem spC_length : ∀ c : CtxL, (spC c).length = c.length * 3
  | [] => rfl
  | s :: c => by
    have e : spC (s :: c) = [.int .i64 s.1, .int .i64 s.2.1, .int .i64 s.2.2] ++ spC c := rfl
    rw [e, List.length_append, spC_length c]; simp; omega
@[simp] theorem inV_length (l : List Int) : (inV l).length = l.length := by simp [inV]
theorem ruC_oneCell (l : RunL) : ∀ v ∈ ruC l, v.oneCell' = true := by
  intro v hv
  simp only [ruC, List.mem_flatMap] at hv
  obtain ⟨r, _, hv⟩ := hv
  simp at hv
  rcases hv with rfl | rfl <;> rfl
theorem spC_oneCell (c : CtxL) : ∀ v ∈ spC c, v.oneCell' = true := by
  intro v hv
  simp only [spC, List.mem_flatMap] at hv
  obtain ⟨r, _, hv⟩ := hv
  simp at hv
  rcases hv with rfl | rfl | rfl <;> rfl
theorem inV_oneCell (l : List Int) : ∀ v ∈ inV l, v.oneCell' = true := by
  intro v hv
  simp only [inV, List.mem_map] at hv
  obtain ⟨r, _, rfl⟩ := hv
  rfl
theorem ruC_at : ∀ (l : RunL) (k : Nat), k < l.length → (ruC l)[k * 2]? = some (.int .i64 (l.getD k (0, 0)).1) ∧ (ruC l)[k * 2 + 1]? = some (.int .i64 (l.getD k (0, 0)).2)
  | [], _, h => by cases h
  | r :: l, 0, _ => ⟨rfl, rfl⟩
  | r :: l, k + 1, h => by
    obtain ⟨h1, h2⟩ := ruC_at l k (by simpa using h)
    have e : ruC (r :: l) = .int .i64 r.1 :: .int .i64 r.2 :: ruC l := rfl
    rw [e, show (k + 1) * 2 = k * 2 + 1 + 1 by omega, show k * 2 + 1 + 1 + 1 = (k * 2 + 1) + 1 + 1 by omega]
    exact ⟨h1, h2⟩
theorem spC_at : ∀ (c : CtxL) (k : Nat), k < c.length → (spC c)[k * 3]? = some (.int .i64 (c.getD k (0, 0, 0)).1) ∧ (spC c)[k * 3 + 1]? = some (.int .i64 (c.getD k (0, 0, 0)).2.1) ∧ (spC c)[k * 3 + 2]? = some (.int .i64 (c.getD k (0, 0, 0)).2.2)
  | [], _, h => by cases h
  | r :: l, 0, _ => ⟨rfl, rfl, rfl⟩
  | r :: l, k + 1, h => by
    obtain ⟨h1, h2, h3⟩ := spC_at l k (by simpa using h)
    have e : spC (r :: l) = .int .i64 r.1 :: .int .i64 r.2.1 :: .int .i64 r.2.2 :: spC l := rfl
    rw [e, show (k + 1) * 3 = k * 3 + 1 + 1 + 1 by omega, show k * 3 + 1 + 1 + 1 + 1 = (k * 3 + 1) + 1 + 1 + 1 by omega, show k * 3 + 1 + 1 + 1 + 2 = (k * 3 + 2) + 1 + 1 + 1 by omega]
    exact ⟨h1, h2, h3⟩
/-- A slice of runs. -/
def RunAt (w : World) (v : Value) (l : RunL) : Prop := Rd w v l.length (ruC l)
def CtxAt (w : World) (v : Value) (c : CtxL) : Prop := Rd w v c.length (spC c)
def NumAt (w : World) (v : Value) (l : List Int) : Prop := Rd w v l.length (inV l)
theorem Rd.keep0 {w w' : World} {v : Value} {n : Nat} {xs : List Value} (h : Rd w v n xs) (f : Frm NoS w w') : Rd w' v n xs := h.keep f fun _ _ h => h
/-- What was there is kept, where new memory alone has turned. -/
theorem Rd.keepN {w w' : World} {v : Value} {n : Nat} {xs : List Value} (h : Rd w v n xs) {S : Nat → Prop} (f : Frm S w w') (hs : ∀ k, S k → w.heap.size ≤ k) : Rd w' v n xs :=
  h.keep0 ⟨f.os, f.tape, f.output, f.size, fun k hk _ => f.block k hk fun s => by have := hs k s; omega⟩
theorem Rd.shape {w : World} {v : Value} {n : Nat} {xs : List Value} (h : Rd w v n xs) : (∃ ad, v = .slice ad 0 0 ∧ n = 0) ∨ ∃ b off c, v = .slice (some ⟨b, off, none⟩) n c ∧ (n : Int) ≤ 9223372036854775807 := by
  rcases h with ⟨ad, h1, h2, _⟩ | ⟨b, off, c, h1, h2, h3, _⟩
  · exact .inl ⟨ad, h1, h2⟩
  · exact .inr ⟨b, off, c, h1, by simp only [maxLen] at h3; omega⟩
theorem Rd.sl {w : World} {v : Value} {n : Nat} {xs : List Value} (h : Rd w v n xs) : ∃ a c, v = .slice a n c := by
  rcases h with ⟨ad, h1, h2, _⟩ | ⟨b, off, c, h1, _⟩
  · exact ⟨ad, 0, by rw [h1, h2]⟩
  · exact ⟨_, c, h1⟩
theorem Rd.cell {w : World} {b off c n : Nat} {xs : List Value} (h : Rd w (.slice (some ⟨b, off, none⟩) n c) n xs) (j : Nat) (u : Value) (hu : xs[j]? = some u) : w.cell? ⟨b, off + j, none⟩ = some u := by
  rcases h with ⟨ad, h1, h2, h3⟩ | ⟨b', off', c', h1, _, _, h4⟩
  · subst h3; simp at hu
  · injection h1 with e1 e2 e3
    injection e1 with e1
    injection e1 with e4 e5
    subst e4 e5
    exact h4 j u hu
theorem run_at {w : World} {b off c n : Nat} {l : RunL} (h : RunAt w (.slice (some ⟨b, off, none⟩) n c) l) (hn : n = l.length) (k : Nat) (hk : k < l.length) :
    w.cell? ⟨b, off + k * 2, none⟩ = some (.int .i64 (l.getD k (0, 0)).1) ∧ w.cell? ⟨b, off + k * 2 + 1, none⟩ = some (.int .i64 (l.getD k (0, 0)).2) := by
  subst hn
  exact ⟨h.cell _ _ (ruC_at l k hk).1, h.cell (k * 2 + 1) _ (ruC_at l k hk).2⟩
theorem spn_at {w : World} {b off c n : Nat} {l : CtxL} (h : CtxAt w (.slice (some ⟨b, off, none⟩) n c) l) (hn : n = l.length) (k : Nat) (hk : k < l.length) :
    w.cell? ⟨b, off + k * 3, none⟩ = some (.int .i64 (l.getD k (0, 0, 0)).1) ∧ w.cell? ⟨b, off + k * 3 + 1, none⟩ = some (.int .i64 (l.getD k (0, 0, 0)).2.1) ∧ w.cell? ⟨b, off + k * 3 + 2, none⟩ = some (.int .i64 (l.getD k (0, 0, 0)).2.2) := by
  subst hn
  obtain ⟨h1, h2, h3⟩ := spC_at l k hk
  exact ⟨h.cell _ _ h1, h.cell (k * 3 + 1) _ h2, h.cell (k * 3 + 2) _ h3⟩
theorem num_at {w : World} {b off c n : Nat} {l : List Int} (h : NumAt w (.slice (some ⟨b, off, none⟩) n c) l) (hn : n = l.length) (k : Nat) (hk : k < l.length) : w.cell? ⟨b, off + k, none⟩ = some (.int .i64 (l.getD k 0)) := by
  subst hn
  exact h.cell _ _ (by simp [inV, List.getD, hk])

theorem getD_at {α : Type} {l : List α} {k : Nat} (d : α) (h : k < l.length) : l.getD k d = l[k] := by simp [List.getD, h]
theorem getD_mem {α : Type} {l : List α} {k : Nat} (d : α) (h : k < l.length) : l.getD k d ∈ l := by rw [getD_at d h]; exact List.getElem_mem h
theorem take_succ {α : Type} {l : List α} {k : Nat} (d : α) (h : k < l.length) : l.take (k + 1) = l.take k ++ [l.getD k d] := by rw [List.take_succ_eq_append_getElem h, getD_at d h]
theorem runsFrom_prefix : ∀ {a b : RunL} {lo : Int}, RunsFrom lo (a ++ b) → RunsFrom lo a
  | [], _, _, _ => trivial
  | _ :: _, _, _, h => ⟨h.1, h.2.1, runsFrom_prefix h.2.2⟩
theorem RightR.take {l : RunL} (h : RightR l) (k : Nat) : RightR (l.take k) := by
  refine ⟨runsFrom_prefix (b := l.drop k) (by rw [List.take_append_drop]; exact h.1), fun r hr => h.2 r (List.mem_of_mem_take hr)⟩
theorem rightR_step {l : RunL} {k : Nat} (h : RightR (l.take k)) (hk : k < l.length) :
    RightR (l.take (k + 1)) ↔ 1 ≤ (l.getD k (0, 0)).1 ∧ (l.getD k (0, 0)).2 ≤ 1099511627776 ∧ (l.getD k (0, 0)).1 ≤ (l.getD k (0, 0)).2 ∧ (0 < k → (l.getD (k - 1) (0, 0)).2 + 2 ≤ (l.getD k (0, 0)).1) := by
  rw [take_succ (0, 0) hk]
  generalize l.getD k (0, 0) = r
  unfold RightR
  rw [runsFrom_snoc]
  constructor
  · rintro ⟨⟨_, h2, h3, h4⟩, h5⟩
    refine ⟨h2, h5 r (by simp), h3, fun h0 => h4 _ ?_⟩
    obtain ⟨j, rfl⟩ : ∃ j, k = j + 1 := ⟨k - 1, by omega⟩
    rw [take_succ (0, 0) (by omega)]
    simp
  · rintro ⟨h1, h2, h3, h4⟩
    refine ⟨⟨h.1, h1, h3, fun x hx => ?_⟩, fun x hx => ?_⟩
    · rcases Nat.eq_zero_or_pos k with rfl | h0
      · simp at hx
      · have h5 := h4 h0
        obtain ⟨j, rfl⟩ : ∃ j, k = j + 1 := ⟨k - 1, by omega⟩
        have h6 := h.1
        rw [take_succ (0, 0) (by omega)] at hx h6
        obtain ⟨_, _, h8, h9⟩ := runsFrom_snoc.1 h6
        rw [show j + 1 - 1 = j by omega] at h5
        rcases List.mem_append.1 hx with hx | hx
        · have := h9 x hx; omega
        · simp only [List.mem_singleton] at hx; subst hx; exact h5
    · rcases List.mem_append.1 hx with hx | hx
      · exact h.2 x hx
      · simp only [List.mem_singleton] at hx; subst hx; exact h2
theorem not_rightR {l : RunL} {k : Nat} (h : RightR (l.take k)) (hk : k < l.length)
    (hn : ¬ (1 ≤ (l.getD k (0, 0)).1 ∧ (l.getD k (0, 0)).2 ≤ 1099511627776 ∧ (l.getD k (0, 0)).1 ≤ (l.getD k (0, 0)).2 ∧ (0 < k → (l.getD (k - 1) (0, 0)).2 + 2 ≤ (l.getD k (0, 0)).1))) : ¬ RightR l :=
  fun hl => hn ((rightR_step h hk).1 (hl.take (k + 1)))
/-- The runs' ends are what an int64 may be. -/
def Fits (l : RunL) : Prop := ∀ r ∈ l, -9223372036854775808 ≤ r.1 ∧ r.1 ≤ 9223372036854775807 ∧ -9223372036854775808 ≤ r.2 ∧ r.2 ≤ 9223372036854775807
theorem RightR.fits {l : RunL} (h : RightR l) : Fits l := fun r hr => by
  have := runsFrom_ge h.1 r hr
  have := h.2 r hr
  omega
end Go.Proofs.Ytafdclkpeomomaa

/- tributaryref06: Right, Has: the walks. -/
namespace Go.Proofs.Ytafdclkpeomomaa
open Go.RowKit

end Go.Proofs.Ytafdclkpeomomaa

/- span: Right: the walk. -/
namespace Go.Proofs.Ytafdclkpeomomaa
open Go.RowKit

set_option maxHeartbeats 2000000 in
set_option maxRecDepth 1000000 in
theorem sRight_any (w : World) (v : Value) (l : RunL) (hv : RunAt w v l) (hf : Fits l) :
    Calls Try.prog 62 #[v] w fun e w' => e = .returned (.bool (tf (RightR l))) ∧ Frm NoS w w' := by
  rcases Rd.shape hv with ⟨ad, rfl, h0⟩ | ⟨b, off, c, rfl, hmax⟩
  · obtain rfl : l = [] := List.eq_nil_of_length_eq_zero h0
    rw [tf_true rightR_nil]
    clear hv hf
    go_enter Try.func62, Try.ntmps62
    go_wp2
    go_loop [7] (fun i => i = .int .i64 0) (fun _ => 0)
    case atStart => rfl
    case round =>
      obtain rfl := hrel
      go_wp2
      go_ret
      exact ⟨rfl, Frm.refl _ _⟩
  · have HH := Lib.hid hv; clear hv
    have HF := Lib.hid hf; clear hf
    generalize hn : l.length = n at *
    have HN := Lib.hid hn; clear hn
    go_enter Try.func62, Try.ntmps62
    go_wp2
    go_loopw [7] (fun i ww => ∃ k : Nat, k ≤ n ∧ i = .int .i64 k ∧ RightR (l.take k) ∧ Frm NoS w ww) (fun i _ => n - (intOf i).toNat)
    case atStart => exact ⟨0, Nat.zero_le _, rfl, rightR_nil, Frm.refl _ _⟩
    case round =>
      obtain ⟨k, hk, rfl, hr, hw⟩ := hrel
      have HR := Lib.hid hr; clear hr
      have HW := Lib.hid hw; clear hw
      by_cases hlt : k < n
      · obtain ⟨q1, q2⟩ := run_at (HH.out.keep0 HW.out) HN.out.symm k (by rw [HN.out]; exact hlt)
        have hbl := World.block_lt_of_cell? _ _ q1
        have hbl : b < wr.heap.size := hbl
        have hfit := HF.out _ (getD_mem (0, 0) (show k < l.length by rw [HN.out]; exact hlt))
        have HS := Lib.hid (rightR_step HR.out (show k < l.length by rw [HN.out]; exact hlt))
        have HX := Lib.hid (not_rightR HR.out (show k < l.length by rw [HN.out]; exact hlt))
        generalize l.getD k (0, 0) = r at *
        cases n1 : numB1 r.1 with
        | false =>
          go_wp2_with fail
          go_big_quiet ((go_at_call 57; exact Calls.quiet_of_same (number_any _ _)))
          go_wp2
          go_ret
          exact ⟨ret_bool (tf_false (HX.out (by unfold numB1 at n1; simp at n1; omega))).symm, HW.out.alloc1.drewN1⟩
        | true =>
          cases n2 : numB1 r.2 with
          | false =>
            go_wp2_with fail
            go_big_quiet ((go_at_call 57; exact Calls.quiet_of_same (number_any _ _)))
            go_wp2
            go_ret
            exact ⟨ret_bool (tf_false (HX.out (by unfold numB1 at n1 n2; simp at n1 n2; omega))).symm, HW.out.alloc1.drewN1⟩
          | true =>
            by_cases c3 : r.2 < r.1
            · go_wp2_with fail
              go_big_quiet ((go_at_call 57; exact Calls.quiet_of_same (number_any _ _)))
              go_wp2
              go_ret
              exact ⟨ret_bool (tf_false (HX.out (by omega))).symm, HW.out.alloc1.drewN1⟩
            · have d3 : decide (r.2 < r.1) = false := by simpa using c3
              rcases Nat.eq_zero_or_pos k with rfl | hk0
              · simp only [Nat.zero_mul, Nat.add_zero] at q1 q2
                go_wp2_with fail
                go_big_quiet ((go_at_call 57; exact Calls.quiet_of_same (number_any _ _)))
                go_wp2
                go_roundw
                case rel => exact ⟨0 + 1, by omega, by go_num, HS.out.2 (by unfold numB1 at n1 n2; simp at n1 n2; omega), HW.out.alloc1.drewN1⟩
                case measure => simp [intOf]; omega
              · obtain ⟨j, rfl⟩ : ∃ j, k = j + 1 := ⟨k - 1, by omega⟩
                obtain ⟨-, p2⟩ := run_at (HH.out.keep0 HW.out) HN.out.symm j (by rw [HN.out]; omega)
                have hfitp := HF.out _ (getD_mem (0, 0) (show j < l.length by rw [HN.out]; omega))
                rw [show j + 1 - 1 = j by omega] at HS HX
                have hprev : 1 ≤ (l.getD j (0, 0)).2 ∧ (l.getD j (0, 0)).2 ≤ 1099511627776 := by
                  have hm := getD_mem (0, 0) (show j < (l.take (j + 1)).length by rw [List.length_take, HN.out]; omega)
                  have he : (l.take (j + 1)).getD j (0, 0) = l.getD j (0, 0) := by simp [List.getD]
                  rw [he] at hm
                  have := runsFrom_ge HR.out.1 _ hm
                  have := HR.out.2 _ hm
                  omega
                generalize l.getD j (0, 0) = p at *
                have hd : wrap64 (j : Int) = j := by unfold wrap64; omega
                by_cases c4 : r.1 ≤ p.2 + 1
                · go_wp2_with fail
                  go_big_quiet ((go_at_call 57; exact Calls.quiet_of_same (number_any _ _)))
                  go_wp2
                  go_ret
                  exact ⟨ret_bool (tf_false (HX.out (by omega))).symm, HW.out.alloc1.drewN1⟩
                · go_wp2_with fail
                  go_big_quiet ((go_at_call 57; exact Calls.quiet_of_same (number_any _ _)))
                  go_wp2
                  go_roundw
                  case rel => exact ⟨j + 1 + 1, by omega, by go_num, HS.out.2 (by unfold numB1 at n1 n2; simp at n1 n2; omega), HW.out.alloc1.drewN1⟩
                  case measure => simp [intOf]; omega
      · obtain rfl : k = n := by omega
        have hall : RightR l := by
          have := HR.out
          rwa [List.take_of_length_le (by rw [HN.out]; exact Nat.le_refl _)] at this
        have HA := Lib.hid hall; clear hall
        go_wp2
        go_ret
        exact ⟨ret_bool (tf_true HA.out).symm, HW.out⟩
end Go.Proofs.Ytafdclkpeomomaa

/- tributaryref06: Has, next, ends: the walks; span: both. -/
namespace Go.Proofs.Ytafdclkpeomomaa
open Go.RowKit

set_option maxHeartbeats 2000000 in
set_option maxRecDepth 1000000 in
theorem both_any (w : World) (va vb : Value) (a b : RunL) (ha : RunAt w va a) (fa : Fits a) (hb : RunAt w vb b) (fb : Fits b) :
    Calls Try.prog 63 #[va, vb] w fun e w' => e = .returned (.bool (tf (RightR a ∧ RightR b))) ∧ Frm NoS w w' := by
  have HA := Lib.hid (sRight_any w va a ha fa)
  have HB := Lib.hid (fun w' h => sRight_any w' vb b (Rd.keep0 hb h) fb)
  clear ha fa hb fb
  by_cases h : RightR a
  · rw [show (RightR a ∧ RightR b) = RightR b by simp [h]]
    rw [tf_true h] at HA
    generalize tf (RightR b) = t at *
    clear h
    go_enter Try.func63, Try.ntmps63
    go_wp2_with (first | (go_at_call 62; refine (HB.out w1 hw1).mono ?_; rintro e w2 ⟨rfl, hw2⟩) | (go_at_call 62; refine HA.out.mono ?_; rintro e w1 ⟨rfl, hw1⟩))
    go_ret
    exact ⟨rfl, hw1.then1 hw2⟩
  · rw [tf_false (fun hh => h hh.1)]
    rw [tf_false h] at HA
    clear h HB
    go_enter Try.func63, Try.ntmps63
    go_wp2_with (go_at_call 62; refine HA.out.mono ?_; rintro e w1 ⟨rfl, hw1⟩)
    go_ret
    exact ⟨rfl, hw1⟩

theorem inR_take_succ {l : RunL} {k : Nat} (n : Int) (hk : k < l.length) : InR (l.take (k + 1)) n ↔ InR (l.take k) n ∨ ((l.getD k (0, 0)).1 ≤ n ∧ n ≤ (l.getD k (0, 0)).2) := by
  rw [take_succ (0, 0) hk, inR_snoc]
theorem inR_take {l : RunL} {k : Nat} {n : Int} (h : InR (l.take k) n) : InR l n := by
  obtain ⟨r, hr, h⟩ := h
  exact ⟨r, List.mem_of_mem_take hr, h⟩
/-- What next has found so far. -/
def optV (o : Option Int) : Value := .int .i64 (o.getD 0)
def optB (o : Option Int) : Value := .bool o.isSome
end Go.Proofs.Ytafdclkpeomomaa
