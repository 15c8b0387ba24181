/- Words for the law BundleGets: Leaf. -/
import Derived.Test.YtafdclkpeomomaaGreatBundleGetsG12
import Derived.Test.YtafdclkpeomomaaGreatBundleGetsG15
set_option linter.unusedSimpArgs false
set_option linter.unusedVariables false
/- Leaves: how a slice of them lies; the dots of them. -/
namespace Go.Proofs.YtafdclkpeomomaaGreat
open Go.RowKit

/-- A leaf: where its path lies, and its entry. -/
abbrev LeafL := List (Value × Ent)
def lfC (l : LeafL) : List Value := l.flatMap fun x => x.1 :: x.2.cells
def lfE (p : Value) (es : List Ent) : LeafL := es.map fun e => (p, e)
def dotsL (l : LeafL) : RunL := l.map fun x => (x.2.dc, x.2.n)
def OneL (l : LeafL) : Prop := ∀ x ∈ l, x.1.oneCell' = true
theorem lfC_append (a b : LeafL) : lfC (a ++ b) = lfC a ++ lfC b := by simp [lfC]
theorem lfC_cons (x : Value × Ent) (l : LeafL) : lfC (x :: l) = x.1 :: .int .i64 x.2.dc :: .int .i64 x.2.n :: .string x.2.s :: .int .i64 x.2.k :: lfC l := rfl
theorem lfC_length : ∀ l : LeafL, (lfC l).length = l.length * 5
  | [] => rfl
  | x :: l => by rw [lfC_cons]; simp only [List.length_cons, lfC_length l]; omega
theorem lfC_oneCell {l : LeafL} (h : OneL l) : ∀ v ∈ lfC l, v.oneCell' = true := by
  intro v hv
  simp only [lfC, List.mem_flatMap] at hv
  obtain ⟨x, hx, hv⟩ := hv
  rcases List.mem_cons.1 hv with rfl | hv
  · exact h x hx
  · simp [Ent.cells] at hv
    rcases hv with rfl | rfl | rfl | rfl <;> rfl
theorem lfC_at : ∀ (l : LeafL) (k : Nat), k < l.length → (lfC l)[k * 5 + 1]? = some (.int .i64 (l.getD k (.bool true, Ent.zero)).2.dc) ∧ (lfC l)[k * 5 + 2]? = some (.int .i64 (l.getD k (.bool true, Ent.zero)).2.n)
  | [], _, h => by cases h
  | x :: l, 0, _ => ⟨rfl, rfl⟩
  | x :: l, k + 1, h => by
    obtain ⟨h1, h2⟩ := lfC_at l k (by simpa using h)
    rw [lfC_cons, show (k + 1) * 5 + 1 = (k * 5 + 1) + 1 + 1 + 1 + 1 + 1 by omega, show (k + 1) * 5 + 2 = (k * 5 + 2) + 1 + 1 + 1 + 1 + 1 by omega]
    exact ⟨h1, h2⟩
theorem lf_at {w : World} {b off c n : Nat} {l : LeafL} (h : Rd w (.slice (some ⟨b, off, none⟩) n c) n (lfC l)) (k : Nat) (hk : k < l.length) :
    w.cell? ⟨b, off + k * 5 + 1, none⟩ = some (.int .i64 (l.getD k (.bool true, Ent.zero)).2.dc) ∧ w.cell? ⟨b, off + k * 5 + 2, none⟩ = some (.int .i64 (l.getD k (.bool true, Ent.zero)).2.n) := by
  obtain ⟨h1, h2⟩ := lfC_at l k hk
  exact ⟨h.cell (k * 5 + 1) _ h1, h.cell (k * 5 + 2) _ h2⟩
theorem dotsL_take_succ {l : LeafL} {k : Nat} (hk : k < l.length) : dotsL (l.take (k + 1)) = dotsL (l.take k) ++ [((l.getD k (.bool true, Ent.zero)).2.dc, (l.getD k (.bool true, Ent.zero)).2.n)] := by
  rw [take_succ (.bool true, Ent.zero) hk]; simp [dotsL]
theorem dotsL_append (a b : LeafL) : dotsL (a ++ b) = dotsL a ++ dotsL b := by simp [dotsL]
theorem dotsL_length (l : LeafL) : (dotsL l).length = l.length := by simp [dotsL]
theorem dotsL_lfE (p : Value) (es : List Ent) : dotsL (lfE p es) = dotsE es := by simp [dotsL, lfE, dotsE]
theorem lfE_length (p : Value) (es : List Ent) : (lfE p es).length = es.length := by simp [lfE]
theorem OneL.lfE {p : Value} (h : p.oneCell' = true) (es : List Ent) : OneL (lfE p es) := fun x hx => by
  obtain ⟨e, _, rfl⟩ := List.mem_map.1 hx
  exact h
theorem OneL.append {a b : LeafL} (ha : OneL a) (hb : OneL b) : OneL (a ++ b) := fun x hx => (List.mem_append.1 hx).elim (ha x) (hb x)
theorem lfE_take_succ {p : Value} {es : List Ent} {k : Nat} (hk : k < es.length) : lfC (lfE p (es.take (k + 1))) = lfC (lfE p (es.take k)) ++ [p, .int .i64 (es.getD k Ent.zero).dc, .int .i64 (es.getD k Ent.zero).n, .string (es.getD k Ent.zero).s, .int .i64 (es.getD k Ent.zero).k] := by
  rw [take_succ Ent.zero hk, show lfE p (es.take k ++ [es.getD k Ent.zero]) = lfE p (es.take k) ++ [(p, es.getD k Ent.zero)] by simp [lfE], lfC_append]
  rfl
/-- The texts of a path. -/
def stV (l : List ByteArray) : List Value := l.map .string
theorem stV_append (a b : List ByteArray) : stV (a ++ b) = stV a ++ stV b := by simp [stV]
@[simp] theorem stV_length (l : List ByteArray) : (stV l).length = l.length := by simp [stV]
theorem stV_oneCell (l : List ByteArray) : ∀ v ∈ stV l, v.oneCell' = true := by
  intro v hv
  simp only [stV, List.mem_map] at hv
  obtain ⟨r, _, rfl⟩ := hv
  rfl
theorem info_leaf : (Tryz.prog.info? 155).map (fun i => (i.zero, i.size, i.bytes)) = some (some (.agg #[.slice none 0 0, .int .i64 0, .int .i64 0, .string ByteArray.empty, .int .i64 0]), 5, 64) := by kernel_rfl
theorem info_string : (Tryz.prog.info? 9).map (fun i => (i.zero, i.size, i.bytes)) = some (some (.string ByteArray.empty), 1, 16) := by kernel_rfl
end Go.Proofs.YtafdclkpeomomaaGreat
