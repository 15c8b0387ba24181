/- Words for the law BundleReady: VecOpen. -/
import Derived.Test.YtclfajhdonabhaaGreatBundleReadyG24
set_option linter.unusedSimpArgs false
set_option linter.unusedVariables false
/- What came in: a vector. -/
namespace Go.Proofs.YtclfajhdonabhaaGreat
open Go.RowKit Go.WideShapes Go.ChangeShapes

set_option maxRecDepth 100000 in
theorem open_vec {H : Type} {enc : TypeId × Value → H} {w : World} {base : Nat} {v : Value} {d : DataW H} {ps : List MemPlace} (hv : Value.okWide Tryz.prog w .any base 23 v) (h : DataW.Trod enc Tryz.prog w 0 (fun _ => true) true 23 v d ps) : VecIn v := by
  unfold Value.okWide at hv
  rw [Tryz.underlying23] at hv
  obtain ⟨cs, rfl, hsz, _⟩ := hv
  rw [Tryz.cells_vector] at hsz
  obtain ⟨l⟩ := cs
  match l, hsz with
  | [c0, c1, c2, c3], _ =>
  obtain ⟨fuel, hf⟩ := h
  have hf : DataW.trod enc Tryz.prog w 0 (fun _ => true) true fuel 23 [c0, c1, c2, c3] = some (d, ps) := hf
  obtain ⟨v0, v1, v2, v3, rfl, rfl, rfl, rfl, _⟩ := open_vec_cells hf
  exact ⟨v0, v1, v2, v3, rfl⟩
end Go.Proofs.YtclfajhdonabhaaGreat
