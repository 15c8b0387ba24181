/-
  The law 'tributary/tributarylaw22.BundleReady' holds: for every input the call returns true, and each argument reads afterwards as it read before. No condition.
-/
import Derived.Test.YtclfajhdonabhaaGreatBundleReadyG1
import Derived.Test.YtclfajhdonabhaaGreatBundleReadyG2
import Derived.Test.YtclfajhdonabhaaGreatBundleReadyG3
import Derived.Test.YtclfajhdonabhaaGreatBundleReadyG4
import Derived.Test.YtclfajhdonabhaaGreatBundleReadyG5
import Derived.Test.YtclfajhdonabhaaGreatBundleReadyG6
import Derived.Test.YtclfajhdonabhaaGreatBundleReadyG7
import Derived.Test.YtclfajhdonabhaaGreatBundleReadyG8
import Derived.Test.YtclfajhdonabhaaGreatBundleReadyG9
import Derived.Test.YtclfajhdonabhaaGreatBundleReadyG10
import Derived.Test.YtclfajhdonabhaaGreatBundleReadyG11
import Derived.Test.YtclfajhdonabhaaGreatBundleReadyG12
import Derived.Test.YtclfajhdonabhaaGreatBundleReadyG13
import Derived.Test.YtclfajhdonabhaaGreatBundleReadyG14
import Derived.Test.YtclfajhdonabhaaGreatBundleReadyG15
import Derived.Test.YtclfajhdonabhaaGreatBundleReadyG16
import Derived.Test.YtclfajhdonabhaaGreatBundleReadyG17
import Derived.Test.YtclfajhdonabhaaGreatBundleReadyG18
import Derived.Test.YtclfajhdonabhaaGreatBundleReadyG19
import Derived.Test.YtclfajhdonabhaaGreatBundleReadyG20
import Derived.Test.YtclfajhdonabhaaGreatBundleReadyG21
import Derived.Test.YtclfajhdonabhaaGreatBundleReadyG22
import Derived.Test.YtclfajhdonabhaaGreatBundleReadyG23
import Derived.Test.YtclfajhdonabhaaGreatBundleReadyG24
import Derived.Test.YtclfajhdonabhaaGreatBundleReadyG25
import Derived.Test.YtclfajhdonabhaaGreatRows
import Derived.ProofKit
import Derived.OpenShut
import Derived.ShutString
import Derived.ChangeOld
import Derived.Below
namespace Go.Proofs.YtclfajhdonabhaaGreat.bundleReadyL
open Go.ChangeShapes Go.WideShapes Go.ChangeAt Go.RowKit
open Go.ChangeMaps (open_string shut_string)
set_option linter.unusedVariables false

theorem own : ownKnob Tryz.prog.godebug = none := by kernel_rfl
theorem laidOut : laidOutB Tryz.prog = true := by kernel_rfl

set_option maxRecDepth 100000 in
theorem lifted (os : Os) (started : os.Started) (H : Type) (enc : TypeId × Value → H) :
    ReturnsInHanded {} Tryz.checked os 3 .any (Rows.bundleReadySpec.pre6 enc Tryz.prog Tryz.f3 Rows.bundleReadyRow.domain false) (Rows.bundleReadySpec.post enc Tryz.prog Tryz.f3 false true false false) := by
  refine returnsInHanded_of_change_sized (C := Tryz.checked) own started (by kernel_rfl) Tryz.func3
    (ChangeSpec.witness6 (enc := enc) (C := Tryz.checked) false ⟨#[], #[.agg #[.int .i64 0, .int .i64 0, .int .i64 0, .int .i64 0, .int .i64 0, .int .i64 0, .int .i64 0, .slice none 0 0, .slice none 0 0, .slice none 0 0], .agg #[.int .i64 0, .int .i64 0, .int .i64 0, .int .i64 0]], []⟩ 8 (by kernel_rfl) (by kernel_rfl) (by kernel_rfl) (by kernel_rfl)) ?_
  intro W base args ds gs before hval0 hW hcnd hsz _
  have hval : ∀ (j : Nat) t v, Tryz.f3.params[j]? = some t → args[j]? = some v → Value.okWide Tryz.prog W .any base t v := hval0
  have hW' := hW
  obtain ⟨p, q, hA0, hV, rfl, hfz, hnd⟩ := hW
  have hA : DataW.TrodAll enc Tryz.prog W 0 (fun _ => true) true Tryz.f3.params.toList args.toList ds p := hA0
  rw [Tryz.params3] at hA hval hsz
  obtain ⟨v0, vs0, d0, ds0, p0, q0, hargs, rfl, rfl, h0, r0⟩ := trodAll_cons hA
  obtain ⟨v1, vs1, d1, ds1, p1, q1, rfl, rfl, rfl, h1, r1⟩ := trodAll_cons r0
  obtain ⟨rfl, rfl, rfl⟩ := trodAll_nil r1
  obtain rfl : args = #[v0, v1] := by cases args; simp_all
  obtain ⟨rfl, rfl⟩ := trodVars_none hV
  have k0 := h0
  have lt0 : ∀ x ∈ p0, x.block < W.heap.size := by obtain ⟨m, hm⟩ := k0; exact DataW.trod_lt m _ _ _ hm
  have w0 := open_bundle (hval 0 33 v0 rfl rfl) h0 (sized_at hsz (j := 0) rfl rfl)
  have k1 := h1
  have lt1 : ∀ x ∈ p1, x.block < W.heap.size := by obtain ⟨m, hm⟩ := k1; exact DataW.trod_lt m _ _ _ hm
  have w1 := open_vec (hval 1 23 v1 rfl rfl) h1
  clear hA0 hval0
  refine (bundleReady_walk W v0 w0 v1 w1).mono fun e W' ⟨he, hf⟩ => ?_
  subst he
  have bel := hf.below
  exact ⟨_, rfl, _, _, _, [], _, [], hW', trodAll_mk1 (shut_bool Tryz.underlying4 _), (trodAll_cons_mk (Below.trod laidOut (by kernel_rfl) (of_decide_eq_true (by kernel_rfl)) k0 bel lt0) (trodAll_cons_mk (Below.trod laidOut (by kernel_rfl) (of_decide_eq_true (by kernel_rfl)) k1 bel lt1) trodAll_mk0)), rfl, bel.frame _, fun h => by cases h⟩

theorem over : Rows.bundleReadyRow.holds Tryz.pinned (OpenSpec.ofChange Rows.bundleReadySpec) :=
  OpenClaim.holds_of_wide 3 Tryz.f3 rfl rfl rfl rfl rfl rfl rfl ⟨rfl, rfl, rfl, rfl, rfl⟩ rfl rfl rfl rfl rfl (by kernel_rfl) Tryz.func3 (by kernel_rfl)
    (of_decide_eq_true (by kernel_rfl)) (by unfold Func.isWrapper; first | (rw [if_pos (by decide +kernel)]; kernel_rfl) | (rw [if_neg (by decide +kernel)]; exact ⟨rfl, rfl⟩))
    (fun os started H enc _ => lifted os started H enc)
end Go.Proofs.YtclfajhdonabhaaGreat.bundleReadyL
namespace Go.Proofs.YtclfajhdonabhaaGreat
/-- The given statement. -/
theorem bundleReady_holds : Rows.BundleReadySaid := bundleReadyL.over
#print axioms bundleReady_holds
end Go.Proofs.YtclfajhdonabhaaGreat
