/-
  The law 'tributary/tributarylaw22.BundleRight' holds: for every input the call returns true, and each argument reads afterwards as it read before. No condition.
-/
import Derived.Test.YtclfajhdonabhaaBundleRightG1
import Derived.Test.YtclfajhdonabhaaBundleRightG2
import Derived.Test.YtclfajhdonabhaaBundleRightG3
import Derived.Test.YtclfajhdonabhaaBundleRightG4
import Derived.Test.YtclfajhdonabhaaBundleRightG5
import Derived.Test.YtclfajhdonabhaaBundleRightG6
import Derived.Test.YtclfajhdonabhaaBundleRightG7
import Derived.Test.YtclfajhdonabhaaBundleRightG8
import Derived.Test.YtclfajhdonabhaaBundleRightG9
import Derived.Test.YtclfajhdonabhaaBundleRightG10
import Derived.Test.YtclfajhdonabhaaBundleRightG11
import Derived.Test.YtclfajhdonabhaaBundleRightG12
import Derived.Test.YtclfajhdonabhaaBundleRightG13
import Derived.Test.YtclfajhdonabhaaBundleRightG14
import Derived.Test.YtclfajhdonabhaaBundleRightG15
import Derived.Test.YtclfajhdonabhaaBundleRightG16
import Derived.Test.YtclfajhdonabhaaBundleRightG17
import Derived.Test.YtclfajhdonabhaaBundleRightG18
import Derived.Test.YtclfajhdonabhaaBundleRightG19
import Derived.Test.YtclfajhdonabhaaBundleRightG20
import Derived.Test.YtclfajhdonabhaaBundleRightG21
import Derived.Test.YtclfajhdonabhaaBundleRightG22
import Derived.Test.YtclfajhdonabhaaBundleRightG23
import Derived.Test.YtclfajhdonabhaaBundleRightG24
import Derived.Test.YtclfajhdonabhaaRows
import Derived.ProofKit
import Derived.OpenShut
import Derived.ShutString
import Derived.ChangeOld
import Derived.Below
namespace Go.Proofs.Ytclfajhdonabhaa.bundleRightL
open Go.ChangeShapes Go.WideShapes Go.ChangeAt Go.RowKit
open Go.ChangeMaps (open_string shut_string)
set_option linter.unusedVariables false

theorem own : ownKnob Try.prog.godebug = none := by kernel_rfl
theorem laidOut : laidOutB Try.prog = true := by kernel_rfl

set_option maxRecDepth 100000 in
theorem lifted (os : Os) (started : os.Started) (H : Type) (enc : TypeId × Value → H) :
    ReturnsInHanded {} Try.checked os 3 .any (Rows.bundleRightSpec.pre6 enc Try.prog Try.f3 Rows.bundleRightRow.domain false) (Rows.bundleRightSpec.post enc Try.prog Try.f3 false true false false) := by
  refine returnsInHanded_of_change_sized (C := Try.checked) own started (by kernel_rfl) Try.func3
    (ChangeSpec.witness6 (enc := enc) (C := Try.checked) false ⟨#[], #[.agg #[.int .i64 0, .int .i64 0, .int .i64 0, .int .i64 0, .int .i64 0, .int .i64 0, .int .i64 0, .slice none 0 0, .slice none 0 0, .slice none 0 0]], []⟩ 8 (by kernel_rfl) (by kernel_rfl) (by kernel_rfl) (by kernel_rfl)) ?_
  intro W base args ds gs before hval0 hW hcnd hsz _
  have hval : ∀ (j : Nat) t v, Try.f3.params[j]? = some t → args[j]? = some v → Value.okWide Try.prog W .any base t v := hval0
  have hW' := hW
  obtain ⟨p, q, hA0, hV, rfl, hfz, hnd⟩ := hW
  have hA : DataW.TrodAll enc Try.prog W 0 (fun _ => true) true Try.f3.params.toList args.toList ds p := hA0
  rw [Try.params3] at hA hval hsz
  obtain ⟨v0, vs0, d0, ds0, p0, q0, hargs, rfl, rfl, h0, r0⟩ := trodAll_cons hA
  obtain ⟨rfl, rfl, rfl⟩ := trodAll_nil r0
  obtain rfl : args = #[v0] := by cases args; simp_all
  obtain ⟨rfl, rfl⟩ := trodVars_none hV
  have k0 := h0
  have lt0 : ∀ x ∈ p0, x.block < W.heap.size := by obtain ⟨m, hm⟩ := k0; exact DataW.trod_lt m _ _ _ hm
  have w0 := open_bundle (hval 0 33 v0 rfl rfl) h0 (sized_at hsz (j := 0) rfl rfl)
  clear hA0 hval0
  refine (bundleRight_walk W v0 w0).mono fun e W' ⟨he, hf⟩ => ?_
  subst he
  have bel := hf.below
  exact ⟨_, rfl, _, _, _, [], _, [], hW', trodAll_mk1 (shut_bool Try.underlying4 _), (trodAll_cons_mk (Below.trod laidOut (by kernel_rfl) (of_decide_eq_true (by kernel_rfl)) k0 bel lt0) trodAll_mk0), rfl, bel.frame _, fun h => by cases h⟩

theorem over : Rows.bundleRightRow.holds Try.pinned (OpenSpec.ofChange Rows.bundleRightSpec) :=
  OpenClaim.holds_of_wide 3 Try.f3 rfl rfl rfl rfl rfl rfl rfl ⟨rfl, rfl, rfl, rfl, rfl⟩ rfl rfl rfl rfl rfl (by kernel_rfl) Try.func3 (by kernel_rfl)
    (of_decide_eq_true (by kernel_rfl)) (by unfold Func.isWrapper; first | (rw [if_pos (by decide +kernel)]; kernel_rfl) | (rw [if_neg (by decide +kernel)]; exact ⟨rfl, rfl⟩))
    (fun os started H enc _ => lifted os started H enc)
end Go.Proofs.Ytclfajhdonabhaa.bundleRightL
namespace Go.Proofs.Ytclfajhdonabhaa
/-- The given statement. -/
theorem bundleRight_holds : Rows.BundleRightSaid := bundleRightL.over
#print axioms bundleRight_holds
end Go.Proofs.Ytclfajhdonabhaa
