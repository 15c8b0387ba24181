/-
  The law 'tributary/tributarylaw22.BundleOrder' holds: for every input the call returns true, and each argument reads afterwards as it read before. No condition.
-/
import Derived.Test.YtabkpccdnkjoiaaGreatBundleOrderG0
import Derived.Test.YtabkpccdnkjoiaaGreatBundleOrderG1
import Derived.Test.YtabkpccdnkjoiaaGreatBundleOrderG2
import Derived.Test.YtabkpccdnkjoiaaGreatBundleOrderG3
import Derived.Test.YtabkpccdnkjoiaaGreatBundleOrderG4
import Derived.Test.YtabkpccdnkjoiaaGreatBundleOrderG5
import Derived.Test.YtabkpccdnkjoiaaGreatBundleOrderG6
import Derived.Test.YtabkpccdnkjoiaaGreatBundleOrderG7
import Derived.Test.YtabkpccdnkjoiaaGreatBundleOrderG8
import Derived.Test.YtabkpccdnkjoiaaGreatBundleOrderG9
import Derived.Test.YtabkpccdnkjoiaaGreatBundleOrderG10
import Derived.Test.YtabkpccdnkjoiaaGreatBundleOrderG11
import Derived.Test.YtabkpccdnkjoiaaGreatBundleOrderG12
import Derived.Test.YtabkpccdnkjoiaaGreatBundleOrderG13
import Derived.Test.YtabkpccdnkjoiaaGreatBundleOrderG14
import Derived.Test.YtabkpccdnkjoiaaGreatBundleOrderG15
import Derived.Test.YtabkpccdnkjoiaaGreatBundleOrderG16
import Derived.Test.YtabkpccdnkjoiaaGreatBundleOrderG17
import Derived.Test.YtabkpccdnkjoiaaGreatBundleOrderG18
import Derived.Test.YtabkpccdnkjoiaaGreatBundleOrderG19
import Derived.Test.YtabkpccdnkjoiaaGreatBundleOrderG20
import Derived.Test.YtabkpccdnkjoiaaGreatBundleOrderG21
import Derived.Test.YtabkpccdnkjoiaaGreatRows
import Derived.ProofKit
import Derived.OpenShut
import Derived.ShutString
import Derived.ChangeOld
import Derived.Below
namespace Go.Proofs.YtabkpccdnkjoiaaGreat.JG
open Go.ChangeShapes Go.WideShapes Go.ChangeAt Go.RowKit
open Go.ChangeMaps (open_string shut_string)
set_option linter.unusedVariables false

theorem own : ownKnob Tryz.prog.godebug = none := by kernel_rfl
theorem laidOut : laidOutB Tryz.prog = true := by kernel_rfl

set_option maxRecDepth 100000 in
theorem lifted (os : Os) (started : os.Started) (H : Type) (enc : TypeId × Value → H) :
    ReturnsInHanded {} Tryz.checked os 5 .any (Rows.bundleOrderSpec.pre6 enc Tryz.prog Tryz.f5 Rows.bundleOrderRow.domain false) (Rows.bundleOrderSpec.post enc Tryz.prog Tryz.f5 false true false false) := by
  refine returnsInHanded_of_change_sized (C := Tryz.checked) own started (by kernel_rfl) Tryz.func5
    (ChangeSpec.witness6 (enc := enc) (C := Tryz.checked) false ⟨#[], #[.agg #[.int .i64 0, .int .i64 0, .int .i64 0, .int .i64 0, .int .i64 0, .int .i64 0, .int .i64 0, .slice none 0 0, .slice none 0 0, .slice none 0 0], .agg #[.int .i64 0, .int .i64 0, .int .i64 0, .int .i64 0, .int .i64 0, .int .i64 0, .int .i64 0, .slice none 0 0, .slice none 0 0, .slice none 0 0], .agg #[.int .i64 0, .int .i64 0, .int .i64 0, .int .i64 0]], []⟩ 8 (by kernel_rfl) (by kernel_rfl) (by kernel_rfl) (by kernel_rfl)) ?_
  intro W base args ds gs before hval0 hW hcnd hsz _
  have hval : ∀ (j : Nat) t v, Tryz.f5.params[j]? = some t → args[j]? = some v → Value.okWide Tryz.prog W .any base t v := hval0
  have hW' := hW
  obtain ⟨p, q, hA0, hV, rfl, hfz, hnd⟩ := hW
  have hA : DataW.TrodAll enc Tryz.prog W 0 (fun _ => true) true Tryz.f5.params.toList args.toList ds p := hA0
  rw [Tryz.params5] at hA hval hsz
  obtain ⟨v0, oV, d0, ds0, p0, q0, hargs, rfl, rfl, h0, r0⟩ := trodAll_cons hA
  obtain ⟨v1, vs1, d1, ds1, p1, q1, rfl, rfl, rfl, h1, r1⟩ := trodAll_cons r0
  obtain ⟨v2, vs2, d2, ds2, p2, q2, rfl, rfl, rfl, h2, r2⟩ := trodAll_cons r1
  obtain ⟨rfl, rfl, rfl⟩ := trodAll_nil r2
  obtain rfl : args = #[v0, v1, v2] := by cases args; simp_all
  obtain ⟨rfl, rfl⟩ := trodVars_none hV
  have k0 := h0
  have RJ : ∀ x ∈ p0, x.block < W.heap.size := by obtain ⟨m, hm⟩ := k0; exact DataW.trod_lt m _ _ _ hm
  have w0 := Jr (hval 0 55 v0 rfl rfl) h0 (Jp hsz (j := 0) rfl rfl)
  have k1 := h1
  have RN : ∀ x ∈ p1, x.block < W.heap.size := by obtain ⟨m, hm⟩ := k1; exact DataW.trod_lt m _ _ _ hm
  have w1 := Jr (hval 1 55 v1 rfl rfl) h1 (Jp hsz (j := 1) rfl rfl)
  have k2 := h2
  have RQ : ∀ x ∈ p2, x.block < W.heap.size := by obtain ⟨m, hm⟩ := k2; exact DataW.trod_lt m _ _ _ hm
  have w2 := RF (hval 2 25 v2 rfl rfl) h2
  clear hA0 hval0
  refine (RI W v0 w0 v1 w1 v2 w2).mono fun e W' ⟨he, hf⟩ => ?_
  subst he
  have bel := hf.below
  exact ⟨_, rfl, _, _, _, [], _, [], hW', trodAll_mk1 (shut_bool Tryz.underlying4 _), (trodAll_cons_mk (Below.trod laidOut (by kernel_rfl) (of_decide_eq_true (by kernel_rfl)) k0 bel RJ) (trodAll_cons_mk (Below.trod laidOut (by kernel_rfl) (of_decide_eq_true (by kernel_rfl)) k1 bel RN) (trodAll_cons_mk (Below.trod laidOut (by kernel_rfl) (of_decide_eq_true (by kernel_rfl)) k2 bel RQ) trodAll_mk0))), rfl, bel.frame _, fun h => by cases h⟩

/-- The facts on the program, by themselves (the kernel's memory). -/
theorem closed : joinedFacts Tryz.prog 5 Tryz.f5 Rows.bundleOrderSpec Rows.bundleOrderRow = true := by kernel_rfl
theorem over : Rows.bundleOrderRow.holds Tryz.pinned (OpenSpec.ofChange Rows.bundleOrderSpec) :=
  OpenClaim.holds_of_wide 5 Tryz.f5 rfl rfl rfl rfl rfl rfl rfl ⟨rfl, rfl, rfl, rfl, rfl⟩ rfl rfl rfl rfl rfl (by kernel_rfl) Tryz.func5 closed
    (of_decide_eq_true (by kernel_rfl)) (by unfold Func.isWrapper; first | (rw [if_pos (by decide +kernel)]; kernel_rfl) | (rw [if_neg (by decide +kernel)]; exact ⟨rfl, rfl⟩))
    (fun os started H enc _ => lifted os started H enc)
end Go.Proofs.YtabkpccdnkjoiaaGreat.JG
namespace Go.Proofs.YtabkpccdnkjoiaaGreat
/-- The given statement. -/
theorem bundleOrder_holds : Rows.BundleOrderSaid := JG.over
#print axioms bundleOrder_holds
end Go.Proofs.YtabkpccdnkjoiaaGreat
