/-
  The law 'tributary/tributarylaw16.PackBack' holds: for every input the call returns true, and each argument reads afterwards as it read before. No condition.
-/
import Derived.Test.YtggfoihfenlckaaGreatPackBackG1
import Derived.Test.YtggfoihfenlckaaGreatPackBackG2
import Derived.Test.YtggfoihfenlckaaGreatPackBackG3
import Derived.Test.YtggfoihfenlckaaGreatPackBackG4
import Derived.Test.YtggfoihfenlckaaGreatPackBackG5
import Derived.Test.YtggfoihfenlckaaGreatPackBackG6
import Derived.Test.YtggfoihfenlckaaGreatPackBackG7
import Derived.Test.YtggfoihfenlckaaGreatPackBackG8
import Derived.Test.YtggfoihfenlckaaGreatPackBackG9
import Derived.Test.YtggfoihfenlckaaGreatPackBackG10
import Derived.Test.YtggfoihfenlckaaGreatPackBackG11
import Derived.Test.YtggfoihfenlckaaGreatPackBackG12
import Derived.Test.YtggfoihfenlckaaGreatPackBackG13
import Derived.Test.YtggfoihfenlckaaGreatPackBackG14
import Derived.Test.YtggfoihfenlckaaGreatPackBackG15
import Derived.Test.YtggfoihfenlckaaGreatPackBackG16
import Derived.Test.YtggfoihfenlckaaGreatPackBackG17
import Derived.Test.YtggfoihfenlckaaGreatPackBackG18
import Derived.Test.YtggfoihfenlckaaGreatPackBackG19
import Derived.Test.YtggfoihfenlckaaGreatPackBackG20
import Derived.Test.YtggfoihfenlckaaGreatPackBackG21
import Derived.Test.YtggfoihfenlckaaGreatPackBackG22
import Derived.Test.YtggfoihfenlckaaGreatPackBackG23
import Derived.Test.YtggfoihfenlckaaGreatPackBackG24
import Derived.Test.YtggfoihfenlckaaGreatPackBackG25
import Derived.Test.YtggfoihfenlckaaGreatRows
import Derived.ProofKit
import Derived.OpenShut
import Derived.ShutString
import Derived.ChangeOld
import Derived.Below
namespace Go.Proofs.YtggfoihfenlckaaGreat.packBackL
open Go.ChangeShapes Go.WideShapes Go.ChangeAt Go.RowKit
open Go.ChangeMaps (open_string shut_string)
set_option linter.unusedVariables false

theorem own : ownKnob Tryz.prog.godebug = none := by kernel_rfl
theorem laidOut : laidOutB Tryz.prog = true := by kernel_rfl

set_option maxRecDepth 100000 in
theorem lifted (os : Os) (started : os.Started) (H : Type) (enc : TypeId × Value → H) :
    ReturnsInHanded {} Tryz.checked os 5 .any (Rows.packBackSpec.pre6 enc Tryz.prog Tryz.f5 Rows.packBackRow.domain false) (Rows.packBackSpec.post enc Tryz.prog Tryz.f5 false true false false) := by
  refine returnsInHanded_of_change_sized (C := Tryz.checked) own started (by kernel_rfl) Tryz.func5
    (ChangeSpec.witness6 (enc := enc) (C := Tryz.checked) false ⟨#[], #[.slice none 0 0], []⟩ 8 (by kernel_rfl) (by kernel_rfl) (by kernel_rfl) (by kernel_rfl)) ?_
  intro W base args ds gs before hval0 hW hcnd hsz _
  have hval : ∀ (j : Nat) t v, Tryz.f5.params[j]? = some t → args[j]? = some v → Value.okWide Tryz.prog W .any base t v := hval0
  have hW' := hW
  obtain ⟨p, q, hA0, hV, rfl, hfz, hnd⟩ := hW
  have hA : DataW.TrodAll enc Tryz.prog W 0 (fun _ => true) true Tryz.f5.params.toList args.toList ds p := hA0
  rw [Tryz.params5] at hA hval hsz
  obtain ⟨v0, vs0, d0, ds0, p0, q0, hargs, rfl, rfl, h0, r0⟩ := trodAll_cons hA
  obtain ⟨rfl, rfl, rfl⟩ := trodAll_nil r0
  obtain rfl : args = #[v0] := by cases args; simp_all
  obtain ⟨rfl, rfl⟩ := trodVars_none hV
  have k0 := h0
  have lt0 : ∀ x ∈ p0, x.block < W.heap.size := by obtain ⟨m, hm⟩ := k0; exact DataW.trod_lt m _ _ _ hm
  have w0 := open_things (hval 0 22 v0 rfl rfl) h0 (sized_at hsz (j := 0) rfl rfl)
  clear hA0 hval0
  refine (packBack_walk W v0 w0).mono fun e W' ⟨he, hf⟩ => ?_
  subst he
  have bel := hf.below
  exact ⟨_, rfl, _, _, _, [], _, [], hW', trodAll_mk1 (shut_bool Tryz.underlying4 _), (trodAll_cons_mk (Below.trod laidOut (by kernel_rfl) (of_decide_eq_true (by kernel_rfl)) k0 bel lt0) trodAll_mk0), rfl, bel.frame _, fun h => by cases h⟩

theorem over : Rows.packBackRow.holds Tryz.pinned (OpenSpec.ofChange Rows.packBackSpec) :=
  OpenClaim.holds_of_wide 5 Tryz.f5 rfl rfl rfl rfl rfl rfl rfl ⟨rfl, rfl, rfl, rfl, rfl⟩ rfl rfl rfl rfl rfl (by kernel_rfl) Tryz.func5 (by kernel_rfl)
    (of_decide_eq_true (by kernel_rfl)) (by unfold Func.isWrapper; first | (rw [if_pos (by decide +kernel)]; kernel_rfl) | (rw [if_neg (by decide +kernel)]; exact ⟨rfl, rfl⟩))
    (fun os started H enc _ => lifted os started H enc)
end Go.Proofs.YtggfoihfenlckaaGreat.packBackL
namespace Go.Proofs.YtggfoihfenlckaaGreat
/-- The given statement. -/
theorem packBack_holds : Rows.PackBackSaid := packBackL.over
#print axioms packBack_holds
end Go.Proofs.YtggfoihfenlckaaGreat
