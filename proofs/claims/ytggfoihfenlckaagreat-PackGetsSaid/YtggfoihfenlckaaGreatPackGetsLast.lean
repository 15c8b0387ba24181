/-
  The law 'tributary/tributarylaw16.PackGets' holds: for every input the call returns true, and each argument reads afterwards as it read before. No condition.
-/
import Derived.Test.YtggfoihfenlckaaGreatPackGetsG1
import Derived.Test.YtggfoihfenlckaaGreatPackGetsG2
import Derived.Test.YtggfoihfenlckaaGreatPackGetsG3
import Derived.Test.YtggfoihfenlckaaGreatPackGetsG4
import Derived.Test.YtggfoihfenlckaaGreatPackGetsG5
import Derived.Test.YtggfoihfenlckaaGreatPackGetsG6
import Derived.Test.YtggfoihfenlckaaGreatPackGetsG7
import Derived.Test.YtggfoihfenlckaaGreatPackGetsG8
import Derived.Test.YtggfoihfenlckaaGreatPackGetsG9
import Derived.Test.YtggfoihfenlckaaGreatPackGetsG10
import Derived.Test.YtggfoihfenlckaaGreatPackGetsG11
import Derived.Test.YtggfoihfenlckaaGreatPackGetsG12
import Derived.Test.YtggfoihfenlckaaGreatPackGetsG13
import Derived.Test.YtggfoihfenlckaaGreatPackGetsG14
import Derived.Test.YtggfoihfenlckaaGreatPackGetsG15
import Derived.Test.YtggfoihfenlckaaGreatPackGetsG16
import Derived.Test.YtggfoihfenlckaaGreatPackGetsG17
import Derived.Test.YtggfoihfenlckaaGreatPackGetsG18
import Derived.Test.YtggfoihfenlckaaGreatPackGetsG19
import Derived.Test.YtggfoihfenlckaaGreatPackGetsG20
import Derived.Test.YtggfoihfenlckaaGreatPackGetsG21
import Derived.Test.YtggfoihfenlckaaGreatPackGetsG22
import Derived.Test.YtggfoihfenlckaaGreatPackGetsG23
import Derived.Test.YtggfoihfenlckaaGreatPackGetsG24
import Derived.Test.YtggfoihfenlckaaGreatPackGetsG25
import Derived.Test.YtggfoihfenlckaaGreatPackGetsG26
import Derived.Test.YtggfoihfenlckaaGreatPackGetsG27
import Derived.Test.YtggfoihfenlckaaGreatRows
import Derived.ProofKit
import Derived.OpenShut
import Derived.ShutString
import Derived.ChangeOld
import Derived.Below
namespace Go.Proofs.YtggfoihfenlckaaGreat.packGetsL
open Go.ChangeShapes Go.WideShapes Go.ChangeAt Go.RowKit
open Go.ChangeMaps (open_string shut_string)
set_option linter.unusedVariables false

theorem own : ownKnob Tryz.prog.godebug = none := by kernel_rfl
theorem laidOut : laidOutB Tryz.prog = true := by kernel_rfl

set_option maxRecDepth 100000 in
theorem lifted (os : Os) (started : os.Started) (H : Type) (enc : TypeId × Value → H) :
    ReturnsInHanded {} Tryz.checked os 4 .any (Rows.packGetsSpec.pre6 enc Tryz.prog Tryz.f4 Rows.packGetsRow.domain false) (Rows.packGetsSpec.post enc Tryz.prog Tryz.f4 false true false false) := by
  refine returnsInHanded_of_change (C := Tryz.checked) own started (by kernel_rfl) Tryz.func4
    (ChangeSpec.witness6 (enc := enc) (C := Tryz.checked) false ⟨#[], #[.slice none 0 0, .slice none 0 0], []⟩ 8 (by kernel_rfl) (by kernel_rfl) (by kernel_rfl) (by kernel_rfl)) ?_
  intro W base args ds gs before hval0 hW hcnd _
  have hval : ∀ (j : Nat) t v, Tryz.f4.params[j]? = some t → args[j]? = some v → Value.okWide Tryz.prog W .any base t v := hval0
  have hW' := hW
  obtain ⟨p, q, hA0, hV, rfl, hfz, hnd⟩ := hW
  have hA : DataW.TrodAll enc Tryz.prog W 0 (fun _ => true) true Tryz.f4.params.toList args.toList ds p := hA0
  rw [Tryz.params4] at hA hval
  obtain ⟨v0, vs0, d0, ds0, p0, q0, hargs, rfl, rfl, h0, r0⟩ := trodAll_cons hA
  obtain ⟨v1, vs1, d1, ds1, p1, q1, rfl, rfl, rfl, h1, r1⟩ := trodAll_cons r0
  obtain ⟨rfl, rfl, rfl⟩ := trodAll_nil r1
  obtain rfl : args = #[v0, v1] := by cases args; simp_all
  obtain ⟨rfl, rfl⟩ := trodVars_none hV
  have k0 := h0
  have lt0 : ∀ x ∈ p0, x.block < W.heap.size := by obtain ⟨m, hm⟩ := k0; exact DataW.trod_lt m _ _ _ hm
  have w0 := open_bytes (hval 0 25 v0 rfl rfl) h0
  have k1 := h1
  have lt1 : ∀ x ∈ p1, x.block < W.heap.size := by obtain ⟨m, hm⟩ := k1; exact DataW.trod_lt m _ _ _ hm
  have w1 := open_bytes (hval 1 25 v1 rfl rfl) h1
  clear hA0 hval0
  refine (packGets_walk W v0 w0 v1 w1).mono fun e W' ⟨he, hf⟩ => ?_
  subst he
  have bel := hf.below
  exact ⟨_, rfl, _, _, _, [], _, [], hW', trodAll_mk1 (shut_bool Tryz.underlying4 _), (trodAll_cons_mk (Below.trod laidOut (by kernel_rfl) (of_decide_eq_true (by kernel_rfl)) k0 bel lt0) (trodAll_cons_mk (Below.trod laidOut (by kernel_rfl) (of_decide_eq_true (by kernel_rfl)) k1 bel lt1) trodAll_mk0)), rfl, bel.frame _, fun h => by cases h⟩

theorem over : Rows.packGetsRow.holds Tryz.pinned (OpenSpec.ofChange Rows.packGetsSpec) :=
  OpenClaim.holds_of_wide 4 Tryz.f4 rfl rfl rfl rfl rfl rfl rfl ⟨rfl, rfl, rfl, rfl, rfl⟩ rfl rfl rfl rfl rfl (by kernel_rfl) Tryz.func4 (by kernel_rfl)
    (of_decide_eq_true (by kernel_rfl)) (by unfold Func.isWrapper; first | (rw [if_pos (by decide +kernel)]; kernel_rfl) | (rw [if_neg (by decide +kernel)]; exact ⟨rfl, rfl⟩))
    (fun os started H enc _ => lifted os started H enc)
end Go.Proofs.YtggfoihfenlckaaGreat.packGetsL
namespace Go.Proofs.YtggfoihfenlckaaGreat
/-- The given statement. -/
theorem packGets_holds : Rows.PackGetsSaid := packGetsL.over
#print axioms packGets_holds
end Go.Proofs.YtggfoihfenlckaaGreat
