/-
  The law 'tributary/tributarylaw25.MsgDecodes' holds: for every input the call returns true, and each argument reads afterwards as it read before. No condition.
-/
import Derived.Test.YtabkpccdnkjoiaaGreatMsgDecodesG0
import Derived.Test.YtabkpccdnkjoiaaGreatMsgDecodesG1
import Derived.Test.YtabkpccdnkjoiaaGreatMsgDecodesG2
import Derived.Test.YtabkpccdnkjoiaaGreatMsgDecodesG3
import Derived.Test.YtabkpccdnkjoiaaGreatMsgDecodesG4
import Derived.Test.YtabkpccdnkjoiaaGreatMsgDecodesG5
import Derived.Test.YtabkpccdnkjoiaaGreatMsgDecodesG6
import Derived.Test.YtabkpccdnkjoiaaGreatMsgDecodesG7
import Derived.Test.YtabkpccdnkjoiaaGreatMsgDecodesG8
import Derived.Test.YtabkpccdnkjoiaaGreatMsgDecodesG9
import Derived.Test.YtabkpccdnkjoiaaGreatMsgDecodesG10
import Derived.Test.YtabkpccdnkjoiaaGreatMsgDecodesG11
import Derived.Test.YtabkpccdnkjoiaaGreatMsgDecodesG12
import Derived.Test.YtabkpccdnkjoiaaGreatMsgDecodesG13
import Derived.Test.YtabkpccdnkjoiaaGreatMsgDecodesG14
import Derived.Test.YtabkpccdnkjoiaaGreatMsgDecodesG15
import Derived.Test.YtabkpccdnkjoiaaGreatMsgDecodesG16
import Derived.Test.YtabkpccdnkjoiaaGreatMsgDecodesG17
import Derived.Test.YtabkpccdnkjoiaaGreatMsgDecodesG18
import Derived.Test.YtabkpccdnkjoiaaGreatMsgDecodesG19
import Derived.Test.YtabkpccdnkjoiaaGreatMsgDecodesG20
import Derived.Test.YtabkpccdnkjoiaaGreatMsgDecodesG21
import Derived.Test.YtabkpccdnkjoiaaGreatMsgDecodesG22
import Derived.Test.YtabkpccdnkjoiaaGreatMsgDecodesG23
import Derived.Test.YtabkpccdnkjoiaaGreatMsgDecodesG24
import Derived.Test.YtabkpccdnkjoiaaGreatMsgDecodesG25
import Derived.Test.YtabkpccdnkjoiaaGreatMsgDecodesG26
import Derived.Test.YtabkpccdnkjoiaaGreatMsgDecodesG27
import Derived.Test.YtabkpccdnkjoiaaGreatMsgDecodesG28
import Derived.Test.YtabkpccdnkjoiaaGreatMsgDecodesG29
import Derived.Test.YtabkpccdnkjoiaaGreatMsgDecodesG30
import Derived.Test.YtabkpccdnkjoiaaGreatMsgDecodesG31
import Derived.Test.YtabkpccdnkjoiaaGreatMsgDecodesG32
import Derived.Test.YtabkpccdnkjoiaaGreatMsgDecodesG33
import Derived.Test.YtabkpccdnkjoiaaGreatMsgDecodesG34
import Derived.Test.YtabkpccdnkjoiaaGreatMsgDecodesG35
import Derived.Test.YtabkpccdnkjoiaaGreatMsgDecodesG36
import Derived.Test.YtabkpccdnkjoiaaGreatMsgDecodesG37
import Derived.Test.YtabkpccdnkjoiaaGreatMsgDecodesG38
import Derived.Test.YtabkpccdnkjoiaaGreatMsgDecodesG39
import Derived.Test.YtabkpccdnkjoiaaGreatMsgDecodesG40
import Derived.Test.YtabkpccdnkjoiaaGreatMsgDecodesG41
import Derived.Test.YtabkpccdnkjoiaaGreatRows
import Derived.ProofKit
import Derived.OpenShut
import Derived.ShutString
import Derived.ChangeOld
import Derived.Below
namespace Go.Proofs.YtabkpccdnkjoiaaGreat.XY
open Go.ChangeShapes Go.WideShapes Go.ChangeAt Go.RowKit
open Go.ChangeMaps (open_string shut_string)
set_option linter.unusedVariables false

theorem own : ownKnob Tryz.prog.godebug = none := by kernel_rfl
theorem laidOut : laidOutB Tryz.prog = true := by kernel_rfl

set_option maxRecDepth 100000 in
theorem lifted (os : Os) (started : os.Started) (H : Type) (enc : TypeId × Value → H) :
    ReturnsInHanded {} Tryz.checked os 3 .any (Rows.msgDecodesSpec.pre6 enc Tryz.prog Tryz.f3 Rows.msgDecodesRow.domain false) (Rows.msgDecodesSpec.post enc Tryz.prog Tryz.f3 false true false false) := by
  refine returnsInHanded_of_change (C := Tryz.checked) own started (by kernel_rfl) Tryz.func3
    (ChangeSpec.witness6 (enc := enc) (C := Tryz.checked) false ⟨#[], #[.slice none 0 0], []⟩ 8 (by kernel_rfl) (by kernel_rfl) (by kernel_rfl) (by kernel_rfl)) ?_
  intro W base args ds gs before hval0 hW hcnd _
  have hval : ∀ (j : Nat) t v, Tryz.f3.params[j]? = some t → args[j]? = some v → Value.okWide Tryz.prog W .any base t v := hval0
  have hW' := hW
  obtain ⟨p, q, hA0, hV, rfl, hfz, hnd⟩ := hW
  have hA : DataW.TrodAll enc Tryz.prog W 0 (fun _ => true) true Tryz.f3.params.toList args.toList ds p := hA0
  rw [Tryz.params3] at hA hval
  obtain ⟨v0, yt, d0, ds0, p0, q0, hargs, rfl, rfl, h0, r0⟩ := trodAll_cons hA
  obtain ⟨rfl, rfl, rfl⟩ := trodAll_nil r0
  obtain rfl : args = #[v0] := by cases args; simp_all
  obtain ⟨rfl, rfl⟩ := trodVars_none hV
  have k0 := h0
  have lt0 : ∀ x ∈ p0, x.block < W.heap.size := by obtain ⟨m, hm⟩ := k0; exact DataW.trod_lt m _ _ _ hm
  have w0 := open_bytes (hval 0 22 v0 rfl rfl) h0
  clear hA0 hval0
  refine (afb W v0 w0).mono fun e W' ⟨he, hf⟩ => ?_
  subst he
  have bel := hf.below
  exact ⟨_, rfl, _, _, _, [], _, [], hW', trodAll_mk1 (shut_bool Tryz.underlying4 _), (trodAll_cons_mk (Below.trod laidOut (by kernel_rfl) (of_decide_eq_true (by kernel_rfl)) k0 bel lt0) trodAll_mk0), rfl, bel.frame _, fun h => by cases h⟩

/-- The facts on the program, by themselves (the kernel's memory). -/
theorem closed : joinedFacts Tryz.prog 3 Tryz.f3 Rows.msgDecodesSpec Rows.msgDecodesRow = true := by kernel_rfl
theorem over : Rows.msgDecodesRow.holds Tryz.pinned (OpenSpec.ofChange Rows.msgDecodesSpec) :=
  OpenClaim.holds_of_wide 3 Tryz.f3 rfl rfl rfl rfl rfl rfl rfl ⟨rfl, rfl, rfl, rfl, rfl⟩ rfl rfl rfl rfl rfl (by kernel_rfl) Tryz.func3 closed
    (of_decide_eq_true (by kernel_rfl)) (by unfold Func.isWrapper; first | (rw [if_pos (by decide +kernel)]; kernel_rfl) | (rw [if_neg (by decide +kernel)]; exact ⟨rfl, rfl⟩))
    (fun os started H enc _ => lifted os started H enc)
end Go.Proofs.YtabkpccdnkjoiaaGreat.XY
namespace Go.Proofs.YtabkpccdnkjoiaaGreat
/-- The given statement. -/
theorem msgDecodes_holds : Rows.MsgDecodesSaid := XY.over
#print axioms msgDecodes_holds
end Go.Proofs.YtabkpccdnkjoiaaGreat
