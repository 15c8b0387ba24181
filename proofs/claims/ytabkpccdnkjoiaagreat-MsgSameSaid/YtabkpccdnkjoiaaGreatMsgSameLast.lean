/-
  The law 'tributary/tributarylaw25.MsgSame' holds: for every input the call returns true, and each argument reads afterwards as it read before. No condition.
-/
import Derived.Test.YtabkpccdnkjoiaaGreatMsgSameG0
import Derived.Test.YtabkpccdnkjoiaaGreatMsgSameG1
import Derived.Test.YtabkpccdnkjoiaaGreatMsgSameG2
import Derived.Test.YtabkpccdnkjoiaaGreatMsgSameG3
import Derived.Test.YtabkpccdnkjoiaaGreatMsgSameG4
import Derived.Test.YtabkpccdnkjoiaaGreatMsgSameG5
import Derived.Test.YtabkpccdnkjoiaaGreatMsgSameG6
import Derived.Test.YtabkpccdnkjoiaaGreatMsgSameG7
import Derived.Test.YtabkpccdnkjoiaaGreatMsgSameG8
import Derived.Test.YtabkpccdnkjoiaaGreatMsgSameG9
import Derived.Test.YtabkpccdnkjoiaaGreatMsgSameG10
import Derived.Test.YtabkpccdnkjoiaaGreatMsgSameG11
import Derived.Test.YtabkpccdnkjoiaaGreatMsgSameG12
import Derived.Test.YtabkpccdnkjoiaaGreatMsgSameG13
import Derived.Test.YtabkpccdnkjoiaaGreatMsgSameG14
import Derived.Test.YtabkpccdnkjoiaaGreatMsgSameG15
import Derived.Test.YtabkpccdnkjoiaaGreatMsgSameG16
import Derived.Test.YtabkpccdnkjoiaaGreatMsgSameG17
import Derived.Test.YtabkpccdnkjoiaaGreatMsgSameG18
import Derived.Test.YtabkpccdnkjoiaaGreatMsgSameG19
import Derived.Test.YtabkpccdnkjoiaaGreatMsgSameG20
import Derived.Test.YtabkpccdnkjoiaaGreatMsgSameG21
import Derived.Test.YtabkpccdnkjoiaaGreatMsgSameG22
import Derived.Test.YtabkpccdnkjoiaaGreatMsgSameG23
import Derived.Test.YtabkpccdnkjoiaaGreatMsgSameG24
import Derived.Test.YtabkpccdnkjoiaaGreatMsgSameG25
import Derived.Test.YtabkpccdnkjoiaaGreatMsgSameG26
import Derived.Test.YtabkpccdnkjoiaaGreatMsgSameG27
import Derived.Test.YtabkpccdnkjoiaaGreatMsgSameG28
import Derived.Test.YtabkpccdnkjoiaaGreatMsgSameG29
import Derived.Test.YtabkpccdnkjoiaaGreatMsgSameG30
import Derived.Test.YtabkpccdnkjoiaaGreatMsgSameG31
import Derived.Test.YtabkpccdnkjoiaaGreatMsgSameG32
import Derived.Test.YtabkpccdnkjoiaaGreatMsgSameG33
import Derived.Test.YtabkpccdnkjoiaaGreatMsgSameG34
import Derived.Test.YtabkpccdnkjoiaaGreatMsgSameG35
import Derived.Test.YtabkpccdnkjoiaaGreatMsgSameG36
import Derived.Test.YtabkpccdnkjoiaaGreatMsgSameG37
import Derived.Test.YtabkpccdnkjoiaaGreatMsgSameG38
import Derived.Test.YtabkpccdnkjoiaaGreatMsgSameG39
import Derived.Test.YtabkpccdnkjoiaaGreatRows
import Derived.ProofKit
import Derived.OpenShut
import Derived.ShutString
import Derived.ChangeOld
import Derived.Below
namespace Go.Proofs.YtabkpccdnkjoiaaGreat.TR
open Go.ChangeShapes Go.WideShapes Go.ChangeAt Go.RowKit
open Go.ChangeMaps (open_string shut_string)
set_option linter.unusedVariables false

theorem own : ownKnob Tryz.prog.godebug = none := by kernel_rfl
theorem laidOut : laidOutB Tryz.prog = true := by kernel_rfl

set_option maxRecDepth 100000 in
theorem lifted (os : Os) (started : os.Started) (H : Type) (enc : TypeId × Value → H) :
    ReturnsInHanded {} Tryz.checked os 4 .any (Rows.msgSameSpec.pre6 enc Tryz.prog Tryz.f4 Rows.msgSameRow.domain false) (Rows.msgSameSpec.post enc Tryz.prog Tryz.f4 false true false false) := by
  refine returnsInHanded_of_change_sized (C := Tryz.checked) own started (by kernel_rfl) Tryz.func4
    (ChangeSpec.witness6 (enc := enc) (C := Tryz.checked) false ⟨#[], #[.agg #[.int .i64 0, .int .i64 0, .int .i64 0, .int .i64 0, .int .i64 0, .int .i64 0, .int .i64 0, .slice none 0 0, .slice none 0 0, .slice none 0 0, .slice none 0 0], .agg #[.int .i64 0, .int .i64 0, .int .i64 0, .int .i64 0, .int .i64 0, .int .i64 0, .int .i64 0, .slice none 0 0, .slice none 0 0, .slice none 0 0, .slice none 0 0]], []⟩ 8 (by kernel_rfl) (by kernel_rfl) (by kernel_rfl) (by kernel_rfl)) ?_
  intro W base args ds gs before hval0 hW hcnd hsz _
  have hval : ∀ (j : Nat) t v, Tryz.f4.params[j]? = some t → args[j]? = some v → Value.okWide Tryz.prog W .any base t v := hval0
  have hW' := hW
  obtain ⟨p, q, hA0, hV, rfl, hfz, hnd⟩ := hW
  have hA : DataW.TrodAll enc Tryz.prog W 0 (fun _ => true) true Tryz.f4.params.toList args.toList ds p := hA0
  rw [Tryz.params4] at hA hval hsz
  obtain ⟨v0, wJ, d0, ds0, p0, q0, hargs, rfl, rfl, h0, r0⟩ := trodAll_cons hA
  obtain ⟨v1, vs1, d1, ds1, p1, q1, rfl, rfl, rfl, h1, r1⟩ := trodAll_cons r0
  obtain ⟨rfl, rfl, rfl⟩ := trodAll_nil r1
  obtain rfl : args = #[v0, v1] := by cases args; simp_all
  obtain ⟨rfl, rfl⟩ := trodVars_none hV
  have k0 := h0
  have lt0 : ∀ x ∈ p0, x.block < W.heap.size := by obtain ⟨m, hm⟩ := k0; exact DataW.trod_lt m _ _ _ hm
  have w0 := Tq (hval 0 42 v0 rfl rfl) h0 (RG hsz (j := 0) rfl rfl)
  have k1 := h1
  have lt1 : ∀ x ∈ p1, x.block < W.heap.size := by obtain ⟨m, hm⟩ := k1; exact DataW.trod_lt m _ _ _ hm
  have w1 := Tq (hval 1 42 v1 rfl rfl) h1 (RG hsz (j := 1) rfl rfl)
  clear hA0 hval0
  refine (acu W v0 w0 v1 w1).mono fun e W' ⟨he, hf⟩ => ?_
  subst he
  have bel := hf.below
  exact ⟨_, rfl, _, _, _, [], _, [], hW', trodAll_mk1 (shut_bool Tryz.underlying4 _), (trodAll_cons_mk (Below.trod laidOut (by kernel_rfl) (of_decide_eq_true (by kernel_rfl)) k0 bel lt0) (trodAll_cons_mk (Below.trod laidOut (by kernel_rfl) (of_decide_eq_true (by kernel_rfl)) k1 bel lt1) trodAll_mk0)), rfl, bel.frame _, fun h => by cases h⟩

/-- The facts on the program, by themselves (the kernel's memory). -/
theorem closed : joinedFacts Tryz.prog 4 Tryz.f4 Rows.msgSameSpec Rows.msgSameRow = true := by kernel_rfl
theorem over : Rows.msgSameRow.holds Tryz.pinned (OpenSpec.ofChange Rows.msgSameSpec) :=
  OpenClaim.holds_of_wide 4 Tryz.f4 rfl rfl rfl rfl rfl rfl rfl ⟨rfl, rfl, rfl, rfl, rfl⟩ rfl rfl rfl rfl rfl (by kernel_rfl) Tryz.func4 closed
    (of_decide_eq_true (by kernel_rfl)) (by unfold Func.isWrapper; first | (rw [if_pos (by decide +kernel)]; kernel_rfl) | (rw [if_neg (by decide +kernel)]; exact ⟨rfl, rfl⟩))
    (fun os started H enc _ => lifted os started H enc)
end Go.Proofs.YtabkpccdnkjoiaaGreat.TR
namespace Go.Proofs.YtabkpccdnkjoiaaGreat
/-- The given statement. -/
theorem msgSame_holds : Rows.MsgSameSaid := TR.over
#print axioms msgSame_holds
end Go.Proofs.YtabkpccdnkjoiaaGreat
