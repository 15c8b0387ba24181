/-
  The law 'tributary/tributarylaw25.MsgRight' holds: for every input the call returns true, and each argument reads afterwards as it read before. No condition.
-/
import Derived.Test.YtcahemkomfaabaaGreatMsgRightG1
import Derived.Test.YtcahemkomfaabaaGreatMsgRightG2
import Derived.Test.YtcahemkomfaabaaGreatMsgRightG3
import Derived.Test.YtcahemkomfaabaaGreatMsgRightG4
import Derived.Test.YtcahemkomfaabaaGreatMsgRightG5
import Derived.Test.YtcahemkomfaabaaGreatMsgRightG6
import Derived.Test.YtcahemkomfaabaaGreatMsgRightG7
import Derived.Test.YtcahemkomfaabaaGreatMsgRightG8
import Derived.Test.YtcahemkomfaabaaGreatMsgRightG9
import Derived.Test.YtcahemkomfaabaaGreatMsgRightG10
import Derived.Test.YtcahemkomfaabaaGreatMsgRightG11
import Derived.Test.YtcahemkomfaabaaGreatMsgRightG12
import Derived.Test.YtcahemkomfaabaaGreatMsgRightG13
import Derived.Test.YtcahemkomfaabaaGreatMsgRightG14
import Derived.Test.YtcahemkomfaabaaGreatMsgRightG15
import Derived.Test.YtcahemkomfaabaaGreatMsgRightG16
import Derived.Test.YtcahemkomfaabaaGreatMsgRightG17
import Derived.Test.YtcahemkomfaabaaGreatMsgRightG18
import Derived.Test.YtcahemkomfaabaaGreatMsgRightG19
import Derived.Test.YtcahemkomfaabaaGreatMsgRightG20
import Derived.Test.YtcahemkomfaabaaGreatMsgRightG21
import Derived.Test.YtcahemkomfaabaaGreatMsgRightG22
import Derived.Test.YtcahemkomfaabaaGreatMsgRightG23
import Derived.Test.YtcahemkomfaabaaGreatMsgRightG24
import Derived.Test.YtcahemkomfaabaaGreatMsgRightG25
import Derived.Test.YtcahemkomfaabaaGreatMsgRightG26
import Derived.Test.YtcahemkomfaabaaGreatMsgRightG27
import Derived.Test.YtcahemkomfaabaaGreatMsgRightG28
import Derived.Test.YtcahemkomfaabaaGreatMsgRightG29
import Derived.Test.YtcahemkomfaabaaGreatMsgRightG30
import Derived.Test.YtcahemkomfaabaaGreatMsgRightG31
import Derived.Test.YtcahemkomfaabaaGreatMsgRightG32
import Derived.Test.YtcahemkomfaabaaGreatMsgRightG33
import Derived.Test.YtcahemkomfaabaaGreatMsgRightG34
import Derived.Test.YtcahemkomfaabaaGreatMsgRightG35
import Derived.Test.YtcahemkomfaabaaGreatMsgRightG36
import Derived.Test.YtcahemkomfaabaaGreatRows
import Derived.ProofKit
import Derived.OpenShut
import Derived.ShutString
import Derived.ChangeOld
import Derived.Below
namespace Go.Proofs.YtcahemkomfaabaaGreat.msgRightL
open Go.ChangeShapes Go.WideShapes Go.ChangeAt Go.RowKit
open Go.ChangeMaps (open_string shut_string)
set_option linter.unusedVariables false

theorem own : ownKnob Tryz.prog.godebug = none := by kernel_rfl
theorem laidOut : laidOutB Tryz.prog = true := by kernel_rfl

set_option maxRecDepth 100000 in
theorem lifted (os : Os) (started : os.Started) (H : Type) (enc : TypeId × Value → H) :
    ReturnsInHanded {} Tryz.checked os 3 .any (Rows.msgRightSpec.pre6 enc Tryz.prog Tryz.f3 Rows.msgRightRow.domain false) (Rows.msgRightSpec.post enc Tryz.prog Tryz.f3 false true false false) := by
  refine returnsInHanded_of_change_sized (C := Tryz.checked) own started (by kernel_rfl) Tryz.func3
    (ChangeSpec.witness6 (enc := enc) (C := Tryz.checked) false ⟨#[], #[.agg #[.int .i64 0, .int .i64 0, .int .i64 0, .int .i64 0, .int .i64 0, .int .i64 0, .int .i64 0, .slice none 0 0, .slice none 0 0, .slice none 0 0, .slice none 0 0]], []⟩ 8 (by kernel_rfl) (by kernel_rfl) (by kernel_rfl) (by kernel_rfl)) ?_
  intro W base args ds gs before hval0 hW hcnd hsz _
  have hval : ∀ (j : Nat) t v, Tryz.f3.params[j]? = some t → args[j]? = some v → Value.okWide Tryz.prog W .any base t v := hval0
  have hW' := hW
  obtain ⟨p, q, hA0, hV, rfl, hfz, hnd⟩ := hW
  have hA : DataW.TrodAll enc Tryz.prog W 0 (fun _ => true) true Tryz.f3.params.toList args.toList ds p := hA0
  rw [Tryz.params3] at hA hval hsz
  obtain ⟨v0, vs0, d0, ds0, p0, q0, hargs, rfl, rfl, h0, r0⟩ := trodAll_cons hA
  obtain ⟨rfl, rfl, rfl⟩ := trodAll_nil r0
  obtain rfl : args = #[v0] := by cases args; simp_all
  obtain ⟨rfl, rfl⟩ := trodVars_none hV
  have k0 := h0
  have lt0 : ∀ x ∈ p0, x.block < W.heap.size := by obtain ⟨m, hm⟩ := k0; exact DataW.trod_lt m _ _ _ hm
  have w0 := open_msg (hval 0 34 v0 rfl rfl) h0 (sized_at hsz (j := 0) rfl rfl)
  clear hA0 hval0
  refine (msgRight_law W v0 w0).mono fun e W' ⟨he, hf⟩ => ?_
  subst he
  have bel := hf.below
  exact ⟨_, rfl, _, _, _, [], _, [], hW', trodAll_mk1 (shut_bool Tryz.underlying4 _), (trodAll_cons_mk (Below.trod laidOut (by kernel_rfl) (of_decide_eq_true (by kernel_rfl)) k0 bel lt0) trodAll_mk0), rfl, bel.frame _, fun h => by cases h⟩

theorem over : Rows.msgRightRow.holds Tryz.pinned (OpenSpec.ofChange Rows.msgRightSpec) :=
  OpenClaim.holds_of_wide 3 Tryz.f3 rfl rfl rfl rfl rfl rfl rfl ⟨rfl, rfl, rfl, rfl, rfl⟩ rfl rfl rfl rfl rfl (by kernel_rfl) Tryz.func3 (by kernel_rfl)
    (of_decide_eq_true (by kernel_rfl)) (by unfold Func.isWrapper; first | (rw [if_pos (by decide +kernel)]; kernel_rfl) | (rw [if_neg (by decide +kernel)]; exact ⟨rfl, rfl⟩))
    (fun os started H enc _ => lifted os started H enc)
end Go.Proofs.YtcahemkomfaabaaGreat.msgRightL
namespace Go.Proofs.YtcahemkomfaabaaGreat
/-- The given statement. -/
theorem msgRight_holds : Rows.MsgRightSaid := msgRightL.over
#print axioms msgRight_holds
end Go.Proofs.YtcahemkomfaabaaGreat
