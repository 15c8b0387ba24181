/-
  The law 'tributary/tributarylaw21.ShardParts' holds: for every input the call returns true, and each argument reads afterwards as it read before. No condition.
-/
import Derived.Test.YtlhmbkjdfjoilaaGreatShardPartsG0
import Derived.Test.YtlhmbkjdfjoilaaGreatShardPartsG1
import Derived.Test.YtlhmbkjdfjoilaaGreatShardPartsG2
import Derived.Test.YtlhmbkjdfjoilaaGreatShardPartsG3
import Derived.Test.YtlhmbkjdfjoilaaGreatShardPartsG4
import Derived.Test.YtlhmbkjdfjoilaaGreatShardPartsG5
import Derived.Test.YtlhmbkjdfjoilaaGreatShardPartsG6
import Derived.Test.YtlhmbkjdfjoilaaGreatShardPartsG7
import Derived.Test.YtlhmbkjdfjoilaaGreatShardPartsG8
import Derived.Test.YtlhmbkjdfjoilaaGreatShardPartsG9
import Derived.Test.YtlhmbkjdfjoilaaGreatShardPartsG10
import Derived.Test.YtlhmbkjdfjoilaaGreatShardPartsG11
import Derived.Test.YtlhmbkjdfjoilaaGreatShardPartsG12
import Derived.Test.YtlhmbkjdfjoilaaGreatShardPartsG13
import Derived.Test.YtlhmbkjdfjoilaaGreatShardPartsG14
import Derived.Test.YtlhmbkjdfjoilaaGreatShardPartsG15
import Derived.Test.YtlhmbkjdfjoilaaGreatShardPartsG16
import Derived.Test.YtlhmbkjdfjoilaaGreatShardPartsG17
import Derived.Test.YtlhmbkjdfjoilaaGreatShardPartsG18
import Derived.Test.YtlhmbkjdfjoilaaGreatShardPartsG19
import Derived.Test.YtlhmbkjdfjoilaaGreatShardPartsG20
import Derived.Test.YtlhmbkjdfjoilaaGreatShardPartsG21
import Derived.Test.YtlhmbkjdfjoilaaGreatShardPartsG22
import Derived.Test.YtlhmbkjdfjoilaaGreatShardPartsG23
import Derived.Test.YtlhmbkjdfjoilaaGreatShardPartsG24
import Derived.Test.YtlhmbkjdfjoilaaGreatShardPartsG25
import Derived.Test.YtlhmbkjdfjoilaaGreatShardPartsG26
import Derived.Test.YtlhmbkjdfjoilaaGreatRows
import Derived.ProofKit
import Derived.OpenShut
import Derived.ShutString
import Derived.ChangeOld
import Derived.Below
namespace Go.Proofs.YtlhmbkjdfjoilaaGreat.OC
open Go.ChangeShapes Go.WideShapes Go.ChangeAt Go.RowKit
open Go.ChangeMaps (open_string shut_string)
set_option linter.unusedVariables false

theorem own : ownKnob Tryz.prog.godebug = none := by kernel_rfl
theorem laidOut : laidOutB Tryz.prog = true := by kernel_rfl

set_option maxRecDepth 100000 in
theorem lifted (os : Os) (started : os.Started) (H : Type) (enc : TypeId × Value → H) :
    ReturnsInHanded {} Tryz.checked os 5 .any (Rows.shardPartsSpec.pre6 enc Tryz.prog Tryz.f5 Rows.shardPartsRow.domain false) (Rows.shardPartsSpec.post enc Tryz.prog Tryz.f5 false true false false) := by
  refine returnsInHanded_of_change_sized (C := Tryz.checked) own started (by kernel_rfl) Tryz.func5
    (ChangeSpec.witness6 (enc := enc) (C := Tryz.checked) false ⟨#[], #[.agg #[.slice none 0 0, .slice none 0 0, .slice none 0 0], .int .u8 0], []⟩ 8 (by kernel_rfl) (by kernel_rfl) (by kernel_rfl) (by kernel_rfl)) ?_
  intro W base args ds gs before hval0 hW hcnd hsz _
  have hval : ∀ (j : Nat) t v, Tryz.f5.params[j]? = some t → args[j]? = some v → Value.okWide Tryz.prog W .any base t v := hval0
  have hW' := hW
  obtain ⟨p, q, hA0, hV, rfl, hfz, hnd⟩ := hW
  have hA : DataW.TrodAll enc Tryz.prog W 0 (fun _ => true) true Tryz.f5.params.toList args.toList ds p := hA0
  rw [Tryz.params5] at hA hval hsz
  obtain ⟨v0, ZM, d0, ds0, p0, q0, hargs, rfl, rfl, h0, r0⟩ := trodAll_cons hA
  obtain ⟨v1, vs1, d1, ds1, p1, q1, rfl, rfl, rfl, h1, r1⟩ := trodAll_cons r0
  obtain ⟨rfl, rfl, rfl⟩ := trodAll_nil r1
  obtain rfl : args = #[v0, v1] := by cases args; simp_all
  obtain ⟨rfl, rfl⟩ := trodVars_none hV
  have k0 := h0
  have Ze : ∀ x ∈ p0, x.block < W.heap.size := by obtain ⟨m, hm⟩ := k0; exact DataW.trod_lt m _ _ _ hm
  have w0 := Zb (hval 0 32 v0 rfl rfl) h0 (Y_ hsz (j := 0) rfl rfl)
  obtain ⟨a1, rfl, rfl, rfl, w1⟩ := open_int Tryz.underlying5 (hval 1 5 v1 rfl rfl) h1
  clear hA0 hval0
  refine (Zd W v0 w0 a1 w1).mono fun e W' ⟨he, hf⟩ => ?_
  subst he
  have bel := hf.below
  exact ⟨_, rfl, _, _, _, [], _, [], hW', trodAll_mk1 (shut_bool Tryz.underlying4 _), (trodAll_cons_mk (Below.trod laidOut (by kernel_rfl) (of_decide_eq_true (by kernel_rfl)) k0 bel Ze) (trodAll_cons_mk (shut_int Tryz.underlying5 w1) trodAll_mk0)), rfl, bel.frame _, fun h => by cases h⟩

/-- The facts on the program, by themselves (the kernel's memory). -/
theorem closed : joinedFacts Tryz.prog 5 Tryz.f5 Rows.shardPartsSpec Rows.shardPartsRow = true := by kernel_rfl
theorem over : Rows.shardPartsRow.holds Tryz.pinned (OpenSpec.ofChange Rows.shardPartsSpec) :=
  OpenClaim.holds_of_wide 5 Tryz.f5 rfl rfl rfl rfl rfl rfl rfl ⟨rfl, rfl, rfl, rfl, rfl⟩ rfl rfl rfl rfl rfl (by kernel_rfl) Tryz.func5 closed
    (of_decide_eq_true (by kernel_rfl)) (by unfold Func.isWrapper; first | (rw [if_pos (by decide +kernel)]; kernel_rfl) | (rw [if_neg (by decide +kernel)]; exact ⟨rfl, rfl⟩))
    (fun os started H enc _ => lifted os started H enc)
end Go.Proofs.YtlhmbkjdfjoilaaGreat.OC
namespace Go.Proofs.YtlhmbkjdfjoilaaGreat
/-- The given statement. -/
theorem shardParts_holds : Rows.ShardPartsSaid := OC.over
#print axioms shardParts_holds
end Go.Proofs.YtlhmbkjdfjoilaaGreat
