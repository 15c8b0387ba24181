/-
  The law 'tributary/tributarylaw21.ShardPlays' holds: for every input the call returns true, and each argument reads afterwards as it read before. No condition.
-/
import Derived.Test.YtlhmbkjdfjoilaaGreatShardPlaysG0
import Derived.Test.YtlhmbkjdfjoilaaGreatShardPlaysG1
import Derived.Test.YtlhmbkjdfjoilaaGreatShardPlaysG2
import Derived.Test.YtlhmbkjdfjoilaaGreatShardPlaysG3
import Derived.Test.YtlhmbkjdfjoilaaGreatShardPlaysG4
import Derived.Test.YtlhmbkjdfjoilaaGreatShardPlaysG5
import Derived.Test.YtlhmbkjdfjoilaaGreatShardPlaysG6
import Derived.Test.YtlhmbkjdfjoilaaGreatShardPlaysG7
import Derived.Test.YtlhmbkjdfjoilaaGreatShardPlaysG8
import Derived.Test.YtlhmbkjdfjoilaaGreatShardPlaysG9
import Derived.Test.YtlhmbkjdfjoilaaGreatShardPlaysG10
import Derived.Test.YtlhmbkjdfjoilaaGreatShardPlaysG11
import Derived.Test.YtlhmbkjdfjoilaaGreatShardPlaysG12
import Derived.Test.YtlhmbkjdfjoilaaGreatShardPlaysG13
import Derived.Test.YtlhmbkjdfjoilaaGreatShardPlaysG14
import Derived.Test.YtlhmbkjdfjoilaaGreatShardPlaysG15
import Derived.Test.YtlhmbkjdfjoilaaGreatShardPlaysG16
import Derived.Test.YtlhmbkjdfjoilaaGreatShardPlaysG17
import Derived.Test.YtlhmbkjdfjoilaaGreatShardPlaysG18
import Derived.Test.YtlhmbkjdfjoilaaGreatShardPlaysG19
import Derived.Test.YtlhmbkjdfjoilaaGreatShardPlaysG20
import Derived.Test.YtlhmbkjdfjoilaaGreatShardPlaysG21
import Derived.Test.YtlhmbkjdfjoilaaGreatShardPlaysG22
import Derived.Test.YtlhmbkjdfjoilaaGreatShardPlaysG23
import Derived.Test.YtlhmbkjdfjoilaaGreatShardPlaysG24
import Derived.Test.YtlhmbkjdfjoilaaGreatShardPlaysG25
import Derived.Test.YtlhmbkjdfjoilaaGreatShardPlaysG26
import Derived.Test.YtlhmbkjdfjoilaaGreatShardPlaysG27
import Derived.Test.YtlhmbkjdfjoilaaGreatShardPlaysG28
import Derived.Test.YtlhmbkjdfjoilaaGreatShardPlaysG29
import Derived.Test.YtlhmbkjdfjoilaaGreatShardPlaysG30
import Derived.Test.YtlhmbkjdfjoilaaGreatShardPlaysG31
import Derived.Test.YtlhmbkjdfjoilaaGreatShardPlaysG32
import Derived.Test.YtlhmbkjdfjoilaaGreatShardPlaysG33
import Derived.Test.YtlhmbkjdfjoilaaGreatShardPlaysG34
import Derived.Test.YtlhmbkjdfjoilaaGreatShardPlaysG35
import Derived.Test.YtlhmbkjdfjoilaaGreatShardPlaysG36
import Derived.Test.YtlhmbkjdfjoilaaGreatRows
import Derived.ProofKit
import Derived.OpenShut
import Derived.ShutString
import Derived.ChangeOld
import Derived.Below
namespace Go.Proofs.YtlhmbkjdfjoilaaGreat.aay
open Go.ChangeShapes Go.WideShapes Go.ChangeAt Go.RowKit
open Go.ChangeMaps (open_string shut_string)
set_option linter.unusedVariables false

theorem own : ownKnob Tryz.prog.godebug = none := by kernel_rfl
theorem laidOut : laidOutB Tryz.prog = true := by kernel_rfl

set_option maxRecDepth 100000 in
theorem lifted (os : Os) (started : os.Started) (H : Type) (enc : TypeId × Value → H) :
    ReturnsInHanded {} Tryz.checked os 7 .any (Rows.shardPlaysSpec.pre6 enc Tryz.prog Tryz.f7 Rows.shardPlaysRow.domain false) (Rows.shardPlaysSpec.post enc Tryz.prog Tryz.f7 false true false false) := by
  refine returnsInHanded_of_change_sized (C := Tryz.checked) own started (by kernel_rfl) Tryz.func7
    (ChangeSpec.witness6 (enc := enc) (C := Tryz.checked) false ⟨#[], #[.int .i64 0, .slice none 0 0], []⟩ 8 (by kernel_rfl) (by kernel_rfl) (by kernel_rfl) (by kernel_rfl)) ?_
  intro W base args ds gs before hval0 hW hcnd hsz _
  have hval : ∀ (j : Nat) t v, Tryz.f7.params[j]? = some t → args[j]? = some v → Value.okWide Tryz.prog W .any base t v := hval0
  have hW' := hW
  obtain ⟨p, q, hA0, hV, rfl, hfz, hnd⟩ := hW
  have hA : DataW.TrodAll enc Tryz.prog W 0 (fun _ => true) true Tryz.f7.params.toList args.toList ds p := hA0
  rw [Tryz.params7] at hA hval hsz
  obtain ⟨v0, vs0, d0, ds0, p0, q0, hargs, rfl, rfl, h0, r0⟩ := trodAll_cons hA
  obtain ⟨v1, vs1, d1, ds1, p1, q1, rfl, rfl, rfl, h1, r1⟩ := trodAll_cons r0
  obtain ⟨rfl, rfl, rfl⟩ := trodAll_nil r1
  obtain rfl : args = #[v0, v1] := by cases args; simp_all
  obtain ⟨rfl, rfl⟩ := trodVars_none hV
  obtain ⟨a0, rfl, rfl, rfl, w0⟩ := open_int Tryz.underlying3 (hval 0 3 v0 rfl rfl) h0
  have k1 := h1
  have lt1 : ∀ x ∈ p1, x.block < W.heap.size := by obtain ⟨m, hm⟩ := k1; exact DataW.trod_lt m _ _ _ hm
  have w1 := aiI (hval 1 59 v1 rfl rfl) h1 (aiE hsz (j := 1) rfl rfl)
  clear hA0 hval0
  refine (ai9 W a0 w0 v1 w1).mono fun e W' ⟨he, hf⟩ => ?_
  subst he
  have bel := hf.below
  exact ⟨_, rfl, _, _, _, [], _, [], hW', trodAll_mk1 (shut_bool Tryz.underlying4 _), (trodAll_cons_mk (shut_int Tryz.underlying3 w0) (trodAll_cons_mk (Below.trod laidOut (by kernel_rfl) (of_decide_eq_true (by kernel_rfl)) k1 bel lt1) trodAll_mk0)), rfl, bel.frame _, fun h => by cases h⟩

/-- The facts on the program, by themselves (the kernel's memory). -/
theorem closed : joinedFacts Tryz.prog 7 Tryz.f7 Rows.shardPlaysSpec Rows.shardPlaysRow = true := by kernel_rfl
theorem over : Rows.shardPlaysRow.holds Tryz.pinned (OpenSpec.ofChange Rows.shardPlaysSpec) :=
  OpenClaim.holds_of_wide 7 Tryz.f7 rfl rfl rfl rfl rfl rfl rfl ⟨rfl, rfl, rfl, rfl, rfl⟩ rfl rfl rfl rfl rfl (by kernel_rfl) Tryz.func7 closed
    (of_decide_eq_true (by kernel_rfl)) (by unfold Func.isWrapper; first | (rw [if_pos (by decide +kernel)]; kernel_rfl) | (rw [if_neg (by decide +kernel)]; exact ⟨rfl, rfl⟩))
    (fun os started H enc _ => lifted os started H enc)
end Go.Proofs.YtlhmbkjdfjoilaaGreat.aay
namespace Go.Proofs.YtlhmbkjdfjoilaaGreat
/-- The given statement. -/
theorem shardPlays_holds : Rows.ShardPlaysSaid := aay.over
#print axioms shardPlays_holds
end Go.Proofs.YtlhmbkjdfjoilaaGreat
