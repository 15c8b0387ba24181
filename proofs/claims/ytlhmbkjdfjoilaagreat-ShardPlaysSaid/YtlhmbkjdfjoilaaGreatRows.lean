/-
  NARROWER THAN 'FOR EVERY INPUT', by the rows' own cells (each row's printed sentence says how): ShardWhole: loops · ShardParts: loops · ShardPlays: loops · ShardJoins: loops.
  DERIVED. THE GIVEN ROWS OF THIS SEAT. 6 by the template 'for every input the law returns true; each argument reads behind the call as it read before'; 0 by the template 'total and deterministic' (their statements: YtlhmbkjdfjoilaaGreatTotals.lean).
  GIVEN WITH THE SEED: the statements are not yours to turn. If you find one false, say at which input.
  Laid BY PROGRAM, IN A SANDBOX (cutbox-rows.mjs): the forced cells as the released guide's own fill.sh prints them over the translation 89f09549fe82552d… (all of the seat's roots in one cut). By AI agents, Wed Nov 11 2026. No macro, syntax, notation, axiom, sorry.
-/
import Derived.Test.YtlhmbkjdfjoilaaGreatChecked
import GoSem.Claim
import GoSem.ClaimJoined
import GoSem.ClaimMapViews
import Derived.JoinedTies
import Derived.KernelRfl
namespace Go.Proofs.YtlhmbkjdfjoilaaGreat
/- THE CELL 'sum', in the pinned program and in every row, IS THE sha256 OF THE DUMP (.gsa) THAT YtlhmbkjdfjoilaaGreatProg.lean LOADS. Nothing in Lean hashes anything: it is a label: what it is worth is what the hold of that sum in a sandbox is worth. -/
noncomputable def Tryz.pinned : Pinned := { name := "ytlhmbkjdfjoilaagreat", sum := "89f09549fe82552d6e35064291051f852787e119c4b510228f295de5282f5fbf", checked := Tryz.checked }
namespace Rows
def none {H : Type} : Left H := { results := [], args := [] }

/-- 'tributarylaw21.ShardRoutes': WHATEVER THE INPUT: true; the input reads as it did. -/
def shardRoutesSpec : ChangeSpec := { name := "shardRoutes", fn := fun _ => fun
  | [d1, d2] => { results := [.lit (.bool true)], args := [d1, d2] }
  | _ => none }
def shardRoutesRow : OpenClaim := { program := "ytlhmbkjdfjoilaagreat", sum := "89f09549fe82552d6e35064291051f852787e119c4b510228f295de5282f5fbf", func := "tributary/tributarylaw21.ShardRoutes", spec := "shardRoutes", unfollowed := true, recurses := true, apart := false }
def ShardRoutesSaid : Prop := shardRoutesRow.holds Tryz.pinned (OpenSpec.ofChange shardRoutesSpec)

/-- ITS FALSE NEIGHBOUR: 'it returns false'. Refute it at one input. -/
def shardRoutesWrong : ChangeSpec := { name := "shardRoutes", fn := fun _ => fun
  | [d1, d2] => { results := [.lit (.bool false)], args := [d1, d2] }
  | _ => none }
def ShardRoutesWrongFalsely : Prop := shardRoutesRow.holds Tryz.pinned (OpenSpec.ofChange shardRoutesWrong)

/-- 'tributarylaw21.ShardWhole': WHATEVER THE INPUT: true; the input reads as it did. -/
def shardWholeSpec : ChangeSpec := { name := "shardWhole", fn := fun _ => fun
  | [d1, d2, d3, d4] => { results := [.lit (.bool true)], args := [d1, d2, d3, d4] }
  | _ => none }
def shardWholeRow : OpenClaim := { program := "ytlhmbkjdfjoilaagreat", sum := "89f09549fe82552d6e35064291051f852787e119c4b510228f295de5282f5fbf", func := "tributary/tributarylaw21.ShardWhole", spec := "shardWhole", unfollowed := true, recurses := true, loops := true, apart := false }
def ShardWholeSaid : Prop := shardWholeRow.holds Tryz.pinned (OpenSpec.ofChange shardWholeSpec)

/-- ITS FALSE NEIGHBOUR: 'it returns false'. Refute it at one input. -/
def shardWholeWrong : ChangeSpec := { name := "shardWhole", fn := fun _ => fun
  | [d1, d2, d3, d4] => { results := [.lit (.bool false)], args := [d1, d2, d3, d4] }
  | _ => none }
def ShardWholeWrongFalsely : Prop := shardWholeRow.holds Tryz.pinned (OpenSpec.ofChange shardWholeWrong)

/-- 'tributarylaw21.ShardParts': WHATEVER THE INPUT: true; the input reads as it did. -/
def shardPartsSpec : ChangeSpec := { name := "shardParts", fn := fun _ => fun
  | [d1, d2] => { results := [.lit (.bool true)], args := [d1, d2] }
  | _ => none }
def shardPartsRow : OpenClaim := { program := "ytlhmbkjdfjoilaagreat", sum := "89f09549fe82552d6e35064291051f852787e119c4b510228f295de5282f5fbf", func := "tributary/tributarylaw21.ShardParts", spec := "shardParts", unfollowed := true, recurses := true, loops := true, apart := false }
def ShardPartsSaid : Prop := shardPartsRow.holds Tryz.pinned (OpenSpec.ofChange shardPartsSpec)

/-- ITS FALSE NEIGHBOUR: 'it returns false'. Refute it at one input. -/
def shardPartsWrong : ChangeSpec := { name := "shardParts", fn := fun _ => fun
  | [d1, d2] => { results := [.lit (.bool false)], args := [d1, d2] }
  | _ => none }
def ShardPartsWrongFalsely : Prop := shardPartsRow.holds Tryz.pinned (OpenSpec.ofChange shardPartsWrong)

/-- 'tributarylaw21.ShardFull': WHATEVER THE INPUT: true; the input reads as it did. -/
def shardFullSpec : ChangeSpec := { name := "shardFull", fn := fun _ => fun
  | [d1, d2, d3] => { results := [.lit (.bool true)], args := [d1, d2, d3] }
  | _ => none }
def shardFullRow : OpenClaim := { program := "ytlhmbkjdfjoilaagreat", sum := "89f09549fe82552d6e35064291051f852787e119c4b510228f295de5282f5fbf", func := "tributary/tributarylaw21.ShardFull", spec := "shardFull", unfollowed := true, recurses := true, apart := false }
def ShardFullSaid : Prop := shardFullRow.holds Tryz.pinned (OpenSpec.ofChange shardFullSpec)

/-- ITS FALSE NEIGHBOUR: 'it returns false'. Refute it at one input. -/
def shardFullWrong : ChangeSpec := { name := "shardFull", fn := fun _ => fun
  | [d1, d2, d3] => { results := [.lit (.bool false)], args := [d1, d2, d3] }
  | _ => none }
def ShardFullWrongFalsely : Prop := shardFullRow.holds Tryz.pinned (OpenSpec.ofChange shardFullWrong)

/-- 'tributarylaw21.ShardPlays': WHATEVER THE INPUT: true; the input reads as it did. -/
def shardPlaysSpec : ChangeSpec := { name := "shardPlays", fn := fun _ => fun
  | [d1, d2] => { results := [.lit (.bool true)], args := [d1, d2] }
  | _ => none }
def shardPlaysRow : OpenClaim := { program := "ytlhmbkjdfjoilaagreat", sum := "89f09549fe82552d6e35064291051f852787e119c4b510228f295de5282f5fbf", func := "tributary/tributarylaw21.ShardPlays", spec := "shardPlays", unfollowed := true, recurses := true, loops := true, apart := false }
def ShardPlaysSaid : Prop := shardPlaysRow.holds Tryz.pinned (OpenSpec.ofChange shardPlaysSpec)

/-- ITS FALSE NEIGHBOUR: 'it returns false'. Refute it at one input. -/
def shardPlaysWrong : ChangeSpec := { name := "shardPlays", fn := fun _ => fun
  | [d1, d2] => { results := [.lit (.bool false)], args := [d1, d2] }
  | _ => none }
def ShardPlaysWrongFalsely : Prop := shardPlaysRow.holds Tryz.pinned (OpenSpec.ofChange shardPlaysWrong)

/-- 'tributarylaw21.ShardJoins': WHATEVER THE INPUT: true; the input reads as it did. -/
def shardJoinsSpec : ChangeSpec := { name := "shardJoins", fn := fun _ => fun
  | [d1, d2] => { results := [.lit (.bool true)], args := [d1, d2] }
  | _ => none }
def shardJoinsRow : OpenClaim := { program := "ytlhmbkjdfjoilaagreat", sum := "89f09549fe82552d6e35064291051f852787e119c4b510228f295de5282f5fbf", func := "tributary/tributarylaw21.ShardJoins", spec := "shardJoins", unfollowed := true, recurses := true, loops := true, apart := false }
def ShardJoinsSaid : Prop := shardJoinsRow.holds Tryz.pinned (OpenSpec.ofChange shardJoinsSpec)

/-- ITS FALSE NEIGHBOUR: 'it returns false'. Refute it at one input. -/
def shardJoinsWrong : ChangeSpec := { name := "shardJoins", fn := fun _ => fun
  | [d1, d2] => { results := [.lit (.bool false)], args := [d1, d2] }
  | _ => none }
def ShardJoinsWrongFalsely : Prop := shardJoinsRow.holds Tryz.pinned (OpenSpec.ofChange shardJoinsWrong)

/- THE SECOND FORM. 'bulk': how many values and letters a reading holds, each counted each time it is reached (what is shared counts as often as it is met; a slice's spare places count too). A statement '..UptoSaid' is the law's where the arguments, and the package variables that the reading takes, are together of bulk at most 1048576: NARROWER than '..Said'. Prove '..Said' where nothing that the law and all that it calls make is longer than what came in: it says more and counts as full. Else prove '..UptoSaid'. A law counts once. -/
mutual
def uptoBulk {H : Type} : DataW H → Nat
  | .lit (.string bytes) => bytes.length + 1
  | .lit _ => 1
  | .nil => 1
  | .ptr d => uptoBulk d + 1
  | .slice elems spare => uptoBulkAll elems + uptoBulkAll spare + 1
  | .agg parts => uptoBulkAll parts + 1
  | .iface _ d => uptoBulk d + 1
  | .map entries => uptoBulkEntries entries + 1
  | .held _ => 1
def uptoBulkAll {H : Type} : List (DataW H) → Nat
  | [] => 0
  | d :: r => uptoBulk d + uptoBulkAll r
def uptoBulkEntries {H : Type} : List (Lit × DataW H) → Nat
  | [] => 0
  | x :: r => uptoBulkEntry x + uptoBulkEntries r
def uptoBulkEntry {H : Type} : Lit × DataW H → Nat
  | (.string bytes, d) => bytes.length + uptoBulk d + 1
  | (_, d) => uptoBulk d + 1
 end
def uptoSmall : (H : Type) → List (DataW H) → Bool := fun _ ds => decide (uptoBulkAll ds ≤ 1048576)
def OpenSpec.upto (s : _root_.Go.ChangeSpec) : _root_.Go.OpenSpec := { _root_.Go.OpenSpec.ofChange s with cond := some uptoSmall }

/-- 'tributarylaw21.ShardRoutes', WHERE WHAT IT READS IS OF BULK AT MOST 1048576: true; the input reads as it did. -/
def shardRoutesUptoRow : OpenClaim := { program := "ytlhmbkjdfjoilaagreat", sum := "89f09549fe82552d6e35064291051f852787e119c4b510228f295de5282f5fbf", func := "tributary/tributarylaw21.ShardRoutes", spec := "shardRoutes", unfollowed := true, recurses := true, apart := false, narrowed := true }
def ShardRoutesUptoSaid : Prop := shardRoutesUptoRow.holds Tryz.pinned (OpenSpec.upto shardRoutesSpec)

/-- 'tributarylaw21.ShardWhole', WHERE WHAT IT READS IS OF BULK AT MOST 1048576: true; the input reads as it did. -/
def shardWholeUptoRow : OpenClaim := { program := "ytlhmbkjdfjoilaagreat", sum := "89f09549fe82552d6e35064291051f852787e119c4b510228f295de5282f5fbf", func := "tributary/tributarylaw21.ShardWhole", spec := "shardWhole", unfollowed := true, recurses := true, loops := true, apart := false, narrowed := true }
def ShardWholeUptoSaid : Prop := shardWholeUptoRow.holds Tryz.pinned (OpenSpec.upto shardWholeSpec)

/-- 'tributarylaw21.ShardParts', WHERE WHAT IT READS IS OF BULK AT MOST 1048576: true; the input reads as it did. -/
def shardPartsUptoRow : OpenClaim := { program := "ytlhmbkjdfjoilaagreat", sum := "89f09549fe82552d6e35064291051f852787e119c4b510228f295de5282f5fbf", func := "tributary/tributarylaw21.ShardParts", spec := "shardParts", unfollowed := true, recurses := true, loops := true, apart := false, narrowed := true }
def ShardPartsUptoSaid : Prop := shardPartsUptoRow.holds Tryz.pinned (OpenSpec.upto shardPartsSpec)

/-- 'tributarylaw21.ShardFull', WHERE WHAT IT READS IS OF BULK AT MOST 1048576: true; the input reads as it did. -/
def shardFullUptoRow : OpenClaim := { program := "ytlhmbkjdfjoilaagreat", sum := "89f09549fe82552d6e35064291051f852787e119c4b510228f295de5282f5fbf", func := "tributary/tributarylaw21.ShardFull", spec := "shardFull", unfollowed := true, recurses := true, apart := false, narrowed := true }
def ShardFullUptoSaid : Prop := shardFullUptoRow.holds Tryz.pinned (OpenSpec.upto shardFullSpec)

/-- 'tributarylaw21.ShardPlays', WHERE WHAT IT READS IS OF BULK AT MOST 1048576: true; the input reads as it did. -/
def shardPlaysUptoRow : OpenClaim := { program := "ytlhmbkjdfjoilaagreat", sum := "89f09549fe82552d6e35064291051f852787e119c4b510228f295de5282f5fbf", func := "tributary/tributarylaw21.ShardPlays", spec := "shardPlays", unfollowed := true, recurses := true, loops := true, apart := false, narrowed := true }
def ShardPlaysUptoSaid : Prop := shardPlaysUptoRow.holds Tryz.pinned (OpenSpec.upto shardPlaysSpec)

/-- 'tributarylaw21.ShardJoins', WHERE WHAT IT READS IS OF BULK AT MOST 1048576: true; the input reads as it did. -/
def shardJoinsUptoRow : OpenClaim := { program := "ytlhmbkjdfjoilaagreat", sum := "89f09549fe82552d6e35064291051f852787e119c4b510228f295de5282f5fbf", func := "tributary/tributarylaw21.ShardJoins", spec := "shardJoins", unfollowed := true, recurses := true, loops := true, apart := false, narrowed := true }
def ShardJoinsUptoSaid : Prop := shardJoinsUptoRow.holds Tryz.pinned (OpenSpec.upto shardJoinsSpec)

end Rows
end Go.Proofs.YtlhmbkjdfjoilaaGreat
