/-
  NARROWER THAN 'FOR EVERY INPUT', by the rows' own cells (each row's printed sentence says how): BundleReady: loops · BundleSame: loops · BundleTurns: loops.
  DERIVED. THE GIVEN ROWS OF THIS SEAT. 3 by the template 'for every input the law returns true; each argument reads behind the call as it read before'; 0 by the template 'total and deterministic' (their statements: YtclfajhdonabhaaGreatTotals.lean).
  GIVEN WITH THE SEED: the statements are not yours to turn. If you find one false, say at which input.
  Laid BY PROGRAM, IN A SANDBOX (cutbox-rows.mjs): the forced cells as the released guide's own fill.sh prints them over the translation 1dca75c2a40aa096… (all of the seat's roots in one cut). By AI agents, Wed Nov 11 2026. No macro, syntax, notation, axiom, sorry.
-/
import Derived.Test.YtclfajhdonabhaaGreatChecked
import GoSem.Claim
import GoSem.ClaimJoined
import GoSem.ClaimMapViews
import Derived.JoinedTies
import Derived.KernelRfl
namespace Go.Proofs.YtclfajhdonabhaaGreat
/- THE CELL 'sum', in the pinned program and in every row, IS THE sha256 OF THE DUMP (.gsa) THAT YtclfajhdonabhaaGreatProg.lean LOADS. Nothing in Lean hashes anything: it is a label: what it is worth is what the hold of that sum in a sandbox is worth. -/
noncomputable def Tryz.pinned : Pinned := { name := "ytclfajhdonabhaagreat", sum := "1dca75c2a40aa0962f552f0ffa99bee5f0acab81f8b03fc6e78788b775446211", checked := Tryz.checked }
namespace Rows
def none {H : Type} : Left H := { results := [], args := [] }

/-- 'tributarylaw22.BundleReady': WHATEVER THE INPUT: true; the input reads as it did. -/
def bundleReadySpec : ChangeSpec := { name := "bundleReady", fn := fun _ => fun
  | [d1, d2] => { results := [.lit (.bool true)], args := [d1, d2] }
  | _ => none }
def bundleReadyRow : OpenClaim := { program := "ytclfajhdonabhaagreat", sum := "1dca75c2a40aa0962f552f0ffa99bee5f0acab81f8b03fc6e78788b775446211", func := "tributary/tributarylaw22.BundleReady", spec := "bundleReady", unfollowed := true, recurses := true, loops := true, apart := false }
def BundleReadySaid : Prop := bundleReadyRow.holds Tryz.pinned (OpenSpec.ofChange bundleReadySpec)

/-- ITS FALSE NEIGHBOUR: 'it returns false'. Refute it at one input. -/
def bundleReadyWrong : ChangeSpec := { name := "bundleReady", fn := fun _ => fun
  | [d1, d2] => { results := [.lit (.bool false)], args := [d1, d2] }
  | _ => none }
def BundleReadyWrongFalsely : Prop := bundleReadyRow.holds Tryz.pinned (OpenSpec.ofChange bundleReadyWrong)

/-- 'tributarylaw22.BundleSame': WHATEVER THE INPUT: true; the input reads as it did. -/
def bundleSameSpec : ChangeSpec := { name := "bundleSame", fn := fun _ => fun
  | [d1, d2] => { results := [.lit (.bool true)], args := [d1, d2] }
  | _ => none }
def bundleSameRow : OpenClaim := { program := "ytclfajhdonabhaagreat", sum := "1dca75c2a40aa0962f552f0ffa99bee5f0acab81f8b03fc6e78788b775446211", func := "tributary/tributarylaw22.BundleSame", spec := "bundleSame", unfollowed := true, recurses := true, loops := true, apart := false }
def BundleSameSaid : Prop := bundleSameRow.holds Tryz.pinned (OpenSpec.ofChange bundleSameSpec)

/-- ITS FALSE NEIGHBOUR: 'it returns false'. Refute it at one input. -/
def bundleSameWrong : ChangeSpec := { name := "bundleSame", fn := fun _ => fun
  | [d1, d2] => { results := [.lit (.bool false)], args := [d1, d2] }
  | _ => none }
def BundleSameWrongFalsely : Prop := bundleSameRow.holds Tryz.pinned (OpenSpec.ofChange bundleSameWrong)

/-- 'tributarylaw22.BundleTurns': WHATEVER THE INPUT: true; the input reads as it did. -/
def bundleTurnsSpec : ChangeSpec := { name := "bundleTurns", fn := fun _ => fun
  | [d1, d2] => { results := [.lit (.bool true)], args := [d1, d2] }
  | _ => none }
def bundleTurnsRow : OpenClaim := { program := "ytclfajhdonabhaagreat", sum := "1dca75c2a40aa0962f552f0ffa99bee5f0acab81f8b03fc6e78788b775446211", func := "tributary/tributarylaw22.BundleTurns", spec := "bundleTurns", unfollowed := true, recurses := true, loops := true, apart := false }
def BundleTurnsSaid : Prop := bundleTurnsRow.holds Tryz.pinned (OpenSpec.ofChange bundleTurnsSpec)

/-- ITS FALSE NEIGHBOUR: 'it returns false'. Refute it at one input. -/
def bundleTurnsWrong : ChangeSpec := { name := "bundleTurns", fn := fun _ => fun
  | [d1, d2] => { results := [.lit (.bool false)], args := [d1, d2] }
  | _ => none }
def BundleTurnsWrongFalsely : Prop := bundleTurnsRow.holds Tryz.pinned (OpenSpec.ofChange bundleTurnsWrong)

/- THE SECOND FORM. 'bulk': how many values and letters a reading holds, each counted each time it is reached (what is shared counts as often as it is met; a slice's spare places count too). A statement '..UptoSaid' is the law's where the arguments, and the package variables that the reading takes, are together of bulk at most 1048576: NARROWER than '..Said'. Prove '..Said' where nothing that the law and all that it calls make is longer than what came in: it says more and counts as full. Else prove '..UptoSaid'. A law counts once. -/
mutual
def uptoBulk {H : Type} : DataW H → Nat
  | .lit (.string bytes) => bytes.length + 1
  | .lit _ => 1
  | .nil => 1
  | .ptr d => uptoBulk d + 1
  | .slice elems spare => uptoBulkAll elems + uptoBulkAll spare + 1
  | .agg parts => uptoBulkAll parts + 1
  | .iface _ d => uptoBulk d + 1
  | .map entries => uptoBulkEntries entries + 1
  | .held _ => 1
def uptoBulkAll {H : Type} : List (DataW H) → Nat
  | [] => 0
  | d :: r => uptoBulk d + uptoBulkAll r
def uptoBulkEntries {H : Type} : List (Lit × DataW H) → Nat
  | [] => 0
  | x :: r => uptoBulkEntry x + uptoBulkEntries r
def uptoBulkEntry {H : Type} : Lit × DataW H → Nat
  | (.string bytes, d) => bytes.length + uptoBulk d + 1
  | (_, d) => uptoBulk d + 1
 end
def uptoSmall : (H : Type) → List (DataW H) → Bool := fun _ ds => decide (uptoBulkAll ds ≤ 1048576)
def OpenSpec.upto (s : _root_.Go.ChangeSpec) : _root_.Go.OpenSpec := { _root_.Go.OpenSpec.ofChange s with cond := some uptoSmall }

/-- 'tributarylaw22.BundleReady', WHERE WHAT IT READS IS OF BULK AT MOST 1048576: true; the input reads as it did. -/
def bundleReadyUptoRow : OpenClaim := { program := "ytclfajhdonabhaagreat", sum := "1dca75c2a40aa0962f552f0ffa99bee5f0acab81f8b03fc6e78788b775446211", func := "tributary/tributarylaw22.BundleReady", spec := "bundleReady", unfollowed := true, recurses := true, loops := true, apart := false, narrowed := true }
def BundleReadyUptoSaid : Prop := bundleReadyUptoRow.holds Tryz.pinned (OpenSpec.upto bundleReadySpec)

/-- 'tributarylaw22.BundleSame', WHERE WHAT IT READS IS OF BULK AT MOST 1048576: true; the input reads as it did. -/
def bundleSameUptoRow : OpenClaim := { program := "ytclfajhdonabhaagreat", sum := "1dca75c2a40aa0962f552f0ffa99bee5f0acab81f8b03fc6e78788b775446211", func := "tributary/tributarylaw22.BundleSame", spec := "bundleSame", unfollowed := true, recurses := true, loops := true, apart := false, narrowed := true }
def BundleSameUptoSaid : Prop := bundleSameUptoRow.holds Tryz.pinned (OpenSpec.upto bundleSameSpec)

/-- 'tributarylaw22.BundleTurns', WHERE WHAT IT READS IS OF BULK AT MOST 1048576: true; the input reads as it did. -/
def bundleTurnsUptoRow : OpenClaim := { program := "ytclfajhdonabhaagreat", sum := "1dca75c2a40aa0962f552f0ffa99bee5f0acab81f8b03fc6e78788b775446211", func := "tributary/tributarylaw22.BundleTurns", spec := "bundleTurns", unfollowed := true, recurses := true, loops := true, apart := false, narrowed := true }
def BundleTurnsUptoSaid : Prop := bundleTurnsUptoRow.holds Tryz.pinned (OpenSpec.upto bundleTurnsSpec)

end Rows
end Go.Proofs.YtclfajhdonabhaaGreat
