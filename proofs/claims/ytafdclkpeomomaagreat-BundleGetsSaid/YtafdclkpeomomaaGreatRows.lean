/-
  NARROWER THAN 'FOR EVERY INPUT', by the rows' own cells (each row's printed sentence says how): PackBytes: loops · PackUnlike: loops · PackPuts: loops · PackBack: loops · BundleOrder: loops.
  DERIVED. THE GIVEN ROWS OF THIS SEAT. 8 by the template 'for every input the law returns true; each argument reads behind the call as it read before'; 0 by the template 'total and deterministic' (their statements: YtafdclkpeomomaaGreatTotals.lean).
  GIVEN WITH THE SEED: the statements are not yours to turn. If you find one false, say at which input.
  Laid BY PROGRAM, IN A SANDBOX (cutbox-rows.mjs): the forced cells as the released guide's own fill.sh prints them over the translation 69e2cd6cc9ce4e1b… (all of the seat's roots in one cut). By AI agents, Wed Nov 11 2026. No macro, syntax, notation, axiom, sorry.
-/
import Derived.Test.YtafdclkpeomomaaGreatChecked
import GoSem.Claim
import GoSem.ClaimJoined
import GoSem.ClaimMapViews
import Derived.JoinedTies
import Derived.KernelRfl
namespace Go.Proofs.YtafdclkpeomomaaGreat
/- THE CELL 'sum', in the pinned program and in every row, IS THE sha256 OF THE DUMP (.gsa) THAT YtafdclkpeomomaaGreatProg.lean LOADS. Nothing in Lean hashes anything: it is a label: what it is worth is what the hold of that sum in a sandbox is worth. -/
noncomputable def Tryz.pinned : Pinned := { name := "ytafdclkpeomomaagreat", sum := "69e2cd6cc9ce4e1b1ee56b754feb72389aafd88cd0419cba123a50f8bec181f6", checked := Tryz.checked }
namespace Rows
def none {H : Type} : Left H := { results := [], args := [] }

/-- 'tributarylaw16.PackBytes': WHATEVER THE INPUT: true; the input reads as it did. -/
def packBytesSpec : ChangeSpec := { name := "packBytes", fn := fun _ => fun
  | [d] => { results := [.lit (.bool true)], args := [d] }
  | _ => none }
def packBytesRow : OpenClaim := { program := "ytafdclkpeomomaagreat", sum := "69e2cd6cc9ce4e1b1ee56b754feb72389aafd88cd0419cba123a50f8bec181f6", func := "tributary/tributarylaw16.PackBytes", spec := "packBytes", unfollowed := true, recurses := true, loops := true, apart := false }
def PackBytesSaid : Prop := packBytesRow.holds Tryz.pinned (OpenSpec.ofChange packBytesSpec)

/-- ITS FALSE NEIGHBOUR: 'it returns false'. Refute it at one input. -/
def packBytesWrong : ChangeSpec := { name := "packBytes", fn := fun _ => fun
  | [d] => { results := [.lit (.bool false)], args := [d] }
  | _ => none }
def PackBytesWrongFalsely : Prop := packBytesRow.holds Tryz.pinned (OpenSpec.ofChange packBytesWrong)

/-- 'tributarylaw16.PackReads': WHATEVER THE INPUT: true; the input reads as it did. -/
def packReadsSpec : ChangeSpec := { name := "packReads", fn := fun _ => fun
  | [d] => { results := [.lit (.bool true)], args := [d] }
  | _ => none }
def packReadsRow : OpenClaim := { program := "ytafdclkpeomomaagreat", sum := "69e2cd6cc9ce4e1b1ee56b754feb72389aafd88cd0419cba123a50f8bec181f6", func := "tributary/tributarylaw16.PackReads", spec := "packReads", unfollowed := true, recurses := true, apart := false }
def PackReadsSaid : Prop := packReadsRow.holds Tryz.pinned (OpenSpec.ofChange packReadsSpec)

/-- ITS FALSE NEIGHBOUR: 'it returns false'. Refute it at one input. -/
def packReadsWrong : ChangeSpec := { name := "packReads", fn := fun _ => fun
  | [d] => { results := [.lit (.bool false)], args := [d] }
  | _ => none }
def PackReadsWrongFalsely : Prop := packReadsRow.holds Tryz.pinned (OpenSpec.ofChange packReadsWrong)

/-- 'tributarylaw16.PackUnlike': WHATEVER THE INPUT: true; the input reads as it did. -/
def packUnlikeSpec : ChangeSpec := { name := "packUnlike", fn := fun _ => fun
  | [d1, d2] => { results := [.lit (.bool true)], args := [d1, d2] }
  | _ => none }
def packUnlikeRow : OpenClaim := { program := "ytafdclkpeomomaagreat", sum := "69e2cd6cc9ce4e1b1ee56b754feb72389aafd88cd0419cba123a50f8bec181f6", func := "tributary/tributarylaw16.PackUnlike", spec := "packUnlike", unfollowed := true, recurses := true, loops := true, apart := false }
def PackUnlikeSaid : Prop := packUnlikeRow.holds Tryz.pinned (OpenSpec.ofChange packUnlikeSpec)

/-- ITS FALSE NEIGHBOUR: 'it returns false'. Refute it at one input. -/
def packUnlikeWrong : ChangeSpec := { name := "packUnlike", fn := fun _ => fun
  | [d1, d2] => { results := [.lit (.bool false)], args := [d1, d2] }
  | _ => none }
def PackUnlikeWrongFalsely : Prop := packUnlikeRow.holds Tryz.pinned (OpenSpec.ofChange packUnlikeWrong)

/-- 'tributarylaw22.BundleGets': WHATEVER THE INPUT: true; the input reads as it did. -/
def bundleGetsSpec : ChangeSpec := { name := "bundleGets", fn := fun _ => fun
  | [d] => { results := [.lit (.bool true)], args := [d] }
  | _ => none }
def bundleGetsRow : OpenClaim := { program := "ytafdclkpeomomaagreat", sum := "69e2cd6cc9ce4e1b1ee56b754feb72389aafd88cd0419cba123a50f8bec181f6", func := "tributary/tributarylaw22.BundleGets", spec := "bundleGets", unfollowed := true, recurses := true, apart := false }
def BundleGetsSaid : Prop := bundleGetsRow.holds Tryz.pinned (OpenSpec.ofChange bundleGetsSpec)

/-- ITS FALSE NEIGHBOUR: 'it returns false'. Refute it at one input. -/
def bundleGetsWrong : ChangeSpec := { name := "bundleGets", fn := fun _ => fun
  | [d] => { results := [.lit (.bool false)], args := [d] }
  | _ => none }
def BundleGetsWrongFalsely : Prop := bundleGetsRow.holds Tryz.pinned (OpenSpec.ofChange bundleGetsWrong)

/-- 'tributarylaw16.PackPuts': WHATEVER THE INPUT: true; the input reads as it did. -/
def packPutsSpec : ChangeSpec := { name := "packPuts", fn := fun _ => fun
  | [d] => { results := [.lit (.bool true)], args := [d] }
  | _ => none }
def packPutsRow : OpenClaim := { program := "ytafdclkpeomomaagreat", sum := "69e2cd6cc9ce4e1b1ee56b754feb72389aafd88cd0419cba123a50f8bec181f6", func := "tributary/tributarylaw16.PackPuts", spec := "packPuts", unfollowed := true, recurses := true, loops := true, apart := false }
def PackPutsSaid : Prop := packPutsRow.holds Tryz.pinned (OpenSpec.ofChange packPutsSpec)

/-- ITS FALSE NEIGHBOUR: 'it returns false'. Refute it at one input. -/
def packPutsWrong : ChangeSpec := { name := "packPuts", fn := fun _ => fun
  | [d] => { results := [.lit (.bool false)], args := [d] }
  | _ => none }
def PackPutsWrongFalsely : Prop := packPutsRow.holds Tryz.pinned (OpenSpec.ofChange packPutsWrong)

/-- 'tributarylaw16.PackGets': WHATEVER THE INPUT: true; the input reads as it did. -/
def packGetsSpec : ChangeSpec := { name := "packGets", fn := fun _ => fun
  | [d1, d2] => { results := [.lit (.bool true)], args := [d1, d2] }
  | _ => none }
def packGetsRow : OpenClaim := { program := "ytafdclkpeomomaagreat", sum := "69e2cd6cc9ce4e1b1ee56b754feb72389aafd88cd0419cba123a50f8bec181f6", func := "tributary/tributarylaw16.PackGets", spec := "packGets", unfollowed := true, recurses := true, apart := false }
def PackGetsSaid : Prop := packGetsRow.holds Tryz.pinned (OpenSpec.ofChange packGetsSpec)

/-- ITS FALSE NEIGHBOUR: 'it returns false'. Refute it at one input. -/
def packGetsWrong : ChangeSpec := { name := "packGets", fn := fun _ => fun
  | [d1, d2] => { results := [.lit (.bool false)], args := [d1, d2] }
  | _ => none }
def PackGetsWrongFalsely : Prop := packGetsRow.holds Tryz.pinned (OpenSpec.ofChange packGetsWrong)

/-- 'tributarylaw16.PackBack': WHATEVER THE INPUT: true; the input reads as it did. -/
def packBackSpec : ChangeSpec := { name := "packBack", fn := fun _ => fun
  | [d] => { results := [.lit (.bool true)], args := [d] }
  | _ => none }
def packBackRow : OpenClaim := { program := "ytafdclkpeomomaagreat", sum := "69e2cd6cc9ce4e1b1ee56b754feb72389aafd88cd0419cba123a50f8bec181f6", func := "tributary/tributarylaw16.PackBack", spec := "packBack", unfollowed := true, recurses := true, loops := true, apart := false }
def PackBackSaid : Prop := packBackRow.holds Tryz.pinned (OpenSpec.ofChange packBackSpec)

/-- ITS FALSE NEIGHBOUR: 'it returns false'. Refute it at one input. -/
def packBackWrong : ChangeSpec := { name := "packBack", fn := fun _ => fun
  | [d] => { results := [.lit (.bool false)], args := [d] }
  | _ => none }
def PackBackWrongFalsely : Prop := packBackRow.holds Tryz.pinned (OpenSpec.ofChange packBackWrong)

/-- 'tributarylaw22.BundleOrder': WHATEVER THE INPUT: true; the input reads as it did. -/
def bundleOrderSpec : ChangeSpec := { name := "bundleOrder", fn := fun _ => fun
  | [d1, d2, d3] => { results := [.lit (.bool true)], args := [d1, d2, d3] }
  | _ => none }
def bundleOrderRow : OpenClaim := { program := "ytafdclkpeomomaagreat", sum := "69e2cd6cc9ce4e1b1ee56b754feb72389aafd88cd0419cba123a50f8bec181f6", func := "tributary/tributarylaw22.BundleOrder", spec := "bundleOrder", unfollowed := true, recurses := true, loops := true, apart := false }
def BundleOrderSaid : Prop := bundleOrderRow.holds Tryz.pinned (OpenSpec.ofChange bundleOrderSpec)

/-- ITS FALSE NEIGHBOUR: 'it returns false'. Refute it at one input. -/
def bundleOrderWrong : ChangeSpec := { name := "bundleOrder", fn := fun _ => fun
  | [d1, d2, d3] => { results := [.lit (.bool false)], args := [d1, d2, d3] }
  | _ => none }
def BundleOrderWrongFalsely : Prop := bundleOrderRow.holds Tryz.pinned (OpenSpec.ofChange bundleOrderWrong)

/- THE SECOND FORM. 'bulk': how many values and letters a reading holds, each counted each time it is reached (what is shared counts as often as it is met; a slice's spare places count too). A statement '..UptoSaid' is the law's where the arguments, and the package variables that the reading takes, are together of bulk at most 1048576: NARROWER than '..Said'. Prove '..Said' where nothing that the law and all that it calls make is longer than what came in: it says more and counts as full. Else prove '..UptoSaid'. A law counts once. -/
mutual
def uptoBulk {H : Type} : DataW H → Nat
  | .lit (.string bytes) => bytes.length + 1
  | .lit _ => 1
  | .nil => 1
  | .ptr d => uptoBulk d + 1
  | .slice elems spare => uptoBulkAll elems + uptoBulkAll spare + 1
  | .agg parts => uptoBulkAll parts + 1
  | .iface _ d => uptoBulk d + 1
  | .map entries => uptoBulkEntries entries + 1
  | .held _ => 1
def uptoBulkAll {H : Type} : List (DataW H) → Nat
  | [] => 0
  | d :: r => uptoBulk d + uptoBulkAll r
def uptoBulkEntries {H : Type} : List (Lit × DataW H) → Nat
  | [] => 0
  | x :: r => uptoBulkEntry x + uptoBulkEntries r
def uptoBulkEntry {H : Type} : Lit × DataW H → Nat
  | (.string bytes, d) => bytes.length + uptoBulk d + 1
  | (_, d) => uptoBulk d + 1
 end
def uptoSmall : (H : Type) → List (DataW H) → Bool := fun _ ds => decide (uptoBulkAll ds ≤ 1048576)
def OpenSpec.upto (s : _root_.Go.ChangeSpec) : _root_.Go.OpenSpec := { _root_.Go.OpenSpec.ofChange s with cond := some uptoSmall }

/-- 'tributarylaw16.PackBytes', WHERE WHAT IT READS IS OF BULK AT MOST 1048576: true; the input reads as it did. -/
def packBytesUptoRow : OpenClaim := { program := "ytafdclkpeomomaagreat", sum := "69e2cd6cc9ce4e1b1ee56b754feb72389aafd88cd0419cba123a50f8bec181f6", func := "tributary/tributarylaw16.PackBytes", spec := "packBytes", unfollowed := true, recurses := true, loops := true, apart := false, narrowed := true }
def PackBytesUptoSaid : Prop := packBytesUptoRow.holds Tryz.pinned (OpenSpec.upto packBytesSpec)

/-- 'tributarylaw16.PackReads', WHERE WHAT IT READS IS OF BULK AT MOST 1048576: true; the input reads as it did. -/
def packReadsUptoRow : OpenClaim := { program := "ytafdclkpeomomaagreat", sum := "69e2cd6cc9ce4e1b1ee56b754feb72389aafd88cd0419cba123a50f8bec181f6", func := "tributary/tributarylaw16.PackReads", spec := "packReads", unfollowed := true, recurses := true, apart := false, narrowed := true }
def PackReadsUptoSaid : Prop := packReadsUptoRow.holds Tryz.pinned (OpenSpec.upto packReadsSpec)

/-- 'tributarylaw16.PackUnlike', WHERE WHAT IT READS IS OF BULK AT MOST 1048576: true; the input reads as it did. -/
def packUnlikeUptoRow : OpenClaim := { program := "ytafdclkpeomomaagreat", sum := "69e2cd6cc9ce4e1b1ee56b754feb72389aafd88cd0419cba123a50f8bec181f6", func := "tributary/tributarylaw16.PackUnlike", spec := "packUnlike", unfollowed := true, recurses := true, loops := true, apart := false, narrowed := true }
def PackUnlikeUptoSaid : Prop := packUnlikeUptoRow.holds Tryz.pinned (OpenSpec.upto packUnlikeSpec)

/-- 'tributarylaw22.BundleGets', WHERE WHAT IT READS IS OF BULK AT MOST 1048576: true; the input reads as it did. -/
def bundleGetsUptoRow : OpenClaim := { program := "ytafdclkpeomomaagreat", sum := "69e2cd6cc9ce4e1b1ee56b754feb72389aafd88cd0419cba123a50f8bec181f6", func := "tributary/tributarylaw22.BundleGets", spec := "bundleGets", unfollowed := true, recurses := true, apart := false, narrowed := true }
def BundleGetsUptoSaid : Prop := bundleGetsUptoRow.holds Tryz.pinned (OpenSpec.upto bundleGetsSpec)

/-- 'tributarylaw16.PackPuts', WHERE WHAT IT READS IS OF BULK AT MOST 1048576: true; the input reads as it did. -/
def packPutsUptoRow : OpenClaim := { program := "ytafdclkpeomomaagreat", sum := "69e2cd6cc9ce4e1b1ee56b754feb72389aafd88cd0419cba123a50f8bec181f6", func := "tributary/tributarylaw16.PackPuts", spec := "packPuts", unfollowed := true, recurses := true, loops := true, apart := false, narrowed := true }
def PackPutsUptoSaid : Prop := packPutsUptoRow.holds Tryz.pinned (OpenSpec.upto packPutsSpec)

/-- 'tributarylaw16.PackGets', WHERE WHAT IT READS IS OF BULK AT MOST 1048576: true; the input reads as it did. -/
def packGetsUptoRow : OpenClaim := { program := "ytafdclkpeomomaagreat", sum := "69e2cd6cc9ce4e1b1ee56b754feb72389aafd88cd0419cba123a50f8bec181f6", func := "tributary/tributarylaw16.PackGets", spec := "packGets", unfollowed := true, recurses := true, apart := false, narrowed := true }
def PackGetsUptoSaid : Prop := packGetsUptoRow.holds Tryz.pinned (OpenSpec.upto packGetsSpec)

/-- 'tributarylaw16.PackBack', WHERE WHAT IT READS IS OF BULK AT MOST 1048576: true; the input reads as it did. -/
def packBackUptoRow : OpenClaim := { program := "ytafdclkpeomomaagreat", sum := "69e2cd6cc9ce4e1b1ee56b754feb72389aafd88cd0419cba123a50f8bec181f6", func := "tributary/tributarylaw16.PackBack", spec := "packBack", unfollowed := true, recurses := true, loops := true, apart := false, narrowed := true }
def PackBackUptoSaid : Prop := packBackUptoRow.holds Tryz.pinned (OpenSpec.upto packBackSpec)

/-- 'tributarylaw22.BundleOrder', WHERE WHAT IT READS IS OF BULK AT MOST 1048576: true; the input reads as it did. -/
def bundleOrderUptoRow : OpenClaim := { program := "ytafdclkpeomomaagreat", sum := "69e2cd6cc9ce4e1b1ee56b754feb72389aafd88cd0419cba123a50f8bec181f6", func := "tributary/tributarylaw22.BundleOrder", spec := "bundleOrder", unfollowed := true, recurses := true, loops := true, apart := false, narrowed := true }
def BundleOrderUptoSaid : Prop := bundleOrderUptoRow.holds Tryz.pinned (OpenSpec.upto bundleOrderSpec)

end Rows
end Go.Proofs.YtafdclkpeomomaaGreat
