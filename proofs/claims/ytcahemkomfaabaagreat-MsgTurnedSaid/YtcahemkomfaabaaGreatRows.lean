/-
  NARROWER THAN 'FOR EVERY INPUT', by the rows' own cells (each row's printed sentence says how): MsgRight: loops · MsgEncodes: loops · MsgTurned: loops · MsgSame: loops · BundleOrder: loops.
  DERIVED. THE GIVEN ROWS OF THIS SEAT. 6 by the template 'for every input the law returns true; each argument reads behind the call as it read before'; 0 by the template 'total and deterministic' (their statements: YtcahemkomfaabaaGreatTotals.lean).
  GIVEN WITH THE SEED: the statements are not yours to turn. If you find one false, say at which input.
  Laid BY PROGRAM, IN A SANDBOX (cutbox-rows.mjs): the forced cells as the released guide's own fill.sh prints them over the translation ffd3c5d092cc085c… (all of the seat's roots in one cut). By AI agents, Wed Nov 11 2026. No macro, syntax, notation, axiom, sorry.
-/
import Derived.Test.YtcahemkomfaabaaGreatChecked
import GoSem.Claim
import GoSem.ClaimJoined
import GoSem.ClaimMapViews
import Derived.JoinedTies
import Derived.KernelRfl
namespace Go.Proofs.YtcahemkomfaabaaGreat
/- THE CELL 'sum', in the pinned program and in every row, IS THE sha256 OF THE DUMP (.gsa) THAT YtcahemkomfaabaaGreatProg.lean LOADS. Nothing in Lean hashes anything: it is a label: what it is worth is what the hold of that sum in a sandbox is worth. -/
noncomputable def Tryz.pinned : Pinned := { name := "ytcahemkomfaabaagreat", sum := "ffd3c5d092cc085c8eb3a7bb30b13b3d77e03de9dff5bc4deb2014da7267164d", checked := Tryz.checked }
namespace Rows
def none {H : Type} : Left H := { results := [], args := [] }

/-- 'tributarylaw25.MsgRight': WHATEVER THE INPUT: true; the input reads as it did. -/
def msgRightSpec : ChangeSpec := { name := "msgRight", fn := fun _ => fun
  | [d] => { results := [.lit (.bool true)], args := [d] }
  | _ => none }
def msgRightRow : OpenClaim := { program := "ytcahemkomfaabaagreat", sum := "ffd3c5d092cc085c8eb3a7bb30b13b3d77e03de9dff5bc4deb2014da7267164d", func := "tributary/tributarylaw25.MsgRight", spec := "msgRight", unfollowed := true, recurses := true, loops := true, apart := false }
def MsgRightSaid : Prop := msgRightRow.holds Tryz.pinned (OpenSpec.ofChange msgRightSpec)

/-- ITS FALSE NEIGHBOUR: 'it returns false'. Refute it at one input. -/
def msgRightWrong : ChangeSpec := { name := "msgRight", fn := fun _ => fun
  | [d] => { results := [.lit (.bool false)], args := [d] }
  | _ => none }
def MsgRightWrongFalsely : Prop := msgRightRow.holds Tryz.pinned (OpenSpec.ofChange msgRightWrong)

/-- 'tributarylaw25.MsgEncodes': WHATEVER THE INPUT: true; the input reads as it did. -/
def msgEncodesSpec : ChangeSpec := { name := "msgEncodes", fn := fun _ => fun
  | [d] => { results := [.lit (.bool true)], args := [d] }
  | _ => none }
def msgEncodesRow : OpenClaim := { program := "ytcahemkomfaabaagreat", sum := "ffd3c5d092cc085c8eb3a7bb30b13b3d77e03de9dff5bc4deb2014da7267164d", func := "tributary/tributarylaw25.MsgEncodes", spec := "msgEncodes", unfollowed := true, recurses := true, loops := true, apart := false }
def MsgEncodesSaid : Prop := msgEncodesRow.holds Tryz.pinned (OpenSpec.ofChange msgEncodesSpec)

/-- ITS FALSE NEIGHBOUR: 'it returns false'. Refute it at one input. -/
def msgEncodesWrong : ChangeSpec := { name := "msgEncodes", fn := fun _ => fun
  | [d] => { results := [.lit (.bool false)], args := [d] }
  | _ => none }
def MsgEncodesWrongFalsely : Prop := msgEncodesRow.holds Tryz.pinned (OpenSpec.ofChange msgEncodesWrong)

/-- 'tributarylaw25.MsgDecodes': WHATEVER THE INPUT: true; the input reads as it did. -/
def msgDecodesSpec : ChangeSpec := { name := "msgDecodes", fn := fun _ => fun
  | [d] => { results := [.lit (.bool true)], args := [d] }
  | _ => none }
def msgDecodesRow : OpenClaim := { program := "ytcahemkomfaabaagreat", sum := "ffd3c5d092cc085c8eb3a7bb30b13b3d77e03de9dff5bc4deb2014da7267164d", func := "tributary/tributarylaw25.MsgDecodes", spec := "msgDecodes", unfollowed := true, recurses := true, apart := false }
def MsgDecodesSaid : Prop := msgDecodesRow.holds Tryz.pinned (OpenSpec.ofChange msgDecodesSpec)

/-- ITS FALSE NEIGHBOUR: 'it returns false'. Refute it at one input. -/
def msgDecodesWrong : ChangeSpec := { name := "msgDecodes", fn := fun _ => fun
  | [d] => { results := [.lit (.bool false)], args := [d] }
  | _ => none }
def MsgDecodesWrongFalsely : Prop := msgDecodesRow.holds Tryz.pinned (OpenSpec.ofChange msgDecodesWrong)

/-- 'tributarylaw25.MsgTurned': WHATEVER THE INPUT: true; the input reads as it did. -/
def msgTurnedSpec : ChangeSpec := { name := "msgTurned", fn := fun _ => fun
  | [d1, d2, d3, d4] => { results := [.lit (.bool true)], args := [d1, d2, d3, d4] }
  | _ => none }
def msgTurnedRow : OpenClaim := { program := "ytcahemkomfaabaagreat", sum := "ffd3c5d092cc085c8eb3a7bb30b13b3d77e03de9dff5bc4deb2014da7267164d", func := "tributary/tributarylaw25.MsgTurned", spec := "msgTurned", unfollowed := true, recurses := true, loops := true, apart := false }
def MsgTurnedSaid : Prop := msgTurnedRow.holds Tryz.pinned (OpenSpec.ofChange msgTurnedSpec)

/-- ITS FALSE NEIGHBOUR: 'it returns false'. Refute it at one input. -/
def msgTurnedWrong : ChangeSpec := { name := "msgTurned", fn := fun _ => fun
  | [d1, d2, d3, d4] => { results := [.lit (.bool false)], args := [d1, d2, d3, d4] }
  | _ => none }
def MsgTurnedWrongFalsely : Prop := msgTurnedRow.holds Tryz.pinned (OpenSpec.ofChange msgTurnedWrong)

/-- 'tributarylaw25.MsgSame': WHATEVER THE INPUT: true; the input reads as it did. -/
def msgSameSpec : ChangeSpec := { name := "msgSame", fn := fun _ => fun
  | [d1, d2] => { results := [.lit (.bool true)], args := [d1, d2] }
  | _ => none }
def msgSameRow : OpenClaim := { program := "ytcahemkomfaabaagreat", sum := "ffd3c5d092cc085c8eb3a7bb30b13b3d77e03de9dff5bc4deb2014da7267164d", func := "tributary/tributarylaw25.MsgSame", spec := "msgSame", unfollowed := true, recurses := true, loops := true, apart := false }
def MsgSameSaid : Prop := msgSameRow.holds Tryz.pinned (OpenSpec.ofChange msgSameSpec)

/-- ITS FALSE NEIGHBOUR: 'it returns false'. Refute it at one input. -/
def msgSameWrong : ChangeSpec := { name := "msgSame", fn := fun _ => fun
  | [d1, d2] => { results := [.lit (.bool false)], args := [d1, d2] }
  | _ => none }
def MsgSameWrongFalsely : Prop := msgSameRow.holds Tryz.pinned (OpenSpec.ofChange msgSameWrong)

/-- 'tributarylaw22.BundleOrder': WHATEVER THE INPUT: true; the input reads as it did. -/
def bundleOrderSpec : ChangeSpec := { name := "bundleOrder", fn := fun _ => fun
  | [d1, d2, d3] => { results := [.lit (.bool true)], args := [d1, d2, d3] }
  | _ => none }
def bundleOrderRow : OpenClaim := { program := "ytcahemkomfaabaagreat", sum := "ffd3c5d092cc085c8eb3a7bb30b13b3d77e03de9dff5bc4deb2014da7267164d", func := "tributary/tributarylaw22.BundleOrder", spec := "bundleOrder", unfollowed := true, recurses := true, loops := true, apart := false }
def BundleOrderSaid : Prop := bundleOrderRow.holds Tryz.pinned (OpenSpec.ofChange bundleOrderSpec)

/-- ITS FALSE NEIGHBOUR: 'it returns false'. Refute it at one input. -/
def bundleOrderWrong : ChangeSpec := { name := "bundleOrder", fn := fun _ => fun
  | [d1, d2, d3] => { results := [.lit (.bool false)], args := [d1, d2, d3] }
  | _ => none }
def BundleOrderWrongFalsely : Prop := bundleOrderRow.holds Tryz.pinned (OpenSpec.ofChange bundleOrderWrong)

/- THE SECOND FORM. 'bulk': how many values and letters a reading holds, each counted each time it is reached (what is shared counts as often as it is met; a slice's spare places count too). A statement '..UptoSaid' is the law's where the arguments, and the package variables that the reading takes, are together of bulk at most 1048576: NARROWER than '..Said'. Prove '..Said' where nothing that the law and all that it calls make is longer than what came in: it says more and counts as full. Else prove '..UptoSaid'. A law counts once. -/
mutual
def uptoBulk {H : Type} : DataW H → Nat
  | .lit (.string bytes) => bytes.length + 1
  | .lit _ => 1
  | .nil => 1
  | .ptr d => uptoBulk d + 1
  | .slice elems spare => uptoBulkAll elems + uptoBulkAll spare + 1
  | .agg parts => uptoBulkAll parts + 1
  | .iface _ d => uptoBulk d + 1
  | .map entries => uptoBulkEntries entries + 1
  | .held _ => 1
def uptoBulkAll {H : Type} : List (DataW H) → Nat
  | [] => 0
  | d :: r => uptoBulk d + uptoBulkAll r
def uptoBulkEntries {H : Type} : List (Lit × DataW H) → Nat
  | [] => 0
  | x :: r => uptoBulkEntry x + uptoBulkEntries r
def uptoBulkEntry {H : Type} : Lit × DataW H → Nat
  | (.string bytes, d) => bytes.length + uptoBulk d + 1
  | (_, d) => uptoBulk d + 1
 end
def uptoSmall : (H : Type) → List (DataW H) → Bool := fun _ ds => decide (uptoBulkAll ds ≤ 1048576)
def OpenSpec.upto (s : _root_.Go.ChangeSpec) : _root_.Go.OpenSpec := { _root_.Go.OpenSpec.ofChange s with cond := some uptoSmall }

/-- 'tributarylaw25.MsgRight', WHERE WHAT IT READS IS OF BULK AT MOST 1048576: true; the input reads as it did. -/
def msgRightUptoRow : OpenClaim := { program := "ytcahemkomfaabaagreat", sum := "ffd3c5d092cc085c8eb3a7bb30b13b3d77e03de9dff5bc4deb2014da7267164d", func := "tributary/tributarylaw25.MsgRight", spec := "msgRight", unfollowed := true, recurses := true, loops := true, apart := false, narrowed := true }
def MsgRightUptoSaid : Prop := msgRightUptoRow.holds Tryz.pinned (OpenSpec.upto msgRightSpec)

/-- 'tributarylaw25.MsgEncodes', WHERE WHAT IT READS IS OF BULK AT MOST 1048576: true; the input reads as it did. -/
def msgEncodesUptoRow : OpenClaim := { program := "ytcahemkomfaabaagreat", sum := "ffd3c5d092cc085c8eb3a7bb30b13b3d77e03de9dff5bc4deb2014da7267164d", func := "tributary/tributarylaw25.MsgEncodes", spec := "msgEncodes", unfollowed := true, recurses := true, loops := true, apart := false, narrowed := true }
def MsgEncodesUptoSaid : Prop := msgEncodesUptoRow.holds Tryz.pinned (OpenSpec.upto msgEncodesSpec)

/-- 'tributarylaw25.MsgDecodes', WHERE WHAT IT READS IS OF BULK AT MOST 1048576: true; the input reads as it did. -/
def msgDecodesUptoRow : OpenClaim := { program := "ytcahemkomfaabaagreat", sum := "ffd3c5d092cc085c8eb3a7bb30b13b3d77e03de9dff5bc4deb2014da7267164d", func := "tributary/tributarylaw25.MsgDecodes", spec := "msgDecodes", unfollowed := true, recurses := true, apart := false, narrowed := true }
def MsgDecodesUptoSaid : Prop := msgDecodesUptoRow.holds Tryz.pinned (OpenSpec.upto msgDecodesSpec)

/-- 'tributarylaw25.MsgTurned', WHERE WHAT IT READS IS OF BULK AT MOST 1048576: true; the input reads as it did. -/
def msgTurnedUptoRow : OpenClaim := { program := "ytcahemkomfaabaagreat", sum := "ffd3c5d092cc085c8eb3a7bb30b13b3d77e03de9dff5bc4deb2014da7267164d", func := "tributary/tributarylaw25.MsgTurned", spec := "msgTurned", unfollowed := true, recurses := true, loops := true, apart := false, narrowed := true }
def MsgTurnedUptoSaid : Prop := msgTurnedUptoRow.holds Tryz.pinned (OpenSpec.upto msgTurnedSpec)

/-- 'tributarylaw25.MsgSame', WHERE WHAT IT READS IS OF BULK AT MOST 1048576: true; the input reads as it did. -/
def msgSameUptoRow : OpenClaim := { program := "ytcahemkomfaabaagreat", sum := "ffd3c5d092cc085c8eb3a7bb30b13b3d77e03de9dff5bc4deb2014da7267164d", func := "tributary/tributarylaw25.MsgSame", spec := "msgSame", unfollowed := true, recurses := true, loops := true, apart := false, narrowed := true }
def MsgSameUptoSaid : Prop := msgSameUptoRow.holds Tryz.pinned (OpenSpec.upto msgSameSpec)

/-- 'tributarylaw22.BundleOrder', WHERE WHAT IT READS IS OF BULK AT MOST 1048576: true; the input reads as it did. -/
def bundleOrderUptoRow : OpenClaim := { program := "ytcahemkomfaabaagreat", sum := "ffd3c5d092cc085c8eb3a7bb30b13b3d77e03de9dff5bc4deb2014da7267164d", func := "tributary/tributarylaw22.BundleOrder", spec := "bundleOrder", unfollowed := true, recurses := true, loops := true, apart := false, narrowed := true }
def BundleOrderUptoSaid : Prop := bundleOrderUptoRow.holds Tryz.pinned (OpenSpec.upto bundleOrderSpec)

end Rows
end Go.Proofs.YtcahemkomfaabaaGreat
