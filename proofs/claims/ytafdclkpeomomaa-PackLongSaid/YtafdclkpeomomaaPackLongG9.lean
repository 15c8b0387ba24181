/- Words for the law PackLong: R8b. -/
import Derived.Test.YtafdclkpeomomaaPackLongG8
set_option linter.unusedSimpArgs false
set_option linter.unusedVariables false
/- tributaryref08: right: the walk (printed by wip/treegen.py). -/
namespace Go.Proofs.Ytafdclkpeomomaa
open Go.RowKit

theorem Calls.frm_of_same {P : Program} {f : FuncId} {args : Array Value} {w : World} {v : Value} (h : Calls P f args w fun e w' => e = .returned v ∧ w' = w) : Calls P f args w fun e w' => e = .returned v ∧ Frm (fun _ => False) w w' :=
  h.mono fun _ _ ⟨h1, h2⟩ => ⟨h1, by rw [h2]; exact Frm.refl _ _⟩
theorem geq_str (t : TypeId) (a b : ByteArray) : binOp .geq t (.string a) (.string b) = pure (.bool !(Op.bytesLess a.toList b.toList)) := by simp [binOp, Op.stringOp]
theorem size_sub : ∀ (n : Nat) {ks : KidsL} {key : ByteArray} {es : List Ent} {sub rest : KidsL}, ks.drop n = .cons key es sub rest → sizeK sub < sizeK ks
  | 0, .cons _ _ _ _, _, _, _, _, h => by
    cases h
    simp only [sizeK]
    omega
  | 0, .nil, _, _, _, _, h => by cases h
  | n + 1, .nil, _, _, _, _, h => by cases h
  | n + 1, .cons _ _ _ r, _, _, _, _, h => by
    have h1 : r.drop n = _ := h
    have := size_sub n h1
    simp only [sizeK]
    omega
theorem rightKs_drop {ks : KidsL} {d n : Nat} {key : ByteArray} {es : List Ent} {sub rest : KidsL} {p : Option ByteArray} (h : ks.drop n = .cons key es sub rest) : rightKs (ks.drop n) d p = (keyB key && ltK p key && !isNil es sub && rightT d es sub && rightKs (ks.drop (n + 1)) d (some key)) := by
  rw [h, KidsL.drop_succ n ks h, rightKs_cons]
def PrevK (ks : KidsL) (n : Nat) (p : Option ByteArray) : Prop := (n = 0 ∧ p = none) ∨ ∃ j key es sub rest, n = j + 1 ∧ ks.drop j = .cons key es sub rest ∧ p = some key
theorem isNil_int (es : List Ent) (ks : KidsL) : ((((es.length : Int) + (ks.len : Int)) == 0)) = isNil es ks := by
  rw [Bool.eq_iff_iff]
  simp only [isNil, beq_iff_eq, decide_eq_true_eq]
  omega
theorem d_small {d : Nat} (h : d ≤ 100) : wrap64 (d : Int) = d := by unfold wrap64; omega
end Go.Proofs.Ytafdclkpeomomaa
