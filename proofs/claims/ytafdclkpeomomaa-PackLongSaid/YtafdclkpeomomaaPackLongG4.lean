/- Words for the law PackLong: R6By. -/
import Derived.Test.YtafdclkpeomomaaPackLongG3
set_option linter.unusedSimpArgs false
set_option linter.unusedVariables false
/- tributaryref06: By: the walk (printed by wip/r6bygen.py). -/
namespace Go.Proofs.Ytafdclkpeomomaa
open Go.RowKit

theorem OwnAt.base {w0 w1 w : World} {e : TypeId} {size : Nat} {v : Value} {n : Nat} {xs : List Value} (h : OwnAt w1 w e size v n xs) (f : Frm NoS w0 w1) : OwnAt w0 w e size v n xs :=
  ⟨h.own, (fun k hk => Nat.le_trans f.size (h.new k hk)), f.then1 h.frm⟩
def ByRel (w : World) (a b : RunL) (how : Int) (v x o : Value) (ww : World) : Prop :=
  ∃ (q : Option Int) (out : RunL), OwnAt w ww 109 2 v out.length (ruC out) ∧ ByInv a b how out q ∧ out.length + ahead (endsL a ++ endsL b) q ≤ (endsL a ++ endsL b).length ∧ x = .int .i64 (q.getD 0) ∧ o = .bool q.isSome
theorem wrap_nat4 {n : Nat} (h : n + 1 ≤ 1000000) : wrap64 (n : Int) = n := by unfold wrap64; omega
theorem wrap_m1 {m : Int} (h1 : 1 ≤ m) (h2 : m ≤ 1099511627777) : wrap64 (m - 1) = m - 1 := by unfold wrap64; omega
theorem endsL_bd {l : RunL} (h : RightR l) : ∀ x ∈ endsL l, 1 ≤ x ∧ x ≤ 1099511627777 := by
  intro x hx
  obtain ⟨r, hr, h1⟩ := endsL_mem.1 hx
  have := runsFrom_ge h.1 r hr
  have := h.2 r hr
  omega
theorem ahead_step {l : List Int} {m : Int} {q : Option Int} {n n' : Nat} (h : ahead l (nextL l m) < ahead l (some m)) (hq : nextL l m = q) (h1 : n + ahead l (some m) ≤ l.length) (h2 : n' ≤ n + 1) : n' + ahead l q ≤ l.length := by
  subst hq; omega

end Go.Proofs.Ytafdclkpeomomaa
