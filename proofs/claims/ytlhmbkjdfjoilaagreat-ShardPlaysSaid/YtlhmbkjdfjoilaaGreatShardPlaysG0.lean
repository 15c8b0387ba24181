/- Short names for words of the kit. -/
import Derived.Lib.Hide
namespace Go.Proofs.YtlhmbkjdfjoilaaGreat
open Go
theorem ah {p : Prop} (h : p) : RowKit.Hid p := h
theorem aO {α : Type _} (l : List α) (i : Nat) (a : α) : l.toArray.setIfInBounds i a = (l.set i a).toArray := List.setIfInBounds_toArray l i a
theorem aN {α : Type _} {x : α} {xs : List α} {a : α} : (x :: xs).set 0 a = a :: xs := List.set_cons_zero
theorem aJ {α : Type _} {x : α} {xs : List α} {n : Nat} {a : α} : (x :: xs).set (n + 1) a = x :: xs.set n a := List.set_cons_succ
end Go.Proofs.YtlhmbkjdfjoilaaGreat
