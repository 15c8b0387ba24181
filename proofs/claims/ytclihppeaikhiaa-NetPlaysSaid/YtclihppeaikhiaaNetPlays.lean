/- tributarylaw26.NetPlays: the walk. -/
import Derived.Test.YtclihppeaikhiaaNetActTk
namespace Go.Proofs.Ytclihppeaikhiaa
open Go.RowKit

def actL (cap : Nat) (l : List Par) (x : ActI) : List Par :=
  if x.kind.toNat = 0 then sndL cap l (x.dst, x.b) else if x.kind.toNat = 1 then tkL l x.k else if x.kind.toNat = 2 then dbL cap l x.k else spL l x.k x.dst x.y
theorem act_any (N : Nat → Prop) (w : World) (hN : ∀ k, N k → k < w.heap.size) (nb ch cap : Nat) (buf : List Value) (l : List Par) (h : NetAt w nb ch cap buf l) (aL : Option Addr) (cL : Nat) (hv : RefAt N w (.slice aL l.length cL) l) (x : ActI) (ab : Option Addr) (cb : Nat) (hb : Rd w (.slice ab x.b.length cb) x.b.length (bV x.b)) (hbl : x.b.length ≤ 300) (hbn : NotIn N x.b.length (.slice ab x.b.length cb)) :
    Calls Try.prog 39 #[.pointer (some ⟨nb, 0, none⟩), .agg #[.int .i64 cap, .slice aL l.length cL], .agg #[.int .u8 (x.kind.toNat : Int), .int .i64 x.k, .int .i64 x.dst, .slice ab x.b.length cb, .int .u8 (x.y.toNat : Int)]] w (ActPost N w nb ch cap (actL cap l x)) := by
  unfold actL
  by_cases h0 : x.kind.toNat = 0
  · rw [if_pos h0, h0]
    exact act_send N w hN nb ch cap buf l h aL cL hv x.k x.dst x.b ab cb hb hbl hbn x.y
  · rw [if_neg h0]
    by_cases h1 : x.kind.toNat = 1
    · rw [if_pos h1, h1]
      exact act_take N w hN nb ch cap buf l h aL cL hv x.k x.dst x.b.length ab cb x.y
    · rw [if_neg h1]
      by_cases h2 : x.kind.toNat = 2
      · rw [if_pos h2, h2]
        exact act_double N w hN nb ch cap buf l h aL cL hv x.k x.dst x.b ab cb hb hbl hbn x.y
      · rw [if_neg h2]
        exact act_spoil N w hN nb ch cap buf l h aL cL hv x.k x.dst x.b ab cb hb hbl hbn x.y _ (beq_eq_false_iff_ne.2 (by omega)) (beq_eq_false_iff_ne.2 (by omega)) (beq_eq_false_iff_ne.2 (by omega))

def PlayRel (W : World) (nb ch cap n7 : Nat) (i : Value) (n : Nat) (wr : World) : Prop :=
  ∃ (k : Nat) (buf : List Value) (l : List Par) (aL : Option Addr) (cL : Nat), k ≤ n ∧ i = .int .i64 k ∧ NetAt wr nb ch cap buf l ∧ wr.heap[n7]? = some (.cells #[.int .i64 cap, .slice aL l.length cL] 76 (0, 0)) ∧ RefAt (fun k => k = n7) wr (.slice aL l.length cL) l ∧ Frm (fun _ => False) W wr
def PlayMid (W : World) (nb ch cap n7 : Nat) (v9 v10 : Value) (wd : World) : Prop :=
  ∃ (n9 : Nat) (buf : List Value) (l : List Par) (aL : Option Addr) (cL : Nat), v9 = .pointer (some ⟨n9, 0, none⟩) ∧ v10 = .bool true ∧ NetAt wd nb ch cap buf l ∧ wd.heap[n9]? = some (.cells #[.int .i64 cap, .slice aL l.length cL] 76 (0, 0)) ∧ RefAt (fun k => k = n7) wd (.slice aL l.length cL) l ∧
    (∃ p q, wd.heap[n7]? = some (.cells #[p, q] 76 (0, 0))) ∧ n9 ≠ n7 ∧ Frm (fun _ => False) W wd

end Go.Proofs.Ytclihppeaikhiaa
