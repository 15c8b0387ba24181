/- net and tributaryref26.Net: each deed for whatever index, told by one function of the list. -/
import Derived.Test.YtclihppeaikhiaaNetActs
namespace Go.Proofs.Ytclihppeaikhiaa
open Go.RowKit

instance : Inhabited Par := ⟨(0, [])⟩
def inb (l : List Par) (k : Int) : Bool := decide (0 ≤ k ∧ k < l.length)
theorem inb_yes {l : List Par} {k : Int} (h : inb l k = true) : ∃ (K : Nat) (p : Par), k = (K : Int) ∧ l[K]? = some p ∧ l.getD K default = p := by
  have h1 : 0 ≤ k ∧ k < l.length := by simpa [inb] using h
  obtain ⟨K, rfl⟩ := Int.eq_ofNat_of_zero_le h1.1
  have h2 : K < l.length := by omega
  exact ⟨K, l[K], rfl, List.getElem?_eq_getElem h2, by simp [List.getD, h2]⟩
theorem inb_no {l : List Par} {k : Int} (h : inb l k = false) : k < 0 ∨ (l.length : Int) ≤ k := by
  have h1 : ¬ (0 ≤ k ∧ k < l.length) := by simpa [inb] using h
  omega
def sndL (cap : Nat) (l : List Par) (p : Par) : List Par := if l.length < cap then l ++ [p] else l
def sndC (cap : Nat) (l : List Par) : Int := if l.length < cap then 0 else 4
def tkL (l : List Par) (k : Int) : List Par := if inb l k then l.eraseIdx k.toNat else l
def tkP (l : List Par) (k : Int) : Par := if inb l k then l.getD k.toNat default else (0, [])
def tkC (l : List Par) (k : Int) : Int := if inb l k then 0 else 7
def dbL (cap : Nat) (l : List Par) (k : Int) : List Par := if inb l k then sndL cap l (l.getD k.toNat default) else l
def dbC (cap : Nat) (l : List Par) (k : Int) : Int := if inb l k then sndC cap l else 7
def spL (l : List Par) (k at_ : Int) (x : UInt8) : List Par := if inb l k then l.set k.toNat (spoilP at_ x (l.getD k.toNat default)) else l

theorem send_tot (w : World) (nb ch cap : Nat) (buf : List Value) (l : List Par) (t : Int) (v : Value) (bs : List UInt8) (h : NetAt w nb ch cap buf l) (hv : Rd w v bs.length (bV bs)) (hl : bs.length ≤ 140737488355328) :
    Calls Try.prog 22 #[.pointer (some ⟨nb, 0, none⟩), .agg #[.int .i64 t, v]] w fun e w' => ∃ buf', e = .returned (.int .i64 (sndC cap l)) ∧ NetAt w' nb ch cap buf' (sndL cap l (t, bs)) ∧ Frm (fun i => i = ch) w w' := by
  unfold sndC sndL
  by_cases hr : l.length < cap
  · rw [if_pos hr, if_pos hr]
    exact (send_ok w nb ch cap buf l t v bs h hr hv hl).mono fun e w' ⟨h1, x, h2, h3⟩ => ⟨_, h1, h2, h3⟩
  · rw [if_neg hr, if_neg hr]
    exact (send_no w nb ch cap buf l t v bs h (by omega) hv hl).mono fun e w' ⟨h1, h2⟩ => ⟨_, h1, h.keep0 h2, h2.mono fun _ _ h => h.elim⟩
theorem take_tot (w : World) (nb ch cap : Nat) (buf : List Value) (l : List Par) (k : Int) (h : NetAt w nb ch cap buf l) :
    Calls Try.prog 23 #[.pointer (some ⟨nb, 0, none⟩), .int .i64 k] w fun e w' => ∃ buf' a c, e = .returned (.tuple #[.agg #[.int .i64 (tkP l k).1, .slice a (tkP l k).2.length c], .int .i64 (tkC l k)]) ∧
      w'.ownsRow 0 5 1 (.slice a (tkP l k).2.length c) (tkP l k).2.length (bV (tkP l k).2) ∧ NetAt w' nb ch cap buf' (tkL l k) ∧ Frm (fun i => i = ch) w w' := by
  unfold tkP tkC tkL
  cases hi : inb l k with
  | true =>
    obtain ⟨K, p, rfl, hp, hd⟩ := inb_yes hi
    simp only [if_true, Int.toNat_natCast, hd]
    refine (take_ok w nb ch cap K buf l p h hp).mono fun e w' ⟨a, c, h1, h2, h3, h4⟩ => ?_
    obtain ⟨a', c', he, how, _⟩ := h2
    simp only [Value.agg.injEq, Array.mk.injEq, List.cons.injEq, Value.slice.injEq, true_and, and_true] at he
    obtain ⟨rfl, rfl⟩ := he
    exact ⟨_, a, c, h1, how, h3, h4⟩
  | false =>
    simp only [Bool.false_eq_true, if_false]
    exact (take_no w nb ch cap k buf l h (inb_no hi)).mono fun e w' ⟨h1, h2⟩ => ⟨_, none, 0, h1, World.ownsRow_nil _ 0 _ 1, h.keep0 h2, h2.mono fun _ _ h => h.elim⟩
theorem double_tot (w : World) (nb ch cap : Nat) (buf : List Value) (l : List Par) (k : Int) (h : NetAt w nb ch cap buf l) :
    Calls Try.prog 42 #[.pointer (some ⟨nb, 0, none⟩), .int .i64 k] w fun e w' => ∃ buf', e = .returned (.int .i64 (dbC cap l k)) ∧ NetAt w' nb ch cap buf' (dbL cap l k) ∧ Frm (fun i => i = ch) w w' := by
  unfold dbC dbL
  cases hi : inb l k with
  | true =>
    obtain ⟨K, p, rfl, hp, hd⟩ := inb_yes hi
    simp only [if_true, Int.toNat_natCast, hd]
    exact double_any w nb ch cap K buf l p h hp
  | false =>
    simp only [Bool.false_eq_true, if_false]
    exact (double_no w nb ch cap k buf l h (inb_no hi)).mono fun e w' ⟨h1, h2⟩ => ⟨buf, h1, by rw [← h2]; exact h, by rw [← h2]; exact Frm.refl _ _⟩
theorem spoil_tot (w : World) (nb ch cap : Nat) (buf : List Value) (l : List Par) (k at_ : Int) (x : UInt8) (h : NetAt w nb ch cap buf l) :
    Calls Try.prog 43 #[.pointer (some ⟨nb, 0, none⟩), .int .i64 k, .int .i64 at_, .int .u8 (x.toNat : Int)] w fun e w' => ∃ buf', e = .returned (.int .i64 (tkC l k)) ∧ NetAt w' nb ch cap buf' (spL l k at_ x) ∧ Frm (fun i => i = ch) w w' := by
  unfold tkC spL
  cases hi : inb l k with
  | true =>
    obtain ⟨K, p, rfl, hp, hd⟩ := inb_yes hi
    simp only [if_true, Int.toNat_natCast, hd]
    exact (spoil_ok w nb ch cap K at_ x buf l p h hp).mono fun e w' ⟨h1, b', h2, h3⟩ => ⟨b', h1, h2, h3⟩
  | false =>
    simp only [Bool.false_eq_true, if_false]
    exact (spoil_no w nb ch cap k at_ x buf l h (inb_no hi)).mono fun e w' ⟨h1, h2⟩ => ⟨buf, h1, h.keep0 h2, h2.mono fun _ _ h => h.elim⟩

theorem rsend_tot (N : Nat → Prop) (w : World) (hN : ∀ k, N k → k < w.heap.size) (cap : Nat) (a : Option Addr) (c : Nat) (l : List Par) (ap : Option Addr) (cp : Nat) (t : Int) (bs : List UInt8) (hv : RefAt N w (.slice a l.length c) l) (hp : Rd w (.slice ap bs.length cp) bs.length (bV bs)) (hpn : bs.length ≠ 0 → ∀ k, (Value.slice ap bs.length cp).ownBlock = some k → ¬ N k) (hl : l.length ≤ 1000) :
    Calls Try.prog 54 #[.agg #[.int .i64 cap, .slice a l.length c], .agg #[.int .i64 t, .slice ap bs.length cp]] w fun e w' => ∃ v', e = .returned (.tuple #[.agg #[.int .i64 cap, v'], .int .i64 (sndC cap l)]) ∧ RefAt N w' v' (sndL cap l (t, bs)) ∧ Frm (fun _ => False) w w' :=
  rsend_any N w hN cap a c l ap cp (t, bs) hv hp hpn hl
theorem rtake_tot (N : Nat → Prop) (w : World) (hN : ∀ k, N k → k < w.heap.size) (cap : Nat) (a : Option Addr) (c : Nat) (l : List Par) (k : Int) (hv : RefAt N w (.slice a l.length c) l) (hl : l.length ≤ 1000) :
    Calls Try.prog 55 #[.agg #[.int .i64 cap, .slice a l.length c], .int .i64 k] w fun e w' => ∃ v' ap cp, e = .returned (.tuple #[.agg #[.int .i64 cap, v'], .agg #[.int .i64 (tkP l k).1, .slice ap (tkP l k).2.length cp], .int .i64 (tkC l k)]) ∧
      RefAt N w' v' (tkL l k) ∧ Rd w' (.slice ap (tkP l k).2.length cp) (tkP l k).2.length (bV (tkP l k).2) ∧ NotIn N (tkP l k).2.length (.slice ap (tkP l k).2.length cp) ∧ Frm (fun _ => False) w w' := by
  unfold tkP tkC tkL
  cases hi : inb l k with
  | true =>
    obtain ⟨K, p, rfl, hp, hd⟩ := inb_yes hi
    simp only [if_true, Int.toNat_natCast, hd]
    obtain ⟨b, off, _, _, rfl, _⟩ := hv.get hp
    exact rtake_ok N w hN cap b off c l K p hv hp hl
  | false =>
    simp only [Bool.false_eq_true, if_false]
    exact (rtake_no w cap a c l.length k (inb_no hi)).mono fun e w' ⟨h1, h2⟩ => ⟨_, none, 0, h1, hv.keepCell h2.cells0, .inl ⟨none, rfl, rfl, rfl⟩, fun h => absurd rfl h, h2⟩
theorem rdouble_tot (N : Nat → Prop) (w : World) (hN : ∀ k, N k → k < w.heap.size) (cap : Nat) (a : Option Addr) (c : Nat) (l : List Par) (k : Int) (hv : RefAt N w (.slice a l.length c) l) (hl : l.length ≤ 1000) :
    Calls Try.prog 56 #[.agg #[.int .i64 cap, .slice a l.length c], .int .i64 k] w fun e w' => ∃ v', e = .returned (.tuple #[.agg #[.int .i64 cap, v'], .int .i64 (dbC cap l k)]) ∧ RefAt N w' v' (dbL cap l k) ∧ Frm (fun _ => False) w w' := by
  unfold dbC dbL
  cases hi : inb l k with
  | true =>
    obtain ⟨K, p, rfl, hp, hd⟩ := inb_yes hi
    simp only [if_true, Int.toNat_natCast, hd]
    obtain ⟨b, off, _, _, rfl, _⟩ := hv.get hp
    exact rdouble_ok N w hN cap b off c l K p hv hp hl
  | false =>
    simp only [Bool.false_eq_true, if_false]
    exact (rdouble_no w cap a c l.length k (inb_no hi)).mono fun e w' ⟨h1, h2⟩ => ⟨_, h1, hv.keepCell h2.cells0, h2⟩
theorem rspoil_tot (N : Nat → Prop) (w : World) (hN : ∀ k, N k → k < w.heap.size) (cap : Nat) (a : Option Addr) (c : Nat) (l : List Par) (k at_ : Int) (x : UInt8) (hv : RefAt N w (.slice a l.length c) l) (hl : l.length ≤ 1000) (hpl : ∀ p ∈ l, p.2.length ≤ 140737488355328) :
    Calls Try.prog 57 #[.agg #[.int .i64 cap, .slice a l.length c], .int .i64 k, .int .i64 at_, .int .u8 (x.toNat : Int)] w fun e w' => ∃ v', e = .returned (.tuple #[.agg #[.int .i64 cap, v'], .int .i64 (tkC l k)]) ∧ RefAt N w' v' (spL l k at_ x) ∧ Frm (fun _ => False) w w' := by
  unfold tkC spL
  cases hi : inb l k with
  | true =>
    obtain ⟨K, p, rfl, hp, hd⟩ := inb_yes hi
    simp only [if_true, Int.toNat_natCast, hd]
    obtain ⟨b, off, _, _, rfl, _⟩ := hv.get hp
    exact rspoil_ok N w hN cap b off c l K p hv hp hl (hpl p (List.mem_of_getElem? hp)) at_ x
  | false =>
    simp only [Bool.false_eq_true, if_false]
    exact (rspoil_no w cap a c l.length k at_ _ (inb_no hi)).mono fun e w' ⟨h1, h2⟩ => ⟨_, h1, hv.keepCell h2.cells0, h2⟩

end Go.Proofs.Ytclihppeaikhiaa
