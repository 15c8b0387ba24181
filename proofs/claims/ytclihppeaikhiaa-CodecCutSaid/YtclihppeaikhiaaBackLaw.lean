/- tributarylaw02.back: the plain law. -/
import Derived.Test.YtclihppeaikhiaaTakes
namespace Go.Proofs.Ytclihppeaikhiaa
open Go.RowKit

/-- One item is taken: is it what it was? -/
def TakeStep (it : Item) (st : Option (List UInt8)) (eq : Bool) (st' : Option (List UInt8)) : Prop :=
  if it.t then ∃ s, TextStep st it.s.size s st' ∧ eq = decide (s = it.s) else ∃ v, NumStep st 9223372036854775807 v st' ∧ eq = decide (v = it.n)

theorem begins_num {n : Int} {r : List UInt8} (h : inR n) : Begins (numB n ++ r) n r := ⟨h, rfl⟩
theorem take_yes {it : Item} {r : List UInt8} (hf : it.fits) (hn : it.n ≠ -9223372036854775808) {eq : Bool} {st' : Option (List UInt8)} (h : TakeStep it (some (itemB it ++ r)) eq st') : eq = true ∧ st' = some r := by
  unfold TakeStep at h
  cases ht : it.t
  · simp only [ht, Bool.false_eq_true, if_false] at h
    obtain ⟨v, hs, he⟩ := h
    have hb : itemB it = numB it.n := by simp [itemB, ht]
    rw [hb] at hs
    have hs2 : NumStep (some (numB it.n ++ r)) 9223372036854775807 it.n (some r) := .inl ⟨r, begins_num ⟨hf.1, hf.2.1⟩, by omega, hf.2.1, by have := hf.1; omega, rfl⟩
    obtain ⟨e1, e2⟩ := hs.det hs2
    exact ⟨by rw [he, e1]; simp, e2⟩
  · simp only [ht, if_true] at h
    obtain ⟨s, hs, he⟩ := h
    have hb : itemB it = textB it.s := by simp [itemB, ht]
    rw [hb, textB, List.append_assoc] at hs
    have hsz : it.s.data.toList.length = it.s.size := Array.length_toList
    have hs2 : TextStep (some (numB it.s.size ++ (it.s.data.toList ++ r))) it.s.size it.s (some r) := by
      refine ⟨it.s.size, some (it.s.data.toList ++ r), .inl ⟨_, begins_num ⟨by omega, by have := hf.2.2; omega⟩, by omega, by omega, by omega, rfl⟩, .inl ⟨by omega, by rw [List.length_append, hsz]; omega, ?_, ?_⟩⟩
      · rw [Int.toNat_natCast, ← hsz, List.take_left]
      · rw [Int.toNat_natCast, ← hsz, List.drop_left]
    obtain ⟨e1, e2⟩ := hs.det hs2
    exact ⟨by rw [he, e1]; simp, e2⟩
/-- What was taken as it was stood there. -/
theorem take_eq {it : Item} {bs : List UInt8} {st' : Option (List UInt8)} (h : TakeStep it (some bs) true st') : st' = none ∨ bs = itemB it ++ leftOf st' := by
  cases st' with
  | none => exact .inl rfl
  | some r =>
    right
    unfold TakeStep at h
    cases ht : it.t
    · simp only [ht, Bool.false_eq_true, if_false] at h
      obtain ⟨v, hs, he⟩ := h
      have hv : v = it.n := by simpa using he.symm
      subst hv
      rcases hs with ⟨r', hb, _, _, _, h5⟩ | ⟨_, _, h3⟩
      · injection h5 with h5
        subst h5
        simp only [itemB, ht, Bool.false_eq_true, if_false]
        exact hb.2
      · cases h3
    · simp only [ht, if_true] at h
      obtain ⟨s, ⟨n, st1, hs, h2⟩, he⟩ := h
      have hv : s = it.s := by simpa using he.symm
      subst hv
      cases st1 with
      | none => cases h2.2
      | some b1 =>
        rcases h2 with ⟨h0, h1, hs1, hs2⟩ | ⟨_, _, h3⟩
        · injection hs2 with hs2
          rcases hs with ⟨r', hb, _, _, _, h5⟩ | ⟨_, _, h3⟩
          · injection h5 with h5
            subst h5
            have hsz : it.s.size = n.toNat := by
              rw [hs1]
              show (b1.take n.toNat).toArray.size = _
              simp
              omega
            have hd : it.s.data.toList = b1.take n.toNat := by rw [hs1]
            simp only [itemB, ht, if_true, textB, hd, List.append_assoc]
            show bs = _
            rw [hsz, Int.toNat_of_nonneg h0]
            rw [show leftOf (some r) = b1.drop n.toNat from hs2, List.take_append_drop]
            exact hb.2
          · cases h3
        · cases h3
theorem take_none {it : Item} {eq : Bool} {st' : Option (List UInt8)} (h : TakeStep it none eq st') : st' = none := by
  unfold TakeStep at h
  cases ht : it.t
  · simp only [ht, Bool.false_eq_true, if_false] at h
    obtain ⟨v, hs, he⟩ := h
    exact hs.2
  · simp only [ht, if_true] at h
    obtain ⟨s, ⟨n, st1, hs, h2⟩, he⟩ := h
    rw [hs.2] at h2
    exact h2.2

/-- What is so far: all is as it should be; or nothing is there any more, or what was taken stood there. -/
def BackInv (good : Bool) (bs : List UInt8) (l : List Item) (k : Nat) (st : Option (List UInt8)) : Prop :=
  if good then st = some (itemsB (l.drop k)) else st = none ∨ bs = itemsB (l.take k) ++ leftOf st
theorem drop_item {l : List Item} {k : Nat} (h : k < l.length) : itemsB (l.drop k) = itemB (l.getD k Item.zero) ++ itemsB (l.drop (k + 1)) := by
  rw [getD_lt h, List.drop_eq_getElem_cons h]; simp only [itemsB, List.flatMap_cons]
theorem BackInv.step {good : Bool} {bs : List UInt8} {l : List Item} {k : Nat} {st st' : Option (List UInt8)} {eq : Bool} (h : BackInv good bs l k st) (hk : k < l.length) (hf : (l.getD k Item.zero).fits) (hn : good = true → (l.getD k Item.zero).n ≠ -9223372036854775808)
    (hs : TakeStep (l.getD k Item.zero) st eq st') : (good = true → eq = true) ∧ (eq = true → BackInv good bs l (k + 1) st') := by
  cases good with
  | true =>
    have h1 : st = some (itemsB (l.drop k)) := h
    rw [h1, drop_item hk] at hs
    obtain ⟨e1, e2⟩ := take_yes hf (hn rfl) hs
    exact ⟨fun _ => e1, fun _ => e2⟩
  | false =>
    refine ⟨fun h => (by cases h), fun he => ?_⟩
    subst he
    have h1 : st = none ∨ bs = itemsB (l.take k) ++ leftOf st := h
    show st' = none ∨ bs = itemsB (l.take (k + 1)) ++ leftOf st'
    cases st with
    | none => exact .inl (take_none hs)
    | some b0 =>
      rcases h1 with h1 | h1
      · cases h1
      · rcases take_eq hs with h2 | h2
        · exact .inl h2
        · right
          rw [itemsB_snoc hk, List.append_assoc, ← h2]
          exact h1
theorem BackInv.last {good : Bool} {bs : List UInt8} {l : List Item} {st : Option (List UInt8)} (h : BackInv good bs l l.length st) (hb : good = false → bs ≠ itemsB l) : doneOf st = good := by
  cases good with
  | true =>
    have h1 : st = some (itemsB (l.drop l.length)) := h
    rw [h1, List.drop_length]
    simp [doneOf, itemsB]
  | false =>
    rcases (show st = none ∨ bs = itemsB (l.take l.length) ++ leftOf st from h) with h1 | h1
    · rw [h1]; rfl
    · cases st with
      | none => rfl
      | some r =>
        cases hr : r with
        | nil =>
          exfalso
          subst hr
          rw [List.take_length] at h1
          exact hb rfl (by simpa [leftOf] using h1)
        | cons x y => simp [doneOf]

theorem NumStep.total (st : Option (List UInt8)) (m : Int) : ∃ v st', NumStep st m v st' := by
  cases st with
  | none => exact ⟨0, none, rfl, rfl⟩
  | some bs =>
    by_cases hb : ∃ u r, Begins bs u r
    · obtain ⟨u, r, hb⟩ := hb
      by_cases hm : 0 ≤ m ∧ u ≤ m ∧ -m ≤ u
      · exact ⟨u, some r, .inl ⟨r, hb, hm.1, hm.2.1, hm.2.2, rfl⟩⟩
      · exact ⟨0, none, .inr ⟨fun u' r' hb' => by
          obtain ⟨e1, _⟩ := hb.unique hb'
          omega, rfl, rfl⟩⟩
    · exact ⟨0, none, .inr ⟨fun u r h => (hb ⟨u, r, h⟩).elim, rfl, rfl⟩⟩
theorem TextStep.total (st : Option (List UInt8)) (m : Int) : ∃ s st', TextStep st m s st' := by
  obtain ⟨n, st1, h⟩ := NumStep.total st m
  cases st1 with
  | none => exact ⟨_, none, n, none, h, rfl, rfl⟩
  | some bs =>
    by_cases hn : 0 ≤ n ∧ n ≤ bs.length
    · exact ⟨_, _, n, some bs, h, .inl ⟨hn.1, hn.2, rfl, rfl⟩⟩
    · exact ⟨_, _, n, some bs, h, .inr ⟨by omega, rfl, rfl⟩⟩
/-- What each takes is known ahead. -/
theorem inum_at (ib : Nat) (st : Option (List UInt8)) (m v : Int) (st' : Option (List UInt8)) (w : World) (h : InSt w ib st) (hs : NumStep st m v st') (hm2 : m ≤ 9223372036854775807) (hm3 : -9223372036854775808 ≤ m) :
    Calls Try.prog 29 #[.pointer (some ⟨ib, 0, none⟩), .int .i64 m] w fun e w' => e = .returned (.int .i64 v) ∧ InSt w' ib st' ∧ Frm (Only ib) w w' :=
  (inum_any ib st m w h hm2 hm3).mono fun e w' ⟨v', st'', he, h1, h2, h3⟩ => by
    obtain ⟨rfl, rfl⟩ := hs.det h1
    exact ⟨he, h2, h3⟩
theorem itext_at (ib : Nat) (st : Option (List UInt8)) (m : Int) (s : ByteArray) (st' : Option (List UInt8)) (w : World) (h : InSt w ib st) (hs : TextStep st m s st') (hm2 : m ≤ 9223372036854775807) (hm3 : -9223372036854775808 ≤ m) :
    Calls Try.prog 30 #[.pointer (some ⟨ib, 0, none⟩), .int .i64 m] w fun e w' => e = .returned (.string s) ∧ InSt w' ib st' ∧ Frm (Only ib) w w' :=
  (itext_any ib st m w h hm2 hm3).mono fun e w' ⟨v', st'', he, h1, h2, h3⟩ => by
    obtain ⟨rfl, rfl⟩ := hs.det h1
    exact ⟨he, h2, h3⟩


end Go.Proofs.Ytclihppeaikhiaa
