/- The plain law of taking numbers apart. No program in sight. -/
import Derived.Test.YtclihppeaikhiaaVarint
namespace Go.Proofs.Ytclihppeaikhiaa

theorem pow128_succ (k : Nat) : 128 ^ (k + 1) = 128 ^ k * 128 := Nat.pow_succ ..
theorem pow128_pos (k : Nat) : 0 < 128 ^ k := Nat.pow_pos (by omega)

/-- Byte k of a number's bytes, while there is one. -/
theorem vl_at {n k : Nat} : (vl n).drop k ≠ [] → (vl n).drop k = vl (n / 128 ^ k) := by
  induction k generalizing n with
  | zero => intro _; simp
  | succ k ih =>
    intro h
    by_cases hn : n < 128
    · rw [vl_small hn] at h
      simp at h
    · rw [vl_big hn] at h ⊢
      rw [List.drop_succ_cons] at h ⊢
      rw [ih h, pow128_succ, Nat.mul_comm, Nat.div_div_eq_div_mul]

/-- How the bytes taken so far and what is still to come make up one number. -/
def Pfx (bs : List UInt8) (k u : Nat) : Prop := ∀ m, 1 ≤ m → bs.take k ++ vl m = vl (u + m * 128 ^ k)
theorem Pfx.zero (bs : List UInt8) : Pfx bs 0 0 := fun m _ => by simp
theorem vl_cons {c : UInt8} {m : Nat} (hc : 128 ≤ c.toNat) (hm : 1 ≤ m) : c :: vl m = vl (c.toNat % 128 + m * 128) := by
  have hlt := c.toNat_lt
  rw [vl_big (n := c.toNat % 128 + m * 128) (by omega)]
  have e1 : (c.toNat % 128 + m * 128) % 128 + 128 = c.toNat := by omega
  have e2 : (c.toNat % 128 + m * 128) / 128 = m := by omega
  rw [e1, e2]
  congr 1
  simp
theorem Pfx.step {bs : List UInt8} {k u : Nat} (h : Pfx bs k u) (hk : k < bs.length) (hc : 128 ≤ bs[k].toNat) : Pfx bs (k + 1) (u + bs[k].toNat % 128 * 128 ^ k) := by
  intro m hm
  rw [List.take_succ_eq_append_getElem hk, List.append_assoc, List.cons_append, List.nil_append, vl_cons hc hm, h _ (by omega), pow128_succ, Nat.add_mul]
  congr 1
  rw [Nat.add_assoc]
  congr 2
  rw [Nat.mul_assoc, Nat.mul_comm 128]
theorem Pfx.last {bs : List UInt8} {k u : Nat} (h : Pfx bs k u) (hk : k < bs.length) (hc : bs[k].toNat < 128) (hz : 1 ≤ bs[k].toNat ∨ k = 0) (h0 : k = 0 → u = 0) :
    bs = vl (u + bs[k].toNat * 128 ^ k) ++ bs.drop (k + 1) := by
  have e : bs.take (k + 1) = vl (u + bs[k].toNat * 128 ^ k) := by
    rw [List.take_succ_eq_append_getElem hk]
    have hb : [bs[k]] = vl bs[k].toNat := by rw [vl_small hc]; simp
    rw [hb]
    rcases Nat.eq_zero_or_pos bs[k].toNat with hz0 | hp
    · rcases hz with h1 | h1
      · omega
      · subst h1
        have := h0 rfl
        subst this
        simp
    · exact h _ hp
  rw [← e, List.take_append_drop]

theorem pow_bound {k u c : Nat} (hk : k ≤ 9) (hu : u < 128 ^ k) (hc : c < 128) (h9 : k = 9 → c ≤ 1) : u + c * 128 ^ k < 18446744073709551616 := by
  rcases Nat.lt_or_ge k 9 with h | h
  · have h1 : 128 ^ (k + 1) ≤ 128 ^ 9 := Nat.pow_le_pow_right (by omega) (by omega)
    have h2 : c * 128 ^ k ≤ 127 * 128 ^ k := Nat.mul_le_mul_right _ (by omega)
    rw [pow128_succ] at h1
    have h3 : (128 : Nat) ^ 9 = 9223372036854775808 := by decide
    omega
  · obtain rfl : k = 9 := by omega
    have h3 : (128 : Nat) ^ 9 = 9223372036854775808 := by decide
    rw [h3] at hu ⊢
    have := h9 rfl
    have h4 : c * 9223372036854775808 ≤ 1 * 9223372036854775808 := Nat.mul_le_mul_right _ this
    omega

/-- In the bytes of a number that fits: the round's facts. -/
theorem yes_at {n k : Nat} {bs rest : List UInt8} (hb : bs = vl n ++ rest) (hn : n < 18446744073709551616) (hk : k < (vl n).length) :
    ∃ h : k < bs.length, k ≤ 9 ∧ (k = 9 → bs[k].toNat ≤ 1) ∧ bs[k].toNat % 128 = n / 128 ^ k % 128 ∧
      (bs[k].toNat < 128 ↔ k + 1 = (vl n).length) ∧ (bs[k].toNat < 128 → n / 128 ^ k = bs[k].toNat ∧ (1 ≤ bs[k].toNat ∨ k = 0)) ∧ (128 ≤ bs[k].toNat → k + 1 < (vl n).length) := by
  subst hb
  have hl := vl_le10 hn
  have hd : (vl n).drop k ≠ [] := fun e => by
    have := congrArg List.length e
    simp at this; omega
  have he := vl_at hd
  have hlen : (vl n).length - k = (vl (n / 128 ^ k)).length := by rw [← he, List.length_drop]
  have hk' : k < (vl n ++ rest).length := by rw [List.length_append]; omega
  have hg : (vl n ++ rest)[k] = (vl n)[k] := List.getElem_append_left hk
  have hh : (vl n)[k]? = (vl (n / 128 ^ k))[0]? := by rw [← he]; simp
  rw [List.getElem?_eq_getElem hk] at hh
  have hmod := Nat.mod_lt (n / 128 ^ k) (show 0 < 128 by omega)
  refine ⟨hk', by omega, ?_⟩
  rw [hg]
  by_cases hs : n / 128 ^ k < 128
  · rw [vl_small hs] at hh hlen
    simp only [List.getElem?_cons_zero, Option.some.injEq] at hh
    have ht : (vl n)[k].toNat = n / 128 ^ k := by rw [hh, toNat_ofNat (by omega)]
    rw [ht]
    simp only [List.length_cons, List.length_nil] at hlen
    refine ⟨fun h9 => ?_, by omega, by omega, fun _ => ⟨rfl, ?_⟩, by omega⟩
    · subst h9
      have h3 : (128 : Nat) ^ 9 = 9223372036854775808 := by decide
      rw [h3]; omega
    · rcases Nat.eq_zero_or_pos k with h0 | h0
      · exact .inr h0
      · left
        obtain ⟨j, rfl⟩ : ∃ j, k = j + 1 := ⟨k - 1, by omega⟩
        have hd' : (vl n).drop j ≠ [] := fun e => by
          have := congrArg List.length e
          simp at this; omega
        have hj := vl_at hd'
        have hlj : (vl n).length - j = (vl (n / 128 ^ j)).length := by rw [← hj, List.length_drop]
        have hbig : ¬ n / 128 ^ j < 128 := fun hs' => by
          rw [vl_small hs'] at hlj; simp at hlj; omega
        rw [pow128_succ, ← Nat.div_div_eq_div_mul]
        omega
  · rw [vl_big hs] at hh hlen
    simp only [List.getElem?_cons_zero, Option.some.injEq] at hh
    have ht : (vl n)[k].toNat = n / 128 ^ k % 128 + 128 := by rw [hh, toNat_ofNat (by omega)]
    rw [ht]
    simp only [List.length_cons] at hlen
    have hp := vl_pos (n / 128 ^ k / 128)
    refine ⟨fun h9 => ?_, by omega, by omega, by omega, by omega⟩
    subst h9
    have h3 : (128 : Nat) ^ 9 = 9223372036854775808 := by decide
    rw [h3] at hs; omega
theorem acc_step (n k : Nat) : n % 128 ^ k + n / 128 ^ k % 128 * 128 ^ k = n % 128 ^ (k + 1) := by
  rw [pow128_succ, Nat.mod_mul, Nat.mul_comm (128 ^ k)]
theorem acc_last (n k : Nat) : n % 128 ^ k + n / 128 ^ k * 128 ^ k = n := by
  rw [Nat.add_comm, Nat.mul_comm]; exact Nat.div_add_mod n (128 ^ k)

/-- The sign unfolded. -/
def unzz (n : Nat) : Int := if n % 2 = 0 then (n / 2 : Nat) else -((n / 2 : Nat) : Int) - 1
theorem unzz_zz (v : Int) : unzz (zz v) = v := by unfold unzz zz; split <;> split <;> omega
theorem zz_unzz (n : Nat) : zz (unzz n) = n := by unfold unzz zz; split <;> split <;> omega
theorem unzz_range {n : Nat} (h : n < 18446744073709551616) : -9223372036854775808 ≤ unzz n ∧ unzz n ≤ 9223372036854775807 := by unfold unzz; split <;> omega
theorem numB_unzz (n : Nat) : numB (unzz n) = vl n := by unfold numB; rw [zz_unzz]

def inR (v : Int) : Prop := -9223372036854775808 ≤ v ∧ v ≤ 9223372036854775807
/-- What bytes begin with: a number that fits, and what is left behind it. -/
def Begins (bs : List UInt8) (v : Int) (rest : List UInt8) : Prop := inR v ∧ bs = numB v ++ rest
theorem Begins.unique {bs r s : List UInt8} {v u : Int} (h : Begins bs v r) (k : Begins bs u s) : v = u ∧ r = s := numB_prefix (h.2.symm.trans k.2)
theorem Begins.of_vl {bs r : List UInt8} {n : Nat} (hn : n < 18446744073709551616) (h : bs = vl n ++ r) : Begins bs (unzz n) r := ⟨unzz_range hn, by rw [numB_unzz]; exact h⟩
theorem Begins.vl {bs r : List UInt8} {v : Int} (h : Begins bs v r) : zz v < 18446744073709551616 ∧ bs = vl (zz v) ++ r := ⟨zz_lt h.1.1 h.1.2, h.2⟩
/-- No number stands there. -/
def NoNum (bs : List UInt8) : Prop := ∀ v r, ¬ Begins bs v r

end Go.Proofs.Ytclihppeaikhiaa
