/- The plain law of varints: a number's bytes, and their properties. No program in sight. -/
import Derived.WalkKit
namespace Go.Proofs.Ytclihppeaikhiaa

/-- Seven bits at a time, the least first; every byte but the last bears the mark 128. -/
def vl (n : Nat) : List UInt8 := if h : n < 128 then [UInt8.ofNat n] else UInt8.ofNat (n % 128 + 128) :: vl (n / 128)
  termination_by n
  decreasing_by omega
/-- The sign folded in: 2v, or -2v - 1. -/
def zz (v : Int) : Nat := if 0 ≤ v then (2 * v).toNat else (-(2 * v) - 1).toNat
/-- A number's bytes. -/
def numB (v : Int) : List UInt8 := vl (zz v)

theorem vl_small {n : Nat} (h : n < 128) : vl n = [UInt8.ofNat n] := by unfold vl; rw [dif_pos h]
theorem vl_big {n : Nat} (h : ¬ n < 128) : vl n = UInt8.ofNat (n % 128 + 128) :: vl (n / 128) := by rw [vl]; rw [dif_neg h]
theorem zz_lt {v : Int} (h1 : -9223372036854775808 ≤ v) (h2 : v ≤ 9223372036854775807) : zz v < 18446744073709551616 := by unfold zz; split <;> omega
theorem zz_inj {a b : Int} (h : zz a = zz b) : a = b := by unfold zz at h; split at h <;> split at h <;> omega
theorem toNat_ofNat {n : Nat} (h : n < 256) : (UInt8.ofNat n).toNat = n := by simp; omega

theorem vl_length (k : Nat) : ∀ n, n < 128 ^ (k + 1) → (vl n).length ≤ k + 1 := by
  induction k with
  | zero => intro n h; rw [vl_small (by simpa using h)]; simp
  | succ k ih =>
    intro n h
    by_cases hn : n < 128
    · rw [vl_small hn]; simp
    · rw [vl_big hn, List.length_cons]
      have := ih (n / 128) (by rw [Nat.div_lt_iff_lt_mul (by omega)]; rw [Nat.pow_succ] at h; exact h)
      omega
theorem vl_pos (n : Nat) : 1 ≤ (vl n).length := by
  by_cases hn : n < 128
  · rw [vl_small hn]; simp
  · rw [vl_big hn]; simp
theorem vl_le10 {n : Nat} (h : n < 18446744073709551616) : (vl n).length ≤ 10 := vl_length 9 n (by omega)
theorem numB_le10 {v : Int} (h1 : -9223372036854775808 ≤ v) (h2 : v ≤ 9223372036854775807) : (numB v).length ≤ 10 := vl_le10 (zz_lt h1 h2)
theorem numB_pos (v : Int) : 1 ≤ (numB v).length := vl_pos _

/-- Neither of two unlike numbers' bytes begins with the other's. -/
theorem vl_prefix : ∀ (n m : Nat) (x y : List UInt8), vl n ++ x = vl m ++ y → n = m ∧ x = y := by
  intro n
  induction n using Nat.strongRecOn with
  | ind n ih =>
    intro m x y h
    by_cases hn : n < 128 <;> by_cases hm : m < 128
    · rw [vl_small hn, vl_small hm] at h
      simp only [List.cons_append, List.nil_append, List.cons.injEq] at h
      refine ⟨?_, h.2⟩
      have := congrArg UInt8.toNat h.1
      rw [toNat_ofNat (by omega), toNat_ofNat (by omega)] at this
      exact this
    · rw [vl_small hn, vl_big hm] at h
      simp only [List.cons_append, List.nil_append, List.cons.injEq] at h
      have := congrArg UInt8.toNat h.1
      rw [toNat_ofNat (by omega), toNat_ofNat (by omega)] at this
      omega
    · rw [vl_big hn, vl_small hm] at h
      simp only [List.cons_append, List.nil_append, List.cons.injEq] at h
      have := congrArg UInt8.toNat h.1
      rw [toNat_ofNat (by omega), toNat_ofNat (by omega)] at this
      omega
    · rw [vl_big hn, vl_big hm] at h
      simp only [List.cons_append, List.cons.injEq] at h
      have h1 := congrArg UInt8.toNat h.1
      rw [toNat_ofNat (by omega), toNat_ofNat (by omega)] at h1
      obtain ⟨h2, h3⟩ := ih (n / 128) (by omega) (m / 128) x y h.2
      exact ⟨by omega, h3⟩
theorem numB_prefix {a b : Int} {x y : List UInt8} (h : numB a ++ x = numB b ++ y) : a = b ∧ x = y :=
  let ⟨h1, h2⟩ := vl_prefix _ _ _ _ h; ⟨zz_inj h1, h2⟩

end Go.Proofs.Ytclihppeaikhiaa
