/- Opening what came in: slices of whatever elements, told cell by cell. -/
import Derived.Test.YtclihppeaikhiaaMem
import Derived.Deep.Strs
import Derived.ChangeArms
namespace Go.Proofs.Ytclihppeaikhiaa
open Go.RowKit

theorem list_of_lt {α : Type} [Inhabited α] {n : Nat} {p : Nat → α → Prop} (h : ∀ i, i < n → ∃ x, p i x) : ∃ l : List α, l.length = n ∧ ∀ i, i < n → ∀ d, p i (l.getD i d) := by
  obtain ⟨f, hf⟩ := Go.Deep.choose_lt h
  refine ⟨(List.range n).map f, by simp, fun i hi d => ?_⟩
  have : ((List.range n).map f).getD i d = f i := by simp [List.getD, hi]
  rw [this]
  exact hf i hi

section
variable {H : Type} {enc : TypeId × Value → H} {P : Program} {w : World} {base : Nat} {sp : Nat → Bool} {held : Bool}
/-- A slice that is read, spare and all: empty without capacity, or behind an address without a spot; each element's cells, and its own reading. -/
theorem open_arr {t e sz : Nat} {a0 : Option Addr} {len cap : Nat} {d : DataW H × List MemPlace} {fuel : Nat} (ht : P.underlying t = some (.slice e)) (hsz : P.cellsOf e = sz) (hpos : 0 < sz) (hsp : ∀ b, sp b = true)
    (h : DataW.trod enc P w base sp held fuel t [.slice a0 len cap] = some d) :
    (len = 0 ∧ cap = 0) ∨ ∃ b off, a0 = some ⟨b, off, none⟩ ∧ len ≤ cap ∧ cap ≤ maxLen ∧
      ∃ n, ∀ k, k < len → ∃ cs : List Value, cs.length = sz ∧ (∀ j u, cs[j]? = some u → w.cell? ⟨b, off + k * sz + j, none⟩ = some u) ∧ ∃ y, DataW.trod enc P w base sp held n e cs = some y := by
  rcases Go.Deep.open_slice ht h with ⟨hcs, _⟩ | ⟨a, len', cap', m, n, D, Pl, hcs, _, hl, hm, hmm, _, hel⟩
  · left
    simp only [List.cons.injEq, Value.slice.injEq, and_true] at hcs
    exact ⟨hcs.2.1, hcs.2.2⟩
  · simp only [List.cons.injEq, Value.slice.injEq, and_true] at hcs
    obtain ⟨rfl, rfl, rfl⟩ := hcs
    rw [hsp] at hmm
    simp only [if_true] at hmm
    subst hmm
    subst hsz
    rcases Nat.eq_zero_or_pos m with h0 | h0
    · left; omega
    · right
      obtain ⟨b, off, spot⟩ := a
      have hspot : spot = none := by
        obtain ⟨cs', hc, _⟩ := hel 0 h0
        obtain ⟨_, hlen, hcells⟩ := World.cells?_some hc
        have h00 : cs'[0]? = some (cs'[0]'(by omega)) := List.getElem?_eq_getElem _
        have := hcells 0 (by omega)
        rw [h00] at this
        have hs := World.cell?_spot this
        simpa [Addr.add] using hs
      subst hspot
      refine ⟨b, off, rfl, hl, hm, n, fun k hk => ?_⟩
      obtain ⟨cs', hc, ht'⟩ := hel k (by omega)
      obtain ⟨_, hlen, hcells⟩ := World.cells?_some hc
      refine ⟨cs', hlen, fun j u hu => ?_, _, ht'⟩
      have hj : j < P.cellsOf e := by rw [← hlen]; exact (List.getElem?_eq_some_iff.1 hu).1
      have := hcells j hj
      rw [addr_add, addr_add] at this
      rw [this, hu]
end
end Go.Proofs.Ytclihppeaikhiaa
