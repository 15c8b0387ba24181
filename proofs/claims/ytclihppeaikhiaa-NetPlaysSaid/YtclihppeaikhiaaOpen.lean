/- What came in: items, bytes. -/
import Derived.Test.YtclihppeaikhiaaItems
import Derived.Test.YtclihppeaikhiaaTrod
namespace Go.Proofs.Ytclihppeaikhiaa
open Go.RowKit Go.WideShapes

theorem Try.cells_item : Try.prog.cellsOf 51 = 3 := by kernel_rfl
theorem Try.cells_u8 : Try.prog.cellsOf 5 = 1 := by kernel_rfl
theorem Try.cells_bool : Try.prog.cellsOf 4 = 1 := by kernel_rfl
theorem Try.cells_i64 : Try.prog.cellsOf 2 = 1 := by kernel_rfl
theorem Try.cells_str : Try.prog.cellsOf 9 = 1 := by kernel_rfl
instance : Inhabited Item := ⟨Item.zero⟩
theorem wf64 {x : Int} (h : (Lit.int .i64 x).wf = true) : -9223372036854775808 ≤ x ∧ x ≤ 9223372036854775807 := by
  simp only [Lit.wf, IntKind.min, IntKind.max, IntKind.signed, IntKind.bits] at h
  simpa using h

set_option maxRecDepth 100000 in
theorem open_bytes {H : Type} {enc : TypeId × Value → H} {w : World} {base : Nat} {v : Value} {d : DataW H} {ps : List MemPlace} (hv : Value.okWide Try.prog w .any base 25 v) (h : DataW.Trod enc Try.prog w 0 (fun _ => true) true 25 v d ps) :
    ∃ bs : List UInt8, Rd w v bs.length (bV bs) := by
  obtain ⟨a0, len, cap, rfl⟩ := okWide_slice Try.underlying25 hv
  obtain ⟨fuel, hf⟩ := h
  rcases open_arr Try.underlying25 Try.cells_u8 (by omega) (fun _ => rfl) hf with ⟨rfl, rfl⟩ | ⟨b, off, rfl, h1, h2, n, hel⟩
  · exact ⟨[], .inl ⟨a0, rfl, rfl, rfl⟩⟩
  · have hx : ∀ k, k < len → ∃ c : UInt8, w.cell? ⟨b, off + k, none⟩ = some (.int .u8 (c.toNat : Int)) := fun k hk => by
      obtain ⟨cs, hl, hc, y, hy⟩ := hel k hk
      obtain ⟨x, rfl, _, hw⟩ := DataW.trod_int Try.underlying5 hy
      have hb : 0 ≤ x ∧ x ≤ 255 := by
        simp only [Lit.wf, IntKind.min, IntKind.max, IntKind.signed, IntKind.bits] at hw
        simpa using hw
      refine ⟨UInt8.ofNat x.toNat, ?_⟩
      have h0 := hc 0 _ rfl
      simp only [Nat.mul_one, Nat.add_zero] at h0
      rw [h0]
      congr 2
      have : (UInt8.ofNat x.toNat).toNat = x.toNat := by simp; omega
      rw [this]; omega
    obtain ⟨l, hl, hlp⟩ := list_of_lt hx
    refine ⟨l, .inr ⟨b, off, cap, by rw [hl], by omega, h2, fun j u hu => ?_⟩⟩
    have hj : j < l.length := by simpa using (List.getElem?_eq_some_iff.1 hu).1
    rw [hlp j (by omega) default]
    rw [← hu]
    simp [bV, List.getD, hj]

set_option maxRecDepth 100000 in
theorem open_items {H : Type} {enc : TypeId × Value → H} {w : World} {base : Nat} {v : Value} {d : DataW H} {ps : List MemPlace} (hv : Value.okWide Try.prog w .any base 22 v) (h : DataW.Trod enc Try.prog w 0 (fun _ => true) true 22 v d ps) :
    ∃ l : List Item, ItemsAt w v l := by
  obtain ⟨a0, len, cap, rfl⟩ := okWide_slice Try.underlying22 hv
  obtain ⟨fuel, hf⟩ := h
  rcases open_arr Try.underlying22 Try.cells_item (by omega) (fun _ => rfl) hf with ⟨rfl, rfl⟩ | ⟨b, off, rfl, h1, h2, n, hel⟩
  · exact ⟨[], .inl ⟨a0, rfl, rfl⟩, by simp⟩
  · have hx : ∀ k, k < len → ∃ i : Item, (∀ j, j < 3 → w.cell? ⟨b, off + k * 3 + j, none⟩ = some (i.cell j)) ∧ i.fits := fun k hk => by
      obtain ⟨cs, hl, hc, y, hy⟩ := hel k hk
      obtain ⟨y0, y1, y2, m, _, hlen, g0, g1, g2⟩ := Go.Deep.trod_struct3 Try.underlying51 hy
      rw [Try.cells_bool] at g0
      rw [Try.cells_i64] at g1
      rw [Try.cells_str] at g2
      obtain ⟨c0, c1, c2, rfl⟩ : ∃ c0 c1 c2, cs = [c0, c1, c2] := by
        match cs, hl with
        | [c0, c1, c2], _ => exact ⟨c0, c1, c2, rfl⟩
      obtain ⟨t, e0, _⟩ := DataW.trod_bool Try.underlying4 g0
      obtain ⟨x, e1, _, hw⟩ := DataW.trod_int Try.underlying2 g1
      obtain ⟨s, e2, _, hs⟩ := DataW.trod_string Try.underlying9 g2
      simp at e0 e1 e2
      subst e0 e1 e2
      refine ⟨⟨t, x, s⟩, fun j hj => ?_, (wf64 hw).1, (wf64 hw).2, hs⟩
      match j, hj with
      | 0, _ => exact hc 0 _ rfl
      | 1, _ => exact hc 1 _ rfl
      | 2, _ => exact hc 2 _ rfl
    obtain ⟨l, hl, hlp⟩ := list_of_lt hx
    refine ⟨l, .inr ⟨b, off, cap, by rw [hl], by omega, h2, fun k j hk hj => (hlp k (by omega) Item.zero).1 j hj⟩, fun i hi => ?_⟩
    obtain ⟨k, hk, rfl⟩ := List.getElem_of_mem hi
    have := (hlp k (by omega) Item.zero).2
    rwa [getD_lt hk] at this
end Go.Proofs.Ytclihppeaikhiaa
