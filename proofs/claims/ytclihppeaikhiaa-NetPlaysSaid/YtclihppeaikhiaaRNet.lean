/- tributaryref26: what a net is by the document; Of, Same: the walks. -/
import Derived.Test.YtclihppeaikhiaaNetSpoils
namespace Go.Proofs.Ytclihppeaikhiaa
open Go.RowKit

/-- Parcels by the document: a slice that reads as such; nothing of it lies in the blocks N. -/
def RefAt (N : Nat → Prop) (w : World) (v : Value) (l : List Par) : Prop :=
  ∃ outs : List (Int × Value), outs.length = l.length ∧ Rd w v l.length (outCells outs) ∧ (∀ (i : Nat) (q : Int × Value) (p : Par), outs[i]? = some q → l[i]? = some p → q.1 = p.1 ∧ Rd w q.2 p.2.length (bV p.2)) ∧
    (l.length ≠ 0 → ∀ k, v.ownBlock = some k → ¬ N k) ∧ ∀ (i : Nat) (q : Int × Value) (p : Par), outs[i]? = some q → l[i]? = some p → p.2.length ≠ 0 → ∀ k, q.2.ownBlock = some k → ¬ N k
/-- A value's block is none of N, if it has elements. -/
def NotIn (N : Nat → Prop) (n : Nat) (v : Value) : Prop := n ≠ 0 → ∀ k, v.ownBlock = some k → ¬ N k
abbrev NoB : Nat → Prop := fun _ => False
theorem Rd.keepCell {w w' : World} {v : Value} {n : Nat} {xs : List Value} (h : Rd w v n xs) (f : ∀ p u, w.cell? p = some u → w'.cell? p = some u) : Rd w' v n xs := by
  rcases h with h | ⟨b, off, c, h0, h1, h2, h3⟩
  · exact .inl h
  · exact .inr ⟨b, off, c, h0, h1, h2, fun j u hu => f _ _ (h3 j u hu)⟩
theorem Rd.keepNo {N : Nat → Prop} {w w' : World} {v : Value} {n : Nat} {xs : List Value} (h : Rd w v n xs) (hn : n ≠ 0 → ∀ k, v.ownBlock = some k → ¬ N k) (h0 : n = 0 → xs = []) (f : ∀ p u, ¬ N p.block → w.cell? p = some u → w'.cell? p = some u) : Rd w' v n xs := by
  rcases h with h | ⟨b, off, c, h0', h1, h2, h3⟩
  · exact .inl h
  · refine .inr ⟨b, off, c, h0', h1, h2, fun j u hu => f _ _ ?_ (h3 j u hu)⟩
    by_cases hz : n = 0
    · rw [h0 hz] at hu; simp at hu
    · exact hn hz b (by rw [h0']; rfl)
theorem RefAt.keepNo {N : Nat → Prop} {w w' : World} {v : Value} {l : List Par} (h : RefAt N w v l) (f : ∀ p u, ¬ N p.block → w.cell? p = some u → w'.cell? p = some u) : RefAt N w' v l := by
  obtain ⟨outs, h1, h2, h3, h4, h5⟩ := h
  refine ⟨outs, h1, h2.keepNo h4 (fun hz => ?_) f, fun i q p hq hp => ⟨(h3 i q p hq hp).1, (h3 i q p hq hp).2.keepNo (fun hz => h5 i q p hq hp hz) (fun hz => ?_) f⟩, h4, h5⟩
  · have : outs = [] := List.eq_nil_of_length_eq_zero (by omega)
    rw [this]; rfl
  · have : p.2 = [] := List.eq_nil_of_length_eq_zero hz
    rw [this]; rfl
theorem RefAt.keepCell {N : Nat → Prop} {w w' : World} {v : Value} {l : List Par} (h : RefAt N w v l) (f : ∀ p u, w.cell? p = some u → w'.cell? p = some u) : RefAt N w' v l := h.keepNo fun p u _ hu => f p u hu
theorem RefAt.weak {N : Nat → Prop} {w : World} {v : Value} {l : List Par} (h : RefAt N w v l) : RefAt NoB w v l := by
  obtain ⟨outs, h1, h2, h3, _, _⟩ := h
  exact ⟨outs, h1, h2, h3, fun _ _ _ h => h, fun _ _ _ _ _ _ _ _ h => h⟩
theorem RefAt.or {N M : Nat → Prop} {w : World} {v : Value} {l : List Par} (h : RefAt N w v l) (hM : ∀ k, k < w.heap.size → ¬ M k) : RefAt (fun k => N k ∨ M k) w v l := by
  obtain ⟨outs, h1, h2, h3, h4, h5⟩ := h
  have key : ∀ {v : Value} {n : Nat} {xs : List Value}, Rd w v n xs → n ≠ 0 → 0 < xs.length → ∀ k, v.ownBlock = some k → ¬ M k := fun {v n xs} hr hn hx k hk => by
    rcases hr with ⟨_, _, hz, _⟩ | ⟨b, off, c, rfl, _, _, hc⟩
    · exact absurd hz hn
    · simp [Value.ownBlock] at hk
      subst hk
      have := hc 0 _ (List.getElem?_eq_getElem hx)
      exact hM _ (World.block_lt_of_cell? w _ this)
  exact ⟨outs, h1, h2, h3, fun hz k hk hs => hs.elim (h4 hz k hk) (key h2 hz (by rw [outCells_length]; omega) k hk), fun i q p hq hp hz k hk hs => hs.elim (h5 i q p hq hp hz k hk) (key (h3 i q p hq hp).2 hz (by simp; omega) k hk)⟩
theorem RefAt.sub {N M : Nat → Prop} {w : World} {v : Value} {l : List Par} (h : RefAt N w v l) (hs : ∀ k, M k → N k) : RefAt M w v l := by
  obtain ⟨outs, h1, h2, h3, h4, h5⟩ := h
  exact ⟨outs, h1, h2, h3, fun hz k hk hm => h4 hz k hk (hs k hm), fun i q p hq hp hz k hk hm => h5 i q p hq hp hz k hk (hs k hm)⟩
theorem rd_old {N : Nat → Prop} {w : World} {v : Value} {bs : List UInt8} (h : Rd w v bs.length (bV bs)) (hN : ∀ k, k < w.heap.size → ¬ N k) : bs.length ≠ 0 → ∀ k, v.ownBlock = some k → ¬ N k := fun hn k hk => by
  rcases h with ⟨_, _, hz, _⟩ | ⟨b, off, c, rfl, _, _, hc⟩
  · exact absurd hz hn
  · simp [Value.ownBlock] at hk
    subst hk
    exact hN _ (World.block_lt_of_cell? w _ (hc 0 _ (List.getElem?_eq_getElem (by simp; omega))))
/-- What was there lies in no block that is new. -/
theorem RefAt.old {N : Nat → Prop} {w : World} {v : Value} {l : List Par} (h : RefAt NoB w v l) (hN : ∀ k, k < w.heap.size → ¬ N k) : RefAt N w v l := by
  obtain ⟨outs, h1, h2, h3, _, _⟩ := h
  have key : ∀ {v : Value} {n : Nat} {xs : List Value}, Rd w v n xs → n ≠ 0 → 0 < xs.length → ∀ k, v.ownBlock = some k → ¬ N k := fun {v n xs} hr hn hx k hk => by
    rcases hr with ⟨_, _, hz, _⟩ | ⟨b, off, c, rfl, _, _, hc⟩
    · exact absurd hz hn
    · simp [Value.ownBlock] at hk
      subst hk
      have := hc 0 _ (List.getElem?_eq_getElem hx)
      exact hN _ (World.block_lt_of_cell? w _ this)
  refine ⟨outs, h1, h2, h3, fun hz => key h2 hz (by rw [outCells_length]; omega), fun i q p hq hp hz => key (h3 i q p hq hp).2 hz (by simp; omega)⟩
/-- Where nothing but a channel turned, all cells are as they were. -/
theorem NetAt.cells {w w' : World} {nb ch cap : Nat} {buf : List Value} {l : List Par} (h : NetAt w nb ch cap buf l) (f : Frm (fun i => i = ch) w w') : ∀ p u, w.cell? p = some u → w'.cell? p = some u := fun p u hu => by
  refine f.cell' hu fun e => ?_
  obtain ⟨s, r, hc⟩ := h.chan
  have h1 : p.block = ch := e
  rw [← h1] at hc
  simp [World.cell?, hc] at hu
theorem Frm.cells0 {w w' : World} (f : Frm (fun _ => False) w w') : ∀ p u, w.cell? p = some u → w'.cell? p = some u := fun _ _ hu => f.cell' hu id
theorem RefAt.shape {w : World} {v : Value} {l : List Par} {N : Nat → Prop} (h : RefAt N w v l) : ∃ a c, v = .slice a l.length c := by
  obtain ⟨outs, h1, h2, h3, _, _⟩ := h
  rcases h2 with ⟨ad, h1, h2, h3⟩ | ⟨b, off, c, h1, h2⟩
  · exact ⟨ad, 0, by rw [h1, h2]⟩
  · exact ⟨_, c, h1⟩
theorem RefAt.get {N : Nat → Prop} {w : World} {a : Option Addr} {n c : Nat} {l : List Par} (h : RefAt N w (.slice a n c) l) {K : Nat} {p : Par} (hp : l[K]? = some p) :
    ∃ b off a' c', a = some ⟨b, off, none⟩ ∧ w.cell? ⟨b, off + K * 2, none⟩ = some (.int .i64 p.1) ∧ w.cell? ⟨b, off + K * 2 + 1, none⟩ = some (.slice a' p.2.length c') ∧ Rd w (.slice a' p.2.length c') p.2.length (bV p.2) := by
  obtain ⟨outs, h1, h2, h3, _, _⟩ := h
  have hK := len_of_some hp
  obtain ⟨q, hq⟩ : ∃ q, outs[K]? = some q := ⟨_, List.getElem?_eq_getElem (by omega)⟩
  obtain ⟨g1, g2⟩ := outCells_get outs K q hq
  obtain ⟨k1, k2⟩ := h3 K q p hq hp
  obtain ⟨a', c', hsh⟩ := rd_shape k2
  rcases h2 with ⟨ad, hv, hn, hx⟩ | ⟨b, off, c', hv, _, _, hcell⟩
  · omega
  · simp only [Value.slice.injEq] at hv
    obtain ⟨rfl, rfl, rfl⟩ := hv
    have c1 := hcell _ _ g1
    have c2 := hcell _ _ g2
    rw [k1] at c1
    rw [hsh] at c2 k2
    exact ⟨b, off, a', c', rfl, c1, c2, k2⟩
theorem RefAt.getN {N : Nat → Prop} {w : World} {a : Option Addr} {n c : Nat} {l : List Par} (h : RefAt N w (.slice a n c) l) {K : Nat} {p : Par} (hp : l[K]? = some p) :
    ∃ b off a' c', a = some ⟨b, off, none⟩ ∧ w.cell? ⟨b, off + K * 2, none⟩ = some (.int .i64 p.1) ∧ w.cell? ⟨b, off + K * 2 + 1, none⟩ = some (.slice a' p.2.length c') ∧ Rd w (.slice a' p.2.length c') p.2.length (bV p.2) ∧ (p.2.length ≠ 0 → ∀ k, (Value.slice a' p.2.length c').ownBlock = some k → ¬ N k) := by
  obtain ⟨outs, h1, h2, h3, _, h5⟩ := h
  have hK := len_of_some hp
  obtain ⟨q, hq⟩ : ∃ q, outs[K]? = some q := ⟨_, List.getElem?_eq_getElem (by omega)⟩
  obtain ⟨g1, g2⟩ := outCells_get outs K q hq
  obtain ⟨k1, k2⟩ := h3 K q p hq hp
  have k3 := h5 K q p hq hp
  obtain ⟨a', c', hsh⟩ := rd_shape k2
  rcases h2 with ⟨ad, hv, hn, hx⟩ | ⟨b, off, c', hv, _, _, hcell⟩
  · omega
  · simp only [Value.slice.injEq] at hv
    obtain ⟨rfl, rfl, rfl⟩ := hv
    have c1 := hcell _ _ g1
    have c2 := hcell _ _ g2
    rw [k1] at c1
    rw [hsh] at c2 k2 k3
    exact ⟨b, off, a', c', rfl, c1, c2, k2, k3⟩
theorem RefAt.outs {w0 w : World} {v : Value} {outs : List (Int × Value)} {l : List Par} (h : OutsAt w0 w v outs l) (hn : outs.length = l.length) : RefAt NoB w v l :=
  ⟨outs, hn, by rw [← hn]; exact Rd.own h.own, fun i q p hq hp => by
    obtain ⟨k1, _, a, c, k3, k4, _⟩ := h.all i q p hq hp
    exact ⟨k1, by rw [k3]; exact Rd.own k4⟩, fun _ _ _ h => h, fun _ _ _ _ _ _ _ _ h => h⟩

/-! ### Same -/
set_option maxHeartbeats 1000000 in
set_option maxRecDepth 1000000 in
theorem same_yes (w : World) (v u : Value) (l : List Par) (hv : RefAt NoB w v l) (hu : RefAt NoB w u l) : Calls Try.prog 40 #[v, u] w fun e w' => e = .returned (.bool true) ∧ ∃ nq, w' = w.drewN nq := by
  obtain ⟨a, c, rfl⟩ := hv.shape
  obtain ⟨a2, c2, rfl⟩ := hu.shape
  have HV := Lib.hid hv; clear hv
  have HU := Lib.hid hu; clear hu
  have hll : l.length ≤ 9223372036854775807 := by
    obtain ⟨outs, h1, h2, h3, _, _⟩ := HV.out
    rcases h2 with ⟨ad, hv, hn, hx⟩ | ⟨b, off, c', hv, k1, k2, hcell⟩
    · omega
    · simp only [maxLen] at k2; omega
  go_enter Try.func40, Try.ntmps40
  go_wp2_with fail
  go_loopw [13] (fun i wr => ∃ (k nq : Nat), k ≤ l.length ∧ i = .int .i64 k ∧ wr = w.drewN nq) (fun i _ => l.length - (intOf i).toNat)
  case atStart => exact ⟨0, 0, Nat.zero_le _, rfl, rfl⟩
  case round =>
    obtain ⟨k, nq, hk, rfl, rfl⟩ := hrel
    by_cases hlt : k < l.length
    · obtain ⟨p, hp⟩ : ∃ p, l[k]? = some p := ⟨_, List.getElem?_eq_getElem hlt⟩
      obtain ⟨b, off, a3, c3, rfl, d0, d1, d2⟩ := HV.out.get hp
      obtain ⟨b', off', a4, c4, rfl, e0, e1, e2⟩ := HU.out.get hp
      have cv1 := fun nq => conv_str (d2.drewN nq)
      have cv2 := fun nq => conv_str (e2.drewN nq)
      clear hp d2 e2
      go_wp2_with fail
      go_quiet (fail)
      go_wp2
      go_roundw
      case rel => exact ⟨k + 1, _, by omega, by go_num, rfl⟩
      case measure => simp [intOf]; omega
    · obtain rfl : k = l.length := by omega
      go_wp2
      go_ret
      exact ⟨rfl, nq, rfl⟩

end Go.Proofs.Ytclihppeaikhiaa
