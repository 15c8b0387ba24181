/- tributarylaw02.put; tributaryref02.Bytes. -/
import Derived.Test.YtclihppeaikhiaaItems
namespace Go.Proofs.Ytclihppeaikhiaa
open Go.RowKit

theorem ItemsAt.keep {w w' : World} {v : Value} {l : List Item} (h : ItemsAt w v l) {S : Nat → Prop} (f : Frm S w w') (hn : ∀ k, v.ownBlock = some k → ¬ S k) : ItemsAt w' v l := ⟨h.1.keep f hn, h.2⟩
def PutRel (w : World) (ob : Nat) (v : Value) (bs : List UInt8) (l : List Item) (n : Nat) (u : Value) (wr : World) : Prop :=
  ∃ (k : Nat) (v' : Value), k ≤ n ∧ u = .int .i64 k ∧ OutAt wr ob v' (bs ++ itemsB (l.take k)) ∧ Fresh w v v' ∧ Frm (OutS ob v) w wr

set_option maxHeartbeats 400000 in
set_option maxRecDepth 1000000 in
theorem put_go (ob : Nat) (l : List Item) (vl : Value) (w : World) (v : Value) (bs : List UInt8) (h : OutAt w ob v bs) (hi : ItemsAt w vl l) (hap : l ≠ [] → ∀ k, vl.ownBlock = some k → ¬ OutS ob v k) (hl : bs.length + (itemsB l).length ≤ 90000000) :
    Calls Try.prog 17 #[.pointer (some ⟨ob, 0, none⟩), vl] w fun e w' => e = .returned (.tuple #[]) ∧
      ∃ v', OutAt w' ob v' (bs ++ itemsB l) ∧ Fresh w v v' ∧ Frm (OutS ob v) w w' := by
  rcases hi.1 with ⟨ad, rfl, h0⟩ | ⟨b, off, c, rfl, hc1, hc2, -⟩
  · obtain rfl : l = [] := List.eq_nil_of_length_eq_zero h0
    have HO := Lib.hid h; clear h
    clear hi hap hl h0
    go_enter Try.func17, Try.ntmps17
    go_wp2
    go_loop [7] (fun i => i = .int .i64 0) (fun _ => 0)
    case atStart => exact rfl
    case round =>
      obtain rfl := hrel
      go_wp2
      go_end0
      exact ⟨rfl, v, by have := HO.out; simpa [itemsB] using this, Fresh.refl _ _, Frm.refl _ _⟩
  · have hb := fun h => hap h b rfl
    have HI := Lib.hid hi; clear hi
    have HO := Lib.hid h; clear h
    have HL := Lib.hid hl; clear hl
    clear hap
    have hnb : l.length ≤ 9223372036854775807 := Nat.le_trans hc1 hc2
    clear hc1 hc2
    generalize hn : l.length = n at *
    have HN := Lib.hid hn; clear hn
    have HB := Lib.hid hb; clear hb
    go_enter Try.func17, Try.ntmps17
    go_wp2
    go_loopw [7] (fun u wr => PutRel w ob v bs l n u wr) (fun u _ => n - (intOf u).toNat)
    case atStart => exact ⟨0, v, Nat.zero_le _, rfl, by have := HO.out; simpa [itemsB] using this, Fresh.refl _ _, Frm.refl _ _⟩
    case round =>
      obtain ⟨k, v', hk, rfl, ho, hf, hm⟩ := hrel
      by_cases hlt : k < n
      · have hkl : k < l.length := by rw [HN.out]; exact hlt
        have hne : l ≠ [] := fun e => by subst e; simp at hkl
        obtain ⟨-, q0, q1, q2, q3⟩ := items_at (HI.out.keep hm fun i hi => by simp [Value.ownBlock] at hi; subst hi; exact HB.out hne) k hkl
        clear hne
        have hs := itemsB_snoc hkl
        have hle := itemsB_take_len l k
        have hle1 := itemsB_take_len l (k + 1)
        generalize l.getD k Item.zero = it at *
        generalize hT : itemsB (l.take k) = t0 at *
        have hlb := HL.out
        rw [hs, List.length_append] at hle1
        cases ht : it.t
        · rw [ht] at q0
          have hitem : itemB it = numB it.n := by simp [itemB, ht]
          have hc := num_go ob it.n wr v' (bs ++ t0) ho q3.1 q3.2.1 (by rw [List.length_append]; omega)
          clear ht hlb q3 q2
          have HC := Lib.hid hc; clear hc
          have HS := Lib.hid hs; clear hs
          have HT := Lib.hid hT; clear hT
          have HF := Lib.hid hf; clear hf
          have HM := Lib.hid hm; clear hm
          clear ho hle hle1
          go_wp2_with (go_at_call 19; refine HC.out.mono ?_)
          rintro e w1 ⟨rfl, v1, o1, f1, m1⟩
          have O1 := Lib.hid o1; clear o1
          have F1 := Lib.hid f1; clear f1
          have M1 := Lib.hid m1; clear m1
          go_wp2
          go_roundw
          case rel =>
            have e := O1.out
            rw [List.append_assoc, ← hitem, ← HS.out] at e
            exact ⟨k + 1, v1, by omega, by go_num, e, HF.out.trans HM.out.size F1.out, HM.out.trans M1.out (outS_fresh HF.out)⟩
          case measure => simp [intOf]; omega
        · rw [ht] at q0
          have hitem : itemB it = textB it.s := by simp [itemB, ht]
          have hz : it.s.size ≤ (itemB it).length := by
            rw [hitem, textB, List.length_append]
            have e : it.s.data.toList.length = it.s.size := Array.length_toList
            omega
          have hc := text_go ob it.s wr v' (bs ++ t0) ho (by rw [List.length_append]; omega)
          clear ht hlb q3 q1 hz
          have HC := Lib.hid hc; clear hc
          have HS := Lib.hid hs; clear hs
          have HT := Lib.hid hT; clear hT
          have HF := Lib.hid hf; clear hf
          have HM := Lib.hid hm; clear hm
          clear ho hle hle1
          go_wp2_with (go_at_call 27; refine HC.out.mono ?_)
          rintro e w1 ⟨rfl, v1, o1, f1, m1⟩
          have O1 := Lib.hid o1; clear o1
          have F1 := Lib.hid f1; clear f1
          have M1 := Lib.hid m1; clear m1
          go_wp2
          go_roundw
          case rel =>
            have e := O1.out
            rw [List.append_assoc, ← hitem, ← HS.out] at e
            exact ⟨k + 1, v1, by omega, by go_num, e, HF.out.trans HM.out.size F1.out, HM.out.trans M1.out (outS_fresh HF.out)⟩
          case measure => simp [intOf]; omega
      · have HF := Lib.hid hf; clear hf
        have HM := Lib.hid hm; clear hm
        have HO1 := Lib.hid ho; clear ho
        go_wp2
        go_end0
        obtain rfl : k = n := by omega
        refine ⟨rfl, v', ?_, HF.out, HM.out⟩
        have e := HO1.out
        rw [List.take_of_length_le (by rw [HN.out]; exact Nat.le_refl _)] at e
        exact e

end Go.Proofs.Ytclihppeaikhiaa
