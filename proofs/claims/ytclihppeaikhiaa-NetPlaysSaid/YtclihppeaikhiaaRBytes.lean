/- tributaryref02.Bytes. -/
import Derived.Test.YtclihppeaikhiaaPut
namespace Go.Proofs.Ytclihppeaikhiaa
open Go.RowKit

def RBRel (w : World) (l : List Item) (n : Nat) (o u : Value) (wr : World) : Prop :=
  ∃ k : Nat, k ≤ n ∧ u = .int .i64 k ∧ Copy w o (itemsB (l.take k)) wr

set_option maxHeartbeats 400000 in
set_option maxRecDepth 1000000 in
theorem rbytes (l : List Item) (vl : Value) (w : World) (hi : ItemsAt w vl l) (hl : (itemsB l).length ≤ 90000000) :
    Calls Try.prog 16 #[vl] w fun e w' => ∃ v', e = .returned v' ∧ Copy w v' (itemsB l) w' := by
  rcases hi.1 with ⟨ad, rfl, h0⟩ | ⟨b, off, c, rfl, hc1, hc2, -⟩
  · obtain rfl : l = [] := List.eq_nil_of_length_eq_zero h0
    clear hi hl h0
    go_enter Try.func16, Try.ntmps16
    go_wp2
    go_loop [3, 7] (fun o i => i = .int .i64 0 ∧ o = .slice none 0 0) (fun _ _ => 0)
    case atStart => exact ⟨rfl, rfl⟩
    case round =>
      obtain ⟨rfl, rfl⟩ := hrel
      go_wp2
      go_ret
      exact ⟨_, rfl, Copy.nil w⟩
  · have HI := Lib.hid hi; clear hi
    have hnb : l.length ≤ 9223372036854775807 := Nat.le_trans hc1 hc2
    clear hc1 hc2
    generalize hn : l.length = n at *
    have HN := Lib.hid hn; clear hn
    have HL := Lib.hid hl; clear hl
    go_enter Try.func16, Try.ntmps16
    go_wp2
    go_loopw [3, 7] (fun o u wr => RBRel w l n o u wr) (fun _ u _ => n - (intOf u).toNat)
    case atStart => exact ⟨0, Nat.zero_le _, rfl, Copy.nil w⟩
    case round =>
      obtain ⟨k, hk, rfl, hp⟩ := hrel
      by_cases hlt : k < n
      · have hkl : k < l.length := by rw [HN.out]; exact hlt
        obtain ⟨-, q0, q1, q2, q3⟩ := items_at (HI.out.keep hp.frm fun _ _ h => h) k hkl
        have hs := itemsB_snoc hkl
        have hle := itemsB_take_len l k
        have hle1 := itemsB_take_len l (k + 1)
        have hlb := HL.out
        have HLE := Lib.hid (Nat.le_trans hle1 hlb)
        generalize l.getD k Item.zero = it at *
        generalize hT : itemsB (l.take k) = t0 at *
        cases ht : it.t
        · rw [ht] at q0
          have hitem : itemB it = numB it.n := by simp [itemB, ht]
          have hc := rnum it.n wr q3.1 q3.2.1
          rw [← hitem] at hc
          clear ht hlb q3 q2 hitem
          have HC := Lib.hid hc; clear hc
          have HS := Lib.hid hs; clear hs
          have HT := Lib.hid hT; clear hT
          have HP := Lib.hid hp; clear hp
          clear hle hle1
          go_wp2_with (go_at_call 45; refine HC.out.mono ?_)
          rintro e w1 ⟨v1, rfl, cp1⟩
          have hsrc := cp1.rd.src (P := Try.prog) (size := 1) Try.underlying25 (by simp) (bV_oneCell _)
          have hp1 := HP.out.step cp1.frm
          obtain ⟨a1, c1, rfl⟩ := cp1.shape
          generalize hib : itemB it = ib at *
          have HIB := Lib.hid hib; clear hib
          have SR := Lib.hid hsrc; clear hsrc
          have HP1 := Lib.hid hp1; clear hp1
          clear cp1
          go_wp2_with (at_builtin; go_loud (refine app_u8 _ rfl (.tmp 23) (.tmp 29) 25 rfl _ t0 HP1.out.own _ ib rfl rfl SR.out ?c1 ?_))
          case c1 => have h1 := HS.out; have h2 := HLE.out; rw [h1, List.length_append] at h2; omega
          intro ad c2 w2 own1 fm1 fr1 _
          have e2 := HP1.out.app (cs := ib) own1 (by simp [bV_append]) fm1 fr1
          have E2 := Lib.hid e2; clear e2
          clear own1 fm1 fr1
          go_wp2
          go_roundw
          case rel =>
            have e := E2.out
            rw [← HS.out] at e
            exact ⟨k + 1, by omega, by go_num, e⟩
          case measure => simp [intOf]; omega
        · rw [ht] at q0
          have hitem : itemB it = textB it.s := by simp [itemB, ht]
          have hz : it.s.size ≤ (itemB it).length := by
            rw [hitem, textB, List.length_append]
            have e : it.s.data.toList.length = it.s.size := Array.length_toList
            omega
          have hc := rtext it.s wr (by rw [hs, List.length_append] at hle1; omega)
          rw [← hitem] at hc
          clear ht hlb q3 q1 hitem hz
          have HC := Lib.hid hc; clear hc
          have HS := Lib.hid hs; clear hs
          have HT := Lib.hid hT; clear hT
          have HP := Lib.hid hp; clear hp
          clear hle hle1
          go_wp2_with (go_at_call 44; refine HC.out.mono ?_)
          rintro e w1 ⟨v1, rfl, cp1⟩
          have hsrc := cp1.rd.src (P := Try.prog) (size := 1) Try.underlying25 (by simp) (bV_oneCell _)
          have hp1 := HP.out.step cp1.frm
          obtain ⟨a1, c1, rfl⟩ := cp1.shape
          generalize hib : itemB it = ib at *
          have HIB := Lib.hid hib; clear hib
          have SR := Lib.hid hsrc; clear hsrc
          have HP1 := Lib.hid hp1; clear hp1
          clear cp1
          go_wp2_with (at_builtin; go_loud (refine app_u8 _ rfl (.tmp 15) (.tmp 21) 25 rfl _ t0 HP1.out.own _ ib rfl rfl SR.out ?c1 ?_))
          case c1 => have h1 := HS.out; have h2 := HLE.out; rw [h1, List.length_append] at h2; omega
          intro ad c2 w2 own1 fm1 fr1 _
          have e2 := HP1.out.app (cs := ib) own1 (by simp [bV_append]) fm1 fr1
          have E2 := Lib.hid e2; clear e2
          clear own1 fm1 fr1
          go_wp2
          go_roundw
          case rel =>
            have e := E2.out
            rw [← HS.out] at e
            exact ⟨k + 1, by omega, by go_num, e⟩
          case measure => simp [intOf]; omega
      · have HP := Lib.hid hp; clear hp
        go_wp2
        go_ret
        obtain rfl : k = n := by omega
        refine ⟨_, rfl, ?_⟩
        have e := HP.out
        rw [List.take_of_length_le (by rw [HN.out]; exact Nat.le_refl _)] at e
        exact e

end Go.Proofs.Ytclihppeaikhiaa
