/- tributaryref02.Take where no number stands. -/
import Derived.Test.YtclihppeaikhiaaRTake
namespace Go.Proofs.Ytclihppeaikhiaa
open Go.RowKit

set_option maxHeartbeats 3200000 in
set_option maxRecDepth 1000000 in
theorem rtake_no (v : Value) (bs : List UInt8) (w : World) (h : Rd w v bs.length (bV bs)) (hno : NoNum bs) :
    Calls Try.prog 53 #[v] w fun e w' => TkNo e ∧ Frm Nowhere w w' := by
  rcases h with ⟨ad, rfl, h0, _⟩ | ⟨b, off, c, rfl, hc1, hc2, hcell⟩
  · clear hno h0
    go_enter Try.func53, Try.ntmps53
    go_wp2
    go_loop [5, 10] (fun u i => u = .int .u64 0 ∧ i = .int .i64 0) (fun _ _ => 0)
    case atStart => exact ⟨rfl, rfl⟩
    case round =>
      obtain ⟨rfl, rfl⟩ := hrel
      go_wp2
      go_ret3
      exact ⟨⟨_, _, rfl⟩, Frm.refl _ _⟩
  · have hl63 : bs.length ≤ 9223372036854775807 := Nat.le_trans hc1 hc2
    have HH : Hid (Rd w (.slice (some ⟨b, off, none⟩) bs.length c) bs.length (bV bs)) := Lib.hid (.inr ⟨b, off, c, rfl, hc1, hc2, hcell⟩)
    have HNO := Lib.hid hno; clear hno
    have HC := Lib.hid hcell; clear hcell
    generalize hL : bs.length = L at *
    have HL := Lib.hid hL; clear hL
    clear hc2
    go_enter Try.func53, Try.ntmps53
    go_wp2
    go_loop [5, 10] (fun u i => ∃ (k u0 : Nat), k ≤ L ∧ i = .int .i64 k ∧ u = .int .u64 u0 ∧ u0 < 18446744073709551616) (fun _ i => L - (intOf i).toNat)
    case atStart => exact ⟨0, 0, by omega, rfl, rfl, by omega⟩
    case round =>
      obtain ⟨k, u0, hk, rfl, rfl, hu0⟩ := hrel
      have HU0 := Lib.hid hu0; clear hu0
      by_cases hkL : k < L
      · have hk' : k < bs.length := by rw [HL.out]; exact hkL
        have hcl : w.cell? ⟨b, off + k, none⟩ = some (.int .u8 (bs[k].toNat : Int)) := HC.out k _ (by simp [bV, hk'])
        generalize bs[k] = ck at *
        have hlt := ck.toNat_lt
        generalize ck.toNat = c0 at *
        by_cases hk9 : 9 < k
        · go_wp2
          go_ret3
          exact ⟨⟨_, _, rfl⟩, Frm.refl _ _⟩
        · have hmd : (c0 : Int) % 128 = ((c0 % 128 : Nat) : Int) := by omega
          have hx : c0 % 128 < 128 := Nat.mod_lt _ (by omega)
          generalize c0 % 128 = x at *
          obtain ⟨u1, hadd, hu1⟩ : ∃ u1 : Nat, IntKind.u64.wrap ((u0 : Int) + IntKind.u64.wrap ((x : Int) * 2 ^ (7 * k))) = (u1 : Int) ∧ u1 < 18446744073709551616 := by
            rw [IntKind.wrap_u64 ((u0 : Int) + _)]
            exact ⟨(((u0 : Int) + IntKind.u64.wrap ((x : Int) * 2 ^ (7 * k))) % 18446744073709551616).toNat, by omega, by omega⟩
          have HU1 := Lib.hid hu1; clear hu1
          by_cases hc : c0 < 128
          · obtain ⟨q, hq⟩ : ∃ q, u1 / 2 = q := ⟨_, rfl⟩
            have hqb : q ≤ 9223372036854775807 := by have := HU1.out; omega
            have hqi : (u1 : Int) / 2 = (q : Int) := by omega
            have hck : k + 1 ≤ c := by omega
            have hcmp : ∀ U : Int, -9223372036854775808 ≤ U → U ≤ 9223372036854775807 → ¬ numB U = bs.take (k + 1) := fun U h1 h2 e => HNO.out U (bs.drop (k + 1)) ⟨⟨h1, h2⟩, by rw [e, List.take_append_drop]⟩
            have hcall := fun U h1 h2 W => rnum U W h1 h2
            have HCALL := Lib.hid hcall; clear hcall
            have HCMP := Lib.hid hcmp; clear hcmp
            have hpre := HH.out.pre2 HL.out (k + 1) (by omega)
            have HPRE := Lib.hid hpre; clear hpre
            have cvb := conv_str (HPRE.out.keep (Frm.drew Nowhere w) fun _ _ h => h)
            have hw1 : IntKind.i64.wrap ((k : Int) + 1) = (k : Int) + 1 := IntWalk.i64_in _ (by omega)
            rcases Nat.mod_two_eq_zero_or_one u1 with h2 | h2
            · have h2i : (u1 : Int) % 2 = 0 := by omega
              obtain ⟨U, hqU⟩ : ∃ U, (q : Int) = U := ⟨_, rfl⟩
              have hU1 : -9223372036854775808 ≤ U := by omega
              have hU2 : U ≤ 9223372036854775807 := by omega
              clear hq h2
              go_wp2_with fail
              go_region_with (go_at_call 45; refine (HCALL.out U hU1 hU2 _).mono ?_; rintro e wx ⟨vx, rfl, hcx⟩; have cvx := conv_str hcx.rd; have cvy := conv_str (HPRE.out.keep ((Frm.drew Nowhere w).trans hcx.frm fun _ _ h => h) fun _ _ h => h); have HX := Lib.hid hcx; clear hcx)
              all_goals
                go_wp2
                go_ret3
                exact ⟨tk_no (beq_false_of_ne (HCMP.out U hU1 hU2)), (Frm.drew Nowhere w).trans HX.out.frm fun _ _ h => h⟩
            · have h2i : (u1 : Int) % 2 = 1 := by omega
              obtain ⟨U, hqU⟩ : ∃ U, -(q : Int) - 1 = U := ⟨_, rfl⟩
              have hU1 : -9223372036854775808 ≤ U := by omega
              have hU2 : U ≤ 9223372036854775807 := by omega
              clear hq h2
              go_wp2_with fail
              go_region_with (go_at_call 45; refine (HCALL.out U hU1 hU2 _).mono ?_; rintro e wx ⟨vx, rfl, hcx⟩; have cvx := conv_str hcx.rd; have cvy := conv_str (HPRE.out.keep ((Frm.drew Nowhere w).trans hcx.frm fun _ _ h => h) fun _ _ h => h); have HX := Lib.hid hcx; clear hcx)
              all_goals
                go_wp2
                go_ret3
                exact ⟨tk_no (beq_false_of_ne (HCMP.out U hU1 hU2)), (Frm.drew Nowhere w).trans HX.out.frm fun _ _ h => h⟩
          · go_wp2
            go_round
            case rel => exact ⟨k + 1, u1, by omega, by go_num, rfl, HU1.out⟩
            case measure => simp [intOf]; omega
      · go_wp2
        go_ret3
        exact ⟨⟨_, _, rfl⟩, Frm.refl _ _⟩

end Go.Proofs.Ytclihppeaikhiaa
