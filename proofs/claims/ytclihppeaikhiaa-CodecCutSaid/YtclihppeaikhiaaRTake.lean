/- tributaryref02.Take. -/
import Derived.Test.YtclihppeaikhiaaIText
import Derived.Deep.RegionWith
import Derived.Deep.RegionHeld3
namespace Go.Proofs.Ytclihppeaikhiaa
open Go.RowKit

/-- The next seven bits, added on. -/
theorem add_acc {u0 x k : Nat} (hx : u0 + x * 128 ^ k < 18446744073709551616) : IntKind.u64.wrap ((u0 : Int) + IntKind.u64.wrap ((x : Int) * 2 ^ (7 * k))) = ((u0 + x * 128 ^ k : Nat) : Int) := by
  have e : ((x : Int) * 2 ^ (7 * k)) = ((x * 128 ^ k : Nat) : Int) := by rw [← pow7]; simp
  rw [e, IntWalk.u64_in ((x * 128 ^ k : Nat) : Int) (by omega), IntWalk.u64_in _ (by omega)]
  omega

theorem Rd.pre2 {w : World} {ad : Option Addr} {c n : Nat} {bs : List UInt8} (h : Rd w (.slice ad n c) n (bV bs)) (hn : bs.length = n) (k : Nat) (hk : k ≤ n) : Rd w (.slice ad k c) (bs.take k).length (bV (bs.take k)) := by
  subst hn; exact h.pre k hk
theorem tk_ret {U : Int} {k M : Nat} {a : Bool} (h : k + 1 = M) (hb : a = true) : Ending.returned (.tuple #[.int .i64 U, .int .i64 ((k : Int) + 1), .bool a]) = .returned (.tuple #[.int .i64 U, .int .i64 M, .bool true]) := by
  subst h hb; rfl
theorem tk_no {U : Int} {k : Nat} {a : Bool} (hb : a = false) : ∃ x m : Int, Ending.returned (.tuple #[.int .i64 U, .int .i64 ((k : Int) + 1), .bool a]) = .returned (.tuple #[.int .i64 x, .int .i64 m, .bool false]) := ⟨_, _, by rw [hb]⟩
def TkNo (e : Ending) : Prop := ∃ x m : Int, e = .returned (.tuple #[.int .i64 x, .int .i64 m, .bool false])
theorem vl_lt (n : Nat) : n < 128 ^ (vl n).length := by
  induction n using Nat.strongRecOn with
  | ind n ih =>
    by_cases hn : n < 128
    · rw [vl_small hn]; simpa using hn
    · rw [vl_big hn, List.length_cons, pow128_succ]
      have := ih (n / 128) (by omega)
      omega

set_option maxHeartbeats 1600000 in
set_option maxRecDepth 1000000 in
theorem rtake_yes (v : Value) (bs rest : List UInt8) (n : Nat) (w : World) (h : Rd w v bs.length (bV bs)) (hb : bs = vl n ++ rest) (hn : n < 18446744073709551616) :
    Calls Try.prog 53 #[v] w fun e w' => e = .returned (.tuple #[.int .i64 (unzz n), .int .i64 (vl n).length, .bool true]) ∧ Frm Nowhere w w' := by
  have hpos := vl_pos n
  rcases h with ⟨ad, rfl, h0, _⟩ | ⟨b, off, c, rfl, hc1, hc2, hcell⟩
  · exfalso
    rw [hb, List.length_append] at h0
    omega
  · have hl63 : bs.length ≤ 9223372036854775807 := Nat.le_trans hc1 hc2
    have hlen : (vl n).length ≤ bs.length := by rw [hb, List.length_append]; omega
    have hv10 := vl_le10 hn
    have HH : Hid (Rd w (.slice (some ⟨b, off, none⟩) bs.length c) bs.length (bV bs)) := Lib.hid (.inr ⟨b, off, c, rfl, hc1, hc2, hcell⟩)
    have HB := Lib.hid hb; clear hb
    have HN := Lib.hid hn; clear hn
    have HC := Lib.hid hcell; clear hcell
    have hunz := unzz_range HN.out
    generalize hL : bs.length = L at *
    have HL := Lib.hid hL; clear hL
    generalize hM : (vl n).length = M at *
    have HM := Lib.hid hM; clear hM
    generalize hU : unzz n = U at *
    have HU := Lib.hid hU; clear hU
    clear hc2
    go_enter Try.func53, Try.ntmps53
    go_wp2
    go_loop [5, 10] (fun u i => ∃ k : Nat, k < M ∧ i = .int .i64 k ∧ u = .int .u64 (n % 128 ^ k : Nat)) (fun _ i => M - (intOf i).toNat)
    case atStart => exact ⟨0, by omega, rfl, by simp [Nat.mod_one]⟩
    case round =>
      obtain ⟨k, hk, rfl, rfl⟩ := hrel
      obtain ⟨hk', h9, h1, hm, hlast, hend, hmore⟩ := yes_at HB.out HN.out (by rw [HM.out]; exact hk)
      have hcl : w.cell? ⟨b, off + k, none⟩ = some (.int .u8 (bs[k].toNat : Int)) := HC.out k _ (by simp [bV, hk'])
      generalize hbk : bs[k] = ck at *
      have hlt := ck.toNat_lt
      generalize hcn : ck.toNat = c0 at *
      have hkL : k < L := by rw [← HL.out]; exact hk'
      have hu1 : n % 128 ^ k + c0 % 128 * 128 ^ k = n % 128 ^ (k + 1) := by rw [hm]; exact acc_step n k
      have hule : n % 128 ^ (k + 1) ≤ n := Nat.mod_le _ _
      have hadd := add_acc (u0 := n % 128 ^ k) (x := c0 % 128) (by rw [hu1]; have := HN.out; omega)
      rw [hu1] at hadd
      have hmd : (c0 : Int) % 128 = ((c0 % 128 : Nat) : Int) := by omega
      generalize n % 128 ^ k = u0 at *
      have A1 := Lib.hid hm; clear hm
      have A2 := Lib.hid hlast; clear hlast
      have A3 := Lib.hid hend; clear hend
      have A4 := Lib.hid hmore; clear hmore
      have A7 := Lib.hid hbk; clear hbk
      clear hcn h1 hu1 hule
      have hx : c0 % 128 < 128 := Nat.mod_lt _ (by omega)
      generalize c0 % 128 = x at *
      generalize hz : n % 128 ^ (k + 1) = u1 at *
      have HZ := Lib.hid hz; clear hz
      by_cases hc : c0 < 128
      · have hkM : k + 1 = M := by rw [← HM.out]; exact A2.out.1 hc
        have hun : u1 = n := by
          rw [← HZ.out, hkM, ← HM.out]
          exact Nat.mod_eq_of_lt (vl_lt n)
        obtain ⟨q, hq⟩ : ∃ q, u1 / 2 = q := ⟨_, rfl⟩
        have hqb : q ≤ 9223372036854775807 := by have := HN.out; omega
        have hqi : (u1 : Int) / 2 = (q : Int) := by omega
        have hck : k + 1 ≤ c := by omega
        have hcmp : numB U = bs.take (k + 1) := by
          rw [← HU.out, numB_unzz, HB.out, hkM, ← HM.out, List.take_left]
        have hcall := fun W => rnum U W hunz.1 hunz.2
        have HCALL := Lib.hid hcall; clear hcall
        have HCMP := Lib.hid hcmp; clear hcmp
        have hpre := HH.out.pre2 HL.out (k + 1) (by omega)
        have HPRE := Lib.hid hpre; clear hpre
        have cvb := conv_str (HPRE.out.keep (Frm.drew Nowhere w) fun _ _ h => h)
        have hw1 : IntKind.i64.wrap ((k : Int) + 1) = (k : Int) + 1 := IntWalk.i64_in _ (by omega)
        have HKM := Lib.hid hkM; clear hkM
        rcases Nat.mod_two_eq_zero_or_one u1 with h2 | h2
        · have h2i : (u1 : Int) % 2 = 0 := by omega
          have hqU : (q : Int) = U := by rw [← HU.out, ← hun]; unfold unzz; rw [if_pos h2, hq]
          clear hq h2 hun
          go_wp2_with fail
          go_region_with (go_at_call 45; refine (HCALL.out _).mono ?_; rintro e wx ⟨vx, rfl, hcx⟩; have cvx := conv_str hcx.rd; have cvy := conv_str (HPRE.out.keep ((Frm.drew Nowhere w).trans hcx.frm fun _ _ h => h) fun _ _ h => h); have HX := Lib.hid hcx; clear hcx)
          all_goals
            go_wp2
            go_ret3
            exact ⟨tk_ret HKM.out (beq_iff_eq.2 HCMP.out), (Frm.drew Nowhere w).trans HX.out.frm fun _ _ h => h⟩
        · have h2i : (u1 : Int) % 2 = 1 := by omega
          have hqU : -(q : Int) - 1 = U := by rw [← HU.out, ← hun]; unfold unzz; rw [if_neg (by omega), hq]
          clear hq h2 hun
          go_wp2_with fail
          go_region_with (go_at_call 45; refine (HCALL.out _).mono ?_; rintro e wx ⟨vx, rfl, hcx⟩; have cvx := conv_str hcx.rd; have cvy := conv_str (HPRE.out.keep ((Frm.drew Nowhere w).trans hcx.frm fun _ _ h => h) fun _ _ h => h); have HX := Lib.hid hcx; clear hcx)
          all_goals
            go_wp2
            go_ret3
            exact ⟨tk_ret HKM.out (beq_iff_eq.2 HCMP.out), (Frm.drew Nowhere w).trans HX.out.frm fun _ _ h => h⟩
      · have hkM : k + 1 < M := by rw [← HM.out]; exact A4.out (by omega)
        go_wp2
        go_round
        case rel => exact ⟨k + 1, hkM, by go_num, by rw [HZ.out]⟩
        case measure => simp [intOf]; omega

end Go.Proofs.Ytclihppeaikhiaa
