/- codec.In: Num, Text. -/
import Derived.Test.YtclihppeaikhiaaRaw
import Derived.Test.YtclihppeaikhiaaFails
namespace Go.Proofs.Ytclihppeaikhiaa
open Go.RowKit

theorem xor_i64 (n : Nat) (h : n < 18446744073709551616) : bits BinOp.xor IntKind.i64 ((n : Int) / 2) (-((n : Int) % 2)) = unzz n := by
  have e1 : ((n : Int) / 2) = ((n / 2 : Nat) : Int) := by omega
  rw [e1]
  show IntKind.i64.wrap ((BitVec.ofInt 64 ((n / 2 : Nat) : Int) ^^^ BitVec.ofInt 64 (-((n : Int) % 2))).toNat : Int) = _
  rw [BitVec.toNat_xor, ofInt_u64 (n / 2) (by omega)]
  rcases Nat.mod_two_eq_zero_or_one n with h2 | h2
  · have e2 : (-((n : Int) % 2)) = ((0 : Nat) : Int) := by omega
    rw [e2, ofInt_u64 0 (by omega), Nat.xor_zero, IntKind.wrap_i64]
    unfold unzz
    rw [if_pos h2]
    omega
  · have e2 : (-((n : Int) % 2)) = -1 := by omega
    have e3 : (BitVec.ofInt 64 (-1)).toNat = 2 ^ 64 - 1 := by decide
    rw [e2, e3, xor_ones _ (by omega), IntKind.wrap_i64]
    unfold unzz
    rw [if_neg (by omega)]
    omega

/-- What Num does: the number, and the state behind it. -/
def NumStep (st : Option (List UInt8)) (m v : Int) (st' : Option (List UInt8)) : Prop :=
  match st with
  | none => v = 0 ∧ st' = none
  | some bs => (∃ r, Begins bs v r ∧ 0 ≤ m ∧ v ≤ m ∧ -m ≤ v ∧ st' = some r) ∨ ((∀ u r, Begins bs u r → m < 0 ∨ m < u ∨ u < -m) ∧ v = 0 ∧ st' = none)
theorem NumStep.det {st : Option (List UInt8)} {m v u : Int} {s t : Option (List UInt8)} (h : NumStep st m v s) (k : NumStep st m u t) : v = u ∧ s = t := by
  cases st with
  | none => exact ⟨h.1.trans k.1.symm, h.2.trans k.2.symm⟩
  | some bs =>
    rcases h with ⟨r, h1, h2, h3, h4, h5⟩ | ⟨h1, h2, h3⟩ <;> rcases k with ⟨r', k1, k2, k3, k4, k5⟩ | ⟨k1, k2, k3⟩
    · obtain ⟨e1, e2⟩ := h1.unique k1
      exact ⟨e1, by rw [h5, k5, e2]⟩
    · have := k1 _ _ h1; omega
    · have := h1 _ _ k1; omega
    · exact ⟨by rw [h2, k2], by rw [h3, k3]⟩

set_option maxHeartbeats 400000 in
set_option maxRecDepth 1000000 in
theorem inum_yes (ib : Nat) (v : Value) (bs r : List UInt8) (u m : Int) (w : World) (h : InOk w ib v bs) (hb : Begins bs u r) (hm : 0 ≤ m ∧ u ≤ m ∧ -m ≤ u) (hm2 : m ≤ 9223372036854775807) :
    Calls Try.prog 29 #[.pointer (some ⟨ib, 0, none⟩), .int .i64 m] w fun e w' => e = .returned (.int .i64 u) ∧ ∃ v', InOk w' ib v' r ∧ v'.ownBlock = v.ownBlock ∧ Frm (Only ib) w w' := by
  have hn := hb.vl
  have hr := raw_yes ib v bs r (zz u) w h hn.2 hn.1
  have hx := xor_i64 (zz u) hn.1
  have ha := and_one_u64 (zz u) (by omega) (by have := hn.1; omega)
  rw [unzz_zz] at hx
  have c1 := cell_at h.cells 1 rfl
  have hnb := hn.1
  have HR := Lib.hid hr; clear hr
  generalize zz u = n at *
  obtain ⟨h0, h1, h2⟩ := hm
  clear h hb hn
  have hw1 : IntKind.i64.wrap ((n : Int) / 2) = (n : Int) / 2 := IntWalk.i64_in _ (by omega)
  have hw2 : IntKind.i64.wrap ((n : Int) % 2) = (n : Int) % 2 := IntWalk.i64_in _ (by omega)
  have hw3 : IntKind.i64.wrap (-((n : Int) % 2)) = -((n : Int) % 2) := IntWalk.i64_in _ (by omega)
  have HNB := Lib.hid hnb; clear hnb
  go_enter Try.func29, Try.ntmps29
  go_wp2_with (go_at_call 52; refine HR.out.mono ?_)
  rintro e w1 ⟨rfl, v', hv', hown, hfm⟩
  have H1 := Lib.hid hv'; clear hv'
  have H2 := Lib.hid hown; clear hown
  have H3 := Lib.hid hfm; clear hfm
  go_wp2
  go_ret
  exact ⟨rfl, v', H1.out, H2.out, H3.out⟩

set_option maxHeartbeats 400000 in
set_option maxRecDepth 1000000 in
theorem inum_none (ib : Nat) (v : Value) (bs : List UInt8) (m : Int) (w : World) (h : InOk w ib v bs) (hb : NoNum bs) :
    Calls Try.prog 29 #[.pointer (some ⟨ib, 0, none⟩), .int .i64 m] w fun e w' => e = .returned (.int .i64 0) ∧ InBad w' ib ∧ Frm (Only ib) w w' := by
  have hr := raw_no ib v bs w h fun n rest hn e => hb _ _ (Begins.of_vl hn e)
  have hf := fail_go ib v false w h.cells
  have c1 := cell_at h.cells 1 rfl
  have HR := Lib.hid hr; clear hr
  have HF := Lib.hid hf; clear hf
  clear h hb
  have z1 : bits BinOp.and IntKind.u64 0 1 = 0 := by kernel_rfl
  have z2 : bits BinOp.xor IntKind.i64 0 0 = 0 := by kernel_rfl
  go_enter Try.func29, Try.ntmps29
  go_wp2_with (go_at_call 52; refine HR.out.mono ?_)
  rintro e w1 ⟨rfl, rfl⟩
  go_wp2_with (go_at_call 28; refine HF.out.mono ?_)
  rintro e w2 ⟨rfl, hbad, hfm⟩
  have H1 := Lib.hid hbad; clear hbad
  have H2 := Lib.hid hfm; clear hfm
  go_wp2
  go_ret
  exact ⟨rfl, H1.out, H2.out⟩

set_option maxHeartbeats 400000 in
set_option maxRecDepth 1000000 in
theorem inum_out (ib : Nat) (v : Value) (bs r : List UInt8) (u m : Int) (w : World) (h : InOk w ib v bs) (hb : Begins bs u r) (hm : m < 0 ∨ m < u ∨ u < -m) (hm2 : m ≤ 9223372036854775807) (hm3 : -9223372036854775808 ≤ m) :
    Calls Try.prog 29 #[.pointer (some ⟨ib, 0, none⟩), .int .i64 m] w fun e w' => e = .returned (.int .i64 0) ∧ InBad w' ib ∧ Frm (Only ib) w w' := by
  have hn := hb.vl
  have hr := raw_yes ib v bs r (zz u) w h hn.2 hn.1
  have hx := xor_i64 (zz u) hn.1
  have ha := and_one_u64 (zz u) (by omega) (by have := hn.1; omega)
  rw [unzz_zz] at hx
  have c1 := cell_at h.cells 1 rfl
  have hnb := hn.1
  have HR := Lib.hid hr; clear hr
  generalize zz u = n at *
  clear h hb hn
  have hw1 : IntKind.i64.wrap ((n : Int) / 2) = (n : Int) / 2 := IntWalk.i64_in _ (by omega)
  have hw2 : IntKind.i64.wrap ((n : Int) % 2) = (n : Int) % 2 := IntWalk.i64_in _ (by omega)
  have hw3 : IntKind.i64.wrap (-((n : Int) % 2)) = -((n : Int) % 2) := IntWalk.i64_in _ (by omega)
  have HNB := Lib.hid hnb; clear hnb
  rcases (show m < 0 ∨ (0 ≤ m ∧ m < u) ∨ (0 ≤ m ∧ u ≤ m ∧ u < -m) by omega) with h0 | ⟨h0, h1⟩ | ⟨h0, h1, h2⟩
  all_goals
    clear hm
    go_enter Try.func29, Try.ntmps29
    go_wp2_with (go_at_call 52; refine HR.out.mono ?_)
    rintro e w1 ⟨rfl, v', hv', hown, hfm⟩
    have hf := fail_go ib v' false w1 hv'.cells
    have HF := Lib.hid hf; clear hf
    have H3 := Lib.hid hfm; clear hfm
    clear hv' hown
    go_wp2_with (go_at_call 28; refine HF.out.mono ?_)
    rintro e w2 ⟨rfl, hbad, hfm⟩
    have H1 := Lib.hid hbad; clear hbad
    have H2 := Lib.hid hfm; clear hfm
    go_wp2
    go_ret
    exact ⟨rfl, H1.out, H3.out.trans H2.out fun _ _ h => h⟩

/-- Num of whatever state. -/
theorem inum_any (ib : Nat) (st : Option (List UInt8)) (m : Int) (w : World) (h : InSt w ib st) (hm2 : m ≤ 9223372036854775807) (hm3 : -9223372036854775808 ≤ m) :
    Calls Try.prog 29 #[.pointer (some ⟨ib, 0, none⟩), .int .i64 m] w fun e w' => ∃ v st', e = .returned (.int .i64 v) ∧ NumStep st m v st' ∧ InSt w' ib st' ∧ Frm (Only ib) w w' := by
  cases st with
  | none => exact (inum_bad ib m w h).mono fun e w' ⟨he, hw⟩ => ⟨0, none, he, ⟨rfl, rfl⟩, by subst hw; exact ⟨h, Frm.refl _ _⟩⟩
  | some bs =>
    obtain ⟨v, hv, hlt⟩ := h
    by_cases hb : ∃ u r, Begins bs u r
    · obtain ⟨u, r, hb⟩ := hb
      by_cases hm : 0 ≤ m ∧ u ≤ m ∧ -m ≤ u
      · exact (inum_yes ib v bs r u m w hv hb hm hm2).mono fun e w' ⟨he, v', h1, h2, h3⟩ => ⟨u, some r, he, .inl ⟨r, hb, hm.1, hm.2.1, hm.2.2, rfl⟩, ⟨v', h1, fun k hk => hlt k (h2 ▸ hk)⟩, h3⟩
      · exact (inum_out ib v bs r u m w hv hb (by omega) hm2 hm3).mono fun e w' ⟨he, h1, h2⟩ => ⟨0, none, he, .inr ⟨fun u' r' hb' => by
          obtain ⟨e1, _⟩ := hb.unique hb'
          omega, rfl, rfl⟩, h1, h2⟩
    · exact (inum_none ib v bs m w hv fun u r h => hb ⟨u, r, h⟩).mono fun e w' ⟨he, h1, h2⟩ => ⟨0, none, he, .inr ⟨fun u r h => (hb ⟨u, r, h⟩).elim, rfl, rfl⟩, h1, h2⟩

end Go.Proofs.Ytclihppeaikhiaa
