/- codec.In.raw. -/
import Derived.Test.YtclihppeaikhiaaNil
namespace Go.Proofs.Ytclihppeaikhiaa
open Go.RowKit

theorem pow7 (k : Nat) : (2 : Nat) ^ (7 * k) = 128 ^ k := by rw [Nat.pow_mul]
theorem pow128_le {k : Nat} (h : k < 9) : 128 ^ k * 128 ≤ 9223372036854775808 := by
  have h1 : 128 ^ (k + 1) ≤ 128 ^ 9 := Nat.pow_le_pow_right (by omega) (by omega)
  rw [pow128_succ] at h1
  have h3 : (128 : Nat) ^ 9 = 9223372036854775808 := by decide
  omega
/-- The next seven bits, laid on. -/
theorem or_acc {u0 x k : Nat} (hk : k < 9) (hu : u0 < 128 ^ k) (hx : x < 128) : bits BinOp.or IntKind.u64 (u0 : Int) (IntKind.u64.wrap ((x : Int) * 2 ^ (7 * k))) = ((u0 + x * 128 ^ k : Nat) : Int) := by
  have hp := pow128_le hk
  have hm : x * 128 ^ k ≤ 127 * 128 ^ k := Nat.mul_le_mul_right _ (by omega)
  have e : ((x : Int) * 2 ^ (7 * k)) = ((x * 128 ^ k : Nat) : Int) := by rw [← pow7]; simp
  rw [e, IntWalk.u64_in _ (by omega), u64_or_nat _ _ (by omega) (by omega)]
  congr 1
  rw [Nat.or_comm, nat_join (7 * k) (x * 128 ^ k) u0 (by rw [pow7]; exact Nat.mul_mod_left _ _) (by rw [pow7]; exact hu)]
  omega
theorem or_acc9 {u0 x : Nat} (hu : u0 < 128 ^ 9) (hx : x ≤ 1) : bits BinOp.or IntKind.u64 (u0 : Int) (IntKind.u64.wrap ((x : Int) * 9223372036854775808)) = ((u0 + x * 128 ^ 9 : Nat) : Int) := by
  have h3 : (128 : Nat) ^ 9 = 9223372036854775808 := by decide
  rw [h3] at hu ⊢
  have e : ((x : Int) * 9223372036854775808) = ((x * 9223372036854775808 : Nat) : Int) := by simp
  have hm : x * 9223372036854775808 ≤ 9223372036854775808 := by omega
  rw [e, IntWalk.u64_in _ (by omega), u64_or_nat _ _ (by omega) (by omega)]
  congr 1
  have h63 : (2 : Nat) ^ 63 = 9223372036854775808 := by decide
  rw [Nat.or_comm, nat_join 63 (x * 9223372036854775808) u0 (by rw [h63]; exact Nat.mul_mod_left _ _) (by rw [h63]; exact hu)]
  omega
theorem andnot_byte {c : Nat} (h : c < 256) : bits BinOp.andNot IntKind.u8 (c : Int) 128 = ((c % 128 : Nat) : Int) := by
  rw [show (128 : Int) = ((128 : Nat) : Int) from rfl, u8_andNot_nat _ _ h (by omega)]
  congr 1
  exact nat_mask7 c
theorem and_byte {c : Nat} (h : c < 256) : bits BinOp.and IntKind.u8 (c : Int) 128 = if c < 128 then 0 else 128 := by
  rw [show (128 : Int) = ((128 : Nat) : Int) from rfl, u8_and_nat _ _ h (by omega)]
  have hd : ∀ c, c < 256 → c &&& 128 = if c < 128 then 0 else 128 := by decide +kernel
  rw [hd c h]
  split <;> rfl

set_option maxHeartbeats 400000 in
set_option maxRecDepth 1000000 in
theorem raw_yes (ib : Nat) (v : Value) (bs rest : List UInt8) (n : Nat) (w : World) (h : InOk w ib v bs) (hb : bs = vl n ++ rest) (hn : n < 18446744073709551616) :
    Calls Try.prog 52 #[.pointer (some ⟨ib, 0, none⟩)] w fun e w' => e = .returned (.tuple #[.int .u64 n, .bool true]) ∧
      ∃ v', InOk w' ib v' rest ∧ (v'.ownBlock = v.ownBlock) ∧ Frm (Only ib) w w' := by
  have hpos := vl_pos n
  rcases h.rd with ⟨ad, rfl, h0, _⟩ | ⟨b, off, c, rfl, hc1, hc2, hcell⟩
  · exfalso
    rw [hb, List.length_append] at h0
    omega
  · have hi0 := cell_at h.cells 0 rfl
    have hf0 := free_at h.cells 0
    have hl63 : bs.length ≤ 9223372036854775807 := Nat.le_trans hc1 hc2
    have hlen : (vl n).length ≤ bs.length := by rw [hb, List.length_append]; omega
    have hv10 := vl_le10 hn
    have HH := Lib.hid h; clear h
    have HB := Lib.hid hb; clear hb
    have HN := Lib.hid hn; clear hn
    have HC := Lib.hid hcell; clear hcell
    generalize hL : bs.length = L at *
    have HL := Lib.hid hL; clear hL
    generalize hM : (vl n).length = M at *
    have HM := Lib.hid hM; clear hM
    have HC2 := Lib.hid hc2; clear hc2
    go_enter Try.func52, Try.ntmps52
    go_wp2
    go_loop [4, 12] (fun u i => ∃ k : Nat, k < M ∧ i = .int .i64 k ∧ u = .int .u64 (n % 128 ^ k : Nat)) (fun _ i => M - (intOf i).toNat)
    case atStart => exact ⟨0, by omega, rfl, by simp [Nat.mod_one]⟩
    case round =>
      obtain ⟨k, hk, rfl, rfl⟩ := hrel
      obtain ⟨hk', h9, h1, hm, hlast, hend, hmore⟩ := yes_at HB.out HN.out (by rw [HM.out]; exact hk)
      have hcl : w.cell? ⟨b, off + k, none⟩ = some (.int .u8 (bs[k].toNat : Int)) := HC.out k _ (by simp [bV, hk'])
      generalize hbk : bs[k] = ck at *
      have hlt := ck.toNat_lt
      generalize hu : n % 128 ^ k = u0 at *
      generalize hcn : ck.toNat = c0 at *
      have hkL : k < L := by rw [← HL.out]; exact hk'
      have A1 := Lib.hid hm; clear hm
      have A2 := Lib.hid hlast; clear hlast
      have A3 := Lib.hid hend; clear hend
      have A4 := Lib.hid hmore; clear hmore
      have A5 := Lib.hid hu; clear hu
      have A6 := Lib.hid hcn; clear hcn
      have A7 := Lib.hid hbk; clear hbk
      have hx : c0 % 128 < 128 := Nat.mod_lt _ (by omega)
      have hand := andnot_byte (c := c0) (by omega)
      have hand2 := and_byte (c := c0) (by omega)
      have hu0 : u0 < 128 ^ k := by rw [← A5.out]; exact Nat.mod_lt _ (pow128_pos k)
      have hu1 : u0 + c0 % 128 * 128 ^ k = n % 128 ^ (k + 1) := by rw [← A5.out, A1.out]; exact acc_step n k
      by_cases hc : c0 < 128
      · have hfin : ∀ (v' : Value) (u1 : Nat), (∃ m c', v' = .slice (some ⟨b, off, none⟩) m c' ∧ m = 0 ∧ c' = 0 ∧ k + 1 = c) ∨ v' = .slice (some ⟨b, off + (k + 1), none⟩) (L - (k + 1)) (c - (k + 1)) → u1 = n →
            Ending.returned (.tuple #[.int .u64 u1, .bool true]) = .returned (.tuple #[.int .u64 n, .bool true]) ∧ ∃ v'', InOk (w.setCell ⟨ib, 0, none⟩ v') ib v'' rest ∧ (v''.ownBlock = some b) ∧ Frm (Only ib) w (w.setCell ⟨ib, 0, none⟩ v') := by
          intro v' u1 hv hu
          refine ⟨by rw [hu], v', ⟨?_, ?_, ?_⟩, ?_, only_set w ib 0 _⟩
          · have := set_at HH.out.cells 0 v'
            simpa using this
          · have hkM : k + 1 = M := by rw [← HM.out]; exact A2.out.1 hc
            have hrl : rest.length = L - (k + 1) := by
              have h1 := HL.out; have h2 := HM.out; have h3 := congrArg List.length HB.out
              rw [List.length_append] at h3; omega
            have hap : ib ≠ b := fun e => HH.out.apart (by rw [e]; rfl)
            rcases hv with ⟨m, c', rfl, rfl, rfl, hkc⟩ | rfl
            · have : rest = [] := List.eq_nil_of_length_eq_zero (by omega)
              subst this
              exact .inl ⟨_, rfl, rfl, rfl⟩
            · refine .inr ⟨b, off + (k + 1), c - (k + 1), by rw [hrl], by omega, by have := HC2.out; omega, fun j u hu => ?_⟩
              refine (only_set w ib 0 _).cell' ?_ (fun h => hap h.symm)
              have h1 := HC.out (k + 1 + j) u (by
                rw [HB.out, bV_append, List.getElem?_append_right (by rw [bV_length]; have := HM.out; omega)]
                have e : k + 1 + j - (bV (vl n)).length = j := by rw [bV_length, HM.out]; omega
                rw [e]; exact hu)
              rw [← Nat.add_assoc] at h1
              exact h1
          · rcases hv with ⟨m, c', rfl, _⟩ | rfl
            · exact HH.out.apart
            · exact HH.out.apart
          · rcases hv with ⟨m, c', rfl, _⟩ | rfl <;> rfl
        have FIN := Lib.hid hfin; clear hfin
        rw [if_pos hc] at hand2
        have hend := A3.out hc
        have hun : u0 + c0 % 128 * 128 ^ k = n := by
          rw [← A5.out, Nat.mod_eq_of_lt hc, ← hend.1]; exact acc_last n k
        rcases (show k = 9 ∨ k < 9 by omega) with rfl | hk9
        · have hc1 : c0 ≤ 1 := h1 rfl
          have hz0 : ((c0 : Int) == 0) = false := beq_false_of_ne (by have := hend.2; omega)
          have hor := or_acc9 (x := c0 % 128) hu0 (by omega)
          rw [hun] at hor
          generalize c0 % 128 = x at *
          clear hun hend hu1 hu0 h1
          by_cases hcap : 9 + 1 = c
          · go_wp2
            go_ret2
            exact FIN.out _ n (.inl ⟨_, _, rfl, by omega, by omega, hcap⟩) rfl
          · go_wp2
            go_ret2
            exact FIN.out _ n (.inr rfl) rfl
        · have h99 : ((k : Int) == 9) = false := beq_false_of_ne (by omega)
          have hor := or_acc hk9 hu0 hx
          rw [hun] at hor
          by_cases hc00 : c0 = 0
          · have hk0 : k = 0 := by have := hend.2; omega
            subst hk0
            subst hc00
            obtain rfl : u0 = 0 := by simpa using hu0
            obtain rfl : n = 0 := by simpa using hun.symm
            have z1 : bits BinOp.andNot IntKind.u8 0 128 = 0 := by kernel_rfl
            have z2 : bits BinOp.and IntKind.u8 0 128 = 0 := by kernel_rfl
            have z3 : bits BinOp.or IntKind.u64 0 0 = 0 := by kernel_rfl
            have hcl0 : w.cell? ⟨b, off, none⟩ = some (.int .u8 0) := hcl
            clear hun hend hu1 hu0 h1 hand hand2 hor h99 hx hcl
            by_cases hcap : c = 1
            · go_wp2
              go_ret2
              exact FIN.out _ 0 (.inl ⟨_, _, rfl, by omega, by omega, by omega⟩) rfl
            · go_wp2
              go_ret2
              exact FIN.out _ 0 (.inr rfl) rfl
          · have hz0 : ((c0 : Int) == 0) = false := beq_false_of_ne (by omega)
            generalize c0 % 128 = x at *
            clear hun hend hu1 hu0 h1
            by_cases hcap : k + 1 = c
            · go_wp2
              go_ret2
              exact FIN.out _ n (.inl ⟨_, _, rfl, by omega, by omega, hcap⟩) rfl
            · go_wp2
              go_ret2
              exact FIN.out _ n (.inr rfl) rfl
      · rw [if_neg hc] at hand2
        have hk9 : k < 9 := by
          rcases Nat.lt_or_ge k 9 with h | h
          · exact h
          · have := h1 (by omega); omega
        have h99 : ((k : Int) == 9) = false := beq_false_of_ne (by omega)
        have hor := or_acc hk9 hu0 hx
        rw [hu1] at hor
        have hkM : k + 1 < M := by rw [← HM.out]; exact A4.out (by omega)
        clear hu1 hu0
        generalize c0 % 128 = x at *
        generalize hz : n % 128 ^ (k + 1) = u1 at *
        have HZ := Lib.hid hz; clear hz
        clear h1
        go_wp2
        go_round
        case rel => exact ⟨k + 1, by omega, by go_num, by rw [HZ.out]⟩
        case measure => simp [intOf]; omega

set_option maxHeartbeats 400000 in
set_option maxRecDepth 1000000 in
theorem raw_no (ib : Nat) (v : Value) (bs : List UInt8) (w : World) (h : InOk w ib v bs) (hno : ∀ n rest, n < 18446744073709551616 → bs ≠ vl n ++ rest) :
    Calls Try.prog 52 #[.pointer (some ⟨ib, 0, none⟩)] w fun e w' => e = .returned (.tuple #[.int .u64 0, .bool false]) ∧ w = w' := by
  rcases h.rd with ⟨ad, rfl, h0, _⟩ | ⟨b, off, c, rfl, hc1, hc2, hcell⟩
  · have hi0 : w.cell? ⟨ib, 0, none⟩ = some (.slice ad 0 0) := cell_at h.cells 0 rfl
    clear h hno h0
    go_enter Try.func52, Try.ntmps52
    go_wp2
    go_loop [4, 12] (fun u i => u = .int .u64 0 ∧ i = .int .i64 0) (fun _ i => 0)
    case atStart => exact ⟨rfl, rfl⟩
    case round =>
      obtain ⟨rfl, rfl⟩ := hrel
      go_wp2
      go_ret2
      exact ⟨rfl, rfl⟩
  · have hi0 := cell_at h.cells 0 rfl
    have hl63 : bs.length ≤ 9223372036854775807 := Nat.le_trans hc1 hc2
    have HNO := Lib.hid hno; clear hno
    have HC := Lib.hid hcell; clear hcell
    clear h
    generalize hL : bs.length = L at *
    have HL := Lib.hid hL; clear hL
    clear hc2
    go_enter Try.func52, Try.ntmps52
    go_wp2
    go_loop [4, 12] (fun u i => ∃ (k u0 : Nat), k ≤ L ∧ k ≤ 10 ∧ i = .int .i64 k ∧ u = .int .u64 u0 ∧ (k ≤ 9 → u0 < 128 ^ k ∧ Pfx bs k u0)) (fun _ i => L - (intOf i).toNat)
    case atStart => exact ⟨0, 0, by omega, by omega, rfl, rfl, fun _ => ⟨by simp, Pfx.zero bs⟩⟩
    case round =>
      obtain ⟨k, u0, hk, h10, rfl, rfl, hP⟩ := hrel
      have HP := Lib.hid hP; clear hP
      by_cases hlt : k < L
      · have hk' : k < bs.length := by rw [HL.out]; exact hlt
        have hcl : w.cell? ⟨b, off + k, none⟩ = some (.int .u8 (bs[k].toNat : Int)) := HC.out k _ (by simp [bV, hk'])
        generalize hbk : bs[k] = ck at *
        have hclt := ck.toNat_lt
        generalize hcn : ck.toNat = c0 at *
        have HCN := Lib.hid hcn; clear hcn
        have HBK := Lib.hid hbk; clear hbk
        by_cases hk9 : 10 ≤ k
        · go_wp2
          go_ret2
          exact ⟨rfl, rfl⟩
        · obtain ⟨hu0, hpf⟩ := HP.out (by omega)
          have hlast : c0 < 128 → (1 ≤ c0 ∨ k = 0) → (k = 9 → c0 ≤ 1) → False := fun h1 h2 h3 => by
            have hb : bs[k].toNat = c0 := by rw [HBK.out, HCN.out]
            have e := hpf.last hk' (by omega) (by rw [hb]; exact h2) (fun h0 => by subst h0; simpa using hu0)
            rw [hb] at e
            exact HNO.out _ _ (pow_bound (by omega) hu0 h1 h3) e
          have HLA := Lib.hid hlast; clear hlast
          have hx : c0 % 128 < 128 := Nat.mod_lt _ (by omega)
          have hand := andnot_byte (c := c0) (by omega)
          have hand2 := and_byte (c := c0) (by omega)
          rcases (show k = 9 ∨ k < 9 by omega) with rfl | hk9'
          · by_cases hc1 : 1 < c0
            · clear hand hand2 hx hpf hu0
              go_wp2
              go_ret2
              exact ⟨rfl, rfl⟩
            · have hc00 : c0 = 0 := by
                rcases Nat.eq_zero_or_pos c0 with h | h
                · exact h
                · exact (HLA.out (by omega) (.inl h) (by omega)).elim
              subst hc00
              have hcl0 : w.cell? ⟨b, off + 9, none⟩ = some (.int .u8 0) := hcl
              have z1 : bits BinOp.andNot IntKind.u8 0 128 = 0 := by kernel_rfl
              have z2 : bits BinOp.and IntKind.u8 0 128 = 0 := by kernel_rfl
              clear hand hand2 hx hpf hu0 hcl hclt hc1
              go_wp2
              go_ret2
              exact ⟨rfl, rfl⟩
          · have h99 : ((k : Int) == 9) = false := beq_false_of_ne (by omega)
            by_cases hc : c0 < 128
            · have hkc : c0 = 0 ∧ 0 < k := by
                by_cases h2 : 1 ≤ c0 ∨ k = 0
                · exact (HLA.out hc h2 (by omega)).elim
                · omega
              obtain ⟨rfl, hk0⟩ := hkc
              have hcl0 : w.cell? ⟨b, off + k, none⟩ = some (.int .u8 0) := hcl
              have z1 : bits BinOp.andNot IntKind.u8 0 128 = 0 := by kernel_rfl
              have z2 : bits BinOp.and IntKind.u8 0 128 = 0 := by kernel_rfl
              clear hand hand2 hx hpf hu0 hcl hclt hc
              go_wp2
              go_ret2
              exact ⟨rfl, rfl⟩
            · rw [if_neg hc] at hand2
              have hor := or_acc hk9' hu0 hx
              have hs := hpf.step hk' (by rw [HBK.out, HCN.out]; omega)
              rw [HBK.out, HCN.out] at hs
              have hu1 : u0 + c0 % 128 * 128 ^ k < 128 ^ (k + 1) := by
                have hm : c0 % 128 * 128 ^ k ≤ 127 * 128 ^ k := Nat.mul_le_mul_right _ (by omega)
                rw [pow128_succ]; omega
              generalize c0 % 128 = x at *
              generalize u0 + x * 128 ^ k = u1 at *
              have HS := Lib.hid hs; clear hs
              have HU := Lib.hid hu1; clear hu1
              clear hpf hu0
              go_wp2
              go_round
              case rel => exact ⟨k + 1, u1, by omega, by omega, by go_num, rfl, fun _ => ⟨HU.out, HS.out⟩⟩
              case measure => simp [intOf]; omega
      · go_wp2
        go_ret2
        exact ⟨rfl, rfl⟩

end Go.Proofs.Ytclihppeaikhiaa
