/- Words for the law PackBack: Dec, In, Raw, Fails, INum, Unlike, IText. -/
import Derived.Test.YtggfoihfenlckaaGreatPackBackG14
import Derived.WalkArith
import Derived.Deep.QuietTactic
import Derived.BigQuiet
import Derived.OpenShut
set_option linter.unusedSimpArgs false
set_option linter.unusedVariables false
/- The plain law of taking numbers apart. No program in sight. -/
namespace Go.Proofs.YtggfoihfenlckaaGreat
theorem pow128_succ (k : Nat) : 128 ^ (k + 1) = 128 ^ k * 128 := Nat.pow_succ ..
theorem pow128_pos (k : Nat) : 0 < 128 ^ k := Nat.pow_pos (by omega)
/-- Byte k of a number's bytes, while there is one. -/
theorem vl_at {n k : Nat} : (vl n).drop k ≠ [] → (vl n).drop k = vl (n / 128 ^ k) := by
  induction k generalizing n with
  | zero => intro _; simp
  | succ k ih =>
    intro h
    by_cases hn : n < 128
    · rw [vl_small hn] at h
      simp at h
    · rw [vl_big hn] at h ⊢
      rw [List.drop_succ_cons] at h ⊢
      rw [ih h, pow128_succ, Nat.mul_comm, Nat.div_div_eq_div_mul]
/-- How the bytes taken so far and what is still to come make up one number. -/
def Pfx (bs : List UInt8) (k u : Nat) : Prop := ∀ m, 1 ≤ m → bs.take k ++ vl m = vl (u + m * 128 ^ k)
theorem Pfx.zero (bs : List UInt8) : Pfx bs 0 0 := fun m _ => by simp
theorem vl_cons {c : UInt8} {m : Nat} (hc : 128 ≤ c.toNat) (hm : 1 ≤ m) : c :: vl m = vl (c.toNat % 128 + m * 128) := by
  have hlt := c.toNat_lt
  rw [vl_big (n := c.toNat % 128 + m * 128) (by omega)]
  have e1 : (c.toNat % 128 + m * 128) % 128 + 128 = c.toNat := by omega
  have e2 : (c.toNat % 128 + m * 128) / 128 = m := by omega
  rw [e1, e2]
  congr 1
  simp
theorem Pfx.step {bs : List UInt8} {k u : Nat} (h : Pfx bs k u) (hk : k < bs.length) (hc : 128 ≤ bs[k].toNat) : Pfx bs (k + 1) (u + bs[k].toNat % 128 * 128 ^ k) := by
  intro m hm
  rw [List.take_succ_eq_append_getElem hk, List.append_assoc, List.cons_append, List.nil_append, vl_cons hc hm, h _ (by omega), pow128_succ, Nat.add_mul]
  congr 1
  rw [Nat.add_assoc]
  congr 2
  rw [Nat.mul_assoc, Nat.mul_comm 128]
theorem Pfx.last {bs : List UInt8} {k u : Nat} (h : Pfx bs k u) (hk : k < bs.length) (hc : bs[k].toNat < 128) (hz : 1 ≤ bs[k].toNat ∨ k = 0) (h0 : k = 0 → u = 0) :
    bs = vl (u + bs[k].toNat * 128 ^ k) ++ bs.drop (k + 1) := by
  have e : bs.take (k + 1) = vl (u + bs[k].toNat * 128 ^ k) := by
    rw [List.take_succ_eq_append_getElem hk]
    have hb : [bs[k]] = vl bs[k].toNat := by rw [vl_small hc]; simp
    rw [hb]
    rcases Nat.eq_zero_or_pos bs[k].toNat with hz0 | hp
    · rcases hz with h1 | h1
      · omega
      · subst h1
        have := h0 rfl
        subst this
        simp
    · exact h _ hp
  rw [← e, List.take_append_drop]
theorem pow_bound {k u c : Nat} (hk : k ≤ 9) (hu : u < 128 ^ k) (hc : c < 128) (h9 : k = 9 → c ≤ 1) : u + c * 128 ^ k < 18446744073709551616 := by
  rcases Nat.lt_or_ge k 9 with h | h
  · have h1 : 128 ^ (k + 1) ≤ 128 ^ 9 := Nat.pow_le_pow_right (by omega) (by omega)
    have h2 : c * 128 ^ k ≤ 127 * 128 ^ k := Nat.mul_le_mul_right _ (by omega)
    rw [pow128_succ] at h1
    have h3 : (128 : Nat) ^ 9 = 9223372036854775808 := by decide
    omega
  · obtain rfl : k = 9 := by omega
    have h3 : (128 : Nat) ^ 9 = 9223372036854775808 := by decide
    rw [h3] at hu ⊢
    have := h9 rfl
    have h4 : c * 9223372036854775808 ≤ 1 * 9223372036854775808 := Nat.mul_le_mul_right _ this
    omega
/-- In the bytes of a number that fits: the round's facts. -/
theorem yes_at {n k : Nat} {bs rest : List UInt8} (hb : bs = vl n ++ rest) (hn : n < 18446744073709551616) (hk : k < (vl n).length) :
    ∃ h : k < bs.length, k ≤ 9 ∧ (k = 9 → bs[k].toNat ≤ 1) ∧ bs[k].toNat % 128 = n / 128 ^ k % 128 ∧
      (bs[k].toNat < 128 ↔ k + 1 = (vl n).length) ∧ (bs[k].toNat < 128 → n / 128 ^ k = bs[k].toNat ∧ (1 ≤ bs[k].toNat ∨ k = 0)) ∧ (128 ≤ bs[k].toNat → k + 1 < (vl n).length) := by
  subst hb
  have hl := vl_le10 hn
  have hd : (vl n).drop k ≠ [] := fun e => by
    have := congrArg List.length e
    simp at this; omega
  have he := vl_at hd
  have hlen : (vl n).length - k = (vl (n / 128 ^ k)).length := by rw [← he, List.length_drop]
  have hk' : k < (vl n ++ rest).length := by rw [List.length_append]; omega
  have hg : (vl n ++ rest)[k] = (vl n)[k] := List.getElem_append_left hk
  have hh : (vl n)[k]? = (vl (n / 128 ^ k))[0]? := by rw [← he]; simp
  rw [List.getElem?_eq_getElem hk] at hh
  have hmod := Nat.mod_lt (n / 128 ^ k) (show 0 < 128 by omega)
  refine ⟨hk', by omega, ?_⟩
  rw [hg]
  by_cases hs : n / 128 ^ k < 128
  · rw [vl_small hs] at hh hlen
    simp only [List.getElem?_cons_zero, Option.some.injEq] at hh
    have ht : (vl n)[k].toNat = n / 128 ^ k := by rw [hh, toNat_ofNat (by omega)]
    rw [ht]
    simp only [List.length_cons, List.length_nil] at hlen
    refine ⟨fun h9 => ?_, by omega, by omega, fun _ => ⟨rfl, ?_⟩, by omega⟩
    · subst h9
      have h3 : (128 : Nat) ^ 9 = 9223372036854775808 := by decide
      rw [h3]; omega
    · rcases Nat.eq_zero_or_pos k with h0 | h0
      · exact .inr h0
      · left
        obtain ⟨j, rfl⟩ : ∃ j, k = j + 1 := ⟨k - 1, by omega⟩
        have hd' : (vl n).drop j ≠ [] := fun e => by
          have := congrArg List.length e
          simp at this; omega
        have hj := vl_at hd'
        have hlj : (vl n).length - j = (vl (n / 128 ^ j)).length := by rw [← hj, List.length_drop]
        have hbig : ¬ n / 128 ^ j < 128 := fun hs' => by
          rw [vl_small hs'] at hlj; simp at hlj; omega
        rw [pow128_succ, ← Nat.div_div_eq_div_mul]
        omega
  · rw [vl_big hs] at hh hlen
    simp only [List.getElem?_cons_zero, Option.some.injEq] at hh
    have ht : (vl n)[k].toNat = n / 128 ^ k % 128 + 128 := by rw [hh, toNat_ofNat (by omega)]
    rw [ht]
    simp only [List.length_cons] at hlen
    have hp := vl_pos (n / 128 ^ k / 128)
    refine ⟨fun h9 => ?_, by omega, by omega, by omega, by omega⟩
    subst h9
    have h3 : (128 : Nat) ^ 9 = 9223372036854775808 := by decide
    rw [h3] at hs; omega
theorem acc_step (n k : Nat) : n % 128 ^ k + n / 128 ^ k % 128 * 128 ^ k = n % 128 ^ (k + 1) := by
  rw [pow128_succ, Nat.mod_mul, Nat.mul_comm (128 ^ k)]
theorem acc_last (n k : Nat) : n % 128 ^ k + n / 128 ^ k * 128 ^ k = n := by
  rw [Nat.add_comm, Nat.mul_comm]; exact Nat.div_add_mod n (128 ^ k)
/-- The sign unfolded. -/
def unzz (n : Nat) : Int := if n % 2 = 0 then (n / 2 : Nat) else -((n / 2 : Nat) : Int) - 1
theorem unzz_zz (v : Int) : unzz (zz v) = v := by unfold unzz zz; split <;> split <;> omega
theorem zz_unzz (n : Nat) : zz (unzz n) = n := by unfold unzz zz; split <;> split <;> omega
theorem unzz_range {n : Nat} (h : n < 18446744073709551616) : -9223372036854775808 ≤ unzz n ∧ unzz n ≤ 9223372036854775807 := by unfold unzz; split <;> omega
theorem numB_unzz (n : Nat) : numB (unzz n) = vl n := by unfold numB; rw [zz_unzz]
def inR (v : Int) : Prop := -9223372036854775808 ≤ v ∧ v ≤ 9223372036854775807
/-- What bytes begin with: a number that fits, and what is left behind it. -/
def Begins (bs : List UInt8) (v : Int) (rest : List UInt8) : Prop := inR v ∧ bs = numB v ++ rest
theorem Begins.unique {bs r s : List UInt8} {v u : Int} (h : Begins bs v r) (k : Begins bs u s) : v = u ∧ r = s := numB_prefix (h.2.symm.trans k.2)
theorem Begins.of_vl {bs r : List UInt8} {n : Nat} (hn : n < 18446744073709551616) (h : bs = vl n ++ r) : Begins bs (unzz n) r := ⟨unzz_range hn, by rw [numB_unzz]; exact h⟩
theorem Begins.vl {bs r : List UInt8} {v : Int} (h : Begins bs v r) : zz v < 18446744073709551616 ∧ bs = vl (zz v) ++ r := ⟨zz_lt h.1.1 h.1.2, h.2⟩
/-- No number stands there. -/
def NoNum (bs : List UInt8) : Prop := ∀ v r, ¬ Begins bs v r
end Go.Proofs.YtggfoihfenlckaaGreat
/- codec.In: how one lies in memory; Fail, Left, Bad, Done, NewIn, raw. -/
namespace Go.Proofs.YtggfoihfenlckaaGreat
open Go.RowKit
theorem cell_at {w : World} {b : Nat} {cs : Array Value} {t : TypeId} {f : Nat × Nat} (h : w.heap[b]? = some (.cells cs t f)) (j : Nat) {u : Value} (hu : cs[j]? = some u) : w.cell? ⟨b, j, none⟩ = some u :=
  (cell_of_row w b j cs t f h).trans hu
theorem free_at {w : World} {b : Nat} {cs : Array Value} {t : TypeId} (h : w.heap[b]? = some (.cells cs t (0, 0))) (j : Nat) : w.frozen? ⟨b, j, none⟩ = false := by simp [World.frozen?, h]
theorem set_at {w : World} {b : Nat} {cs : Array Value} {t : TypeId} {f : Nat × Nat} (h : w.heap[b]? = some (.cells cs t f)) (j : Nat) (u : Value) : (w.setCell ⟨b, j, none⟩ u).heap[b]? = some (.cells (cs.setIfInBounds j u) t f) := by
  simp only [World.setCell, Array.getElem?_modify, if_true, h, Option.map_some]
  rfl
def Only (b k : Nat) : Prop := k = b
def Nowhere (_ : Nat) : Prop := False
theorem only_set (w : World) (b j : Nat) (u : Value) : Frm (Only b) w (w.setCell ⟨b, j, none⟩ u) := Frm.setCell (S := Only b) w (p := ⟨b, j, none⟩) (.inl (show Only b b from rfl)) u
structure InOk (w : World) (ib : Nat) (v : Value) (bs : List UInt8) : Prop where
  cells : w.heap[ib]? = some (.cells #[v, .bool false] 110 (0, 0))
  rd : Rd w v bs.length (bV bs)
  apart : v.ownBlock ≠ some ib
def InBad (w : World) (ib : Nat) : Prop := w.heap[ib]? = some (.cells #[.slice none 0 0, .bool true] 110 (0, 0))
/-- The state: none: it is bad; else what is left. -/
def InSt (w : World) (ib : Nat) : Option (List UInt8) → Prop
  | none => InBad w ib
  | some bs => ∃ v, InOk w ib v bs ∧ ∀ k, v.ownBlock = some k → k < ib
def leftOf : Option (List UInt8) → List UInt8
  | none => []
  | some bs => bs
theorem InOk.keep {w w' : World} {ib : Nat} {v : Value} {bs : List UInt8} (h : InOk w ib v bs) {S : Nat → Prop} (f : Frm S w w') (h1 : ¬ S ib) (h2 : ∀ k, v.ownBlock = some k → ¬ S k) : InOk w' ib v bs :=
  ⟨f.blk h.cells h1, h.rd.keep f h2, h.apart⟩
set_option maxHeartbeats 400000 in
set_option maxRecDepth 1000000 in
theorem fail_go (ib : Nat) (v : Value) (b : Bool) (w : World) (h : w.heap[ib]? = some (.cells #[v, .bool b] 110 (0, 0))) :
    Calls Tryz.prog 79 #[.pointer (some ⟨ib, 0, none⟩)] w fun e w' => e = .returned (.tuple #[]) ∧ InBad w' ib ∧ Frm (Only ib) w w' := by
  have c0 := cell_at h 0 rfl
  have c1 := cell_at h 1 rfl
  have f0 := free_at h 0
  have f1 := free_at h 1
  have HH := Lib.hid h; clear h
  go_enter Tryz.func79, Tryz.ntmps79
  go_wp2
  go_end0
  refine ⟨rfl, ?_, ?_⟩
  · have := set_at (set_at HH.out 0 (.slice none 0 0)) 1 (.bool true)
    unfold InBad
    simpa using this
  · exact (only_set w ib 0 _).trans (only_set _ ib 1 _) fun _ _ h => h
theorem rd_shape {w : World} {v : Value} {n : Nat} {xs : List Value} (h : Rd w v n xs) : ∃ a c, v = .slice a n c := by
  rcases h with ⟨ad, rfl, rfl, _⟩ | ⟨b, off, c, rfl, _⟩
  · exact ⟨ad, 0, rfl⟩
  · exact ⟨_, c, rfl⟩
theorem InSt.heap {w : World} {ib : Nat} {st : Option (List UInt8)} (h : InSt w ib st) : ∃ a c, w.heap[ib]? = some (.cells #[.slice a (leftOf st).length c, .bool st.isNone] 110 (0, 0)) := by
  cases st with
  | none => exact ⟨none, 0, h⟩
  | some bs =>
    obtain ⟨v, hv, _⟩ := h
    obtain ⟨a, c, rfl⟩ := rd_shape hv.rd
    exact ⟨a, c, hv.cells⟩
set_option maxHeartbeats 400000 in
set_option maxRecDepth 1000000 in
theorem left_go (ib : Nat) (st : Option (List UInt8)) (w : World) (h : InSt w ib st) :
    Calls Tryz.prog 18 #[.pointer (some ⟨ib, 0, none⟩)] w fun e w' => e = .returned (.int .i64 (leftOf st).length) ∧ w = w' := by
  obtain ⟨a, c, hh⟩ := h.heap
  have c0 := cell_at hh 0 rfl
  clear h hh
  go_enter Tryz.func18, Tryz.ntmps18
  go_wp2
  go_ret
  exact ⟨rfl, rfl⟩
set_option maxHeartbeats 400000 in
set_option maxRecDepth 1000000 in
theorem bad_go (ib : Nat) (st : Option (List UInt8)) (w : World) (h : InSt w ib st) :
    Calls Tryz.prog 17 #[.pointer (some ⟨ib, 0, none⟩)] w fun e w' => e = .returned (.bool st.isNone) ∧ w = w' := by
  obtain ⟨a, c, hh⟩ := h.heap
  generalize st.isNone = bd at *
  have c1 := cell_at hh 1 rfl
  clear h hh
  go_enter Tryz.func17, Tryz.ntmps17
  go_wp2
  go_ret
  exact ⟨rfl, rfl⟩
def doneOf : Option (List UInt8) → Bool
  | none => false
  | some bs => bs.length == 0
set_option maxHeartbeats 400000 in
set_option maxRecDepth 1000000 in
theorem done_go (ib : Nat) (st : Option (List UInt8)) (w : World) (h : InSt w ib st) :
    Calls Tryz.prog 19 #[.pointer (some ⟨ib, 0, none⟩)] w fun e w' => e = .returned (.bool (doneOf st)) ∧ w = w' := by
  cases st with
  | none =>
    have c0 := cell_at (show w.heap[ib]? = _ from h) 0 rfl
    have c1 := cell_at (show w.heap[ib]? = _ from h) 1 rfl
    clear h
    go_enter Tryz.func19, Tryz.ntmps19
    go_wp2
    go_ret
    exact ⟨rfl, rfl⟩
  | some bs =>
    obtain ⟨v, hv, _⟩ := h
    obtain ⟨a, c, rfl⟩ := rd_shape hv.rd
    have c0 := cell_at hv.cells 0 rfl
    have c1 := cell_at hv.cells 1 rfl
    clear hv
    by_cases h0 : bs.length = 0
    · have hd : ((bs.length : Int) == 0) = true := by simp [h0]
      have he : doneOf (some bs) = true := by simp [doneOf, h0]
      rw [he]
      clear he h0
      go_enter Tryz.func19, Tryz.ntmps19
      go_wp2
      go_ret
      exact ⟨rfl, rfl⟩
    · have hd : ((bs.length : Int) == 0) = false := beq_false_of_ne (by omega)
      have he : doneOf (some bs) = false := by simp [doneOf]; simpa using h0
      rw [he]
      clear he h0
      go_enter Tryz.func19, Tryz.ntmps19
      go_wp2
      go_ret
      exact ⟨rfl, rfl⟩
set_option maxHeartbeats 400000 in
set_option maxRecDepth 1000000 in
theorem newin (v : Value) (bs : List UInt8) (w : World) (h : Rd w v bs.length (bV bs)) (hl : bs.length ≤ 140737488355328) :
    Calls Tryz.prog 15 #[v] w fun e w' => ∃ ib, e = .returned (.pointer (some ⟨ib, 0, none⟩)) ∧ InSt w' ib (some bs) ∧ w.heap.size ≤ ib ∧ Frm Nowhere w w' := by
  have hc := clone_any w v bs h hl
  have HC := Lib.hid hc; clear hc
  clear h
  go_enter Tryz.func15, Tryz.ntmps15
  go_wp2_with (go_at_call 61; refine HC.out.mono ?_)
  rintro e w1 ⟨v1, rfl, hcp⟩
  obtain ⟨a, c, rfl⟩ := hcp.shape
  have HP := Lib.hid hcp; clear hcp
  go_wp2
  go_ret
  refine ⟨_, rfl, ⟨_, ⟨heap_alloc_new w1 _, ?_, ?_⟩, ?_⟩, HP.out.frm.size, HP.out.frm.trans (Frm.alloc Nowhere w1 _) fun _ _ h => h⟩
  · exact HP.out.rd.keep (Frm.alloc Nowhere w1 _) fun _ _ h => h
  · intro e
    have := HP.out.own.lt _ e
    omega
  · intro k e
    exact (HP.out.own.lt _ e).2
end Go.Proofs.YtggfoihfenlckaaGreat
/- codec.In.raw. -/
namespace Go.Proofs.YtggfoihfenlckaaGreat
open Go.RowKit
theorem pow7 (k : Nat) : (2 : Nat) ^ (7 * k) = 128 ^ k := by rw [Nat.pow_mul]
theorem pow128_le {k : Nat} (h : k < 9) : 128 ^ k * 128 ≤ 9223372036854775808 := by
  have h1 : 128 ^ (k + 1) ≤ 128 ^ 9 := Nat.pow_le_pow_right (by omega) (by omega)
  rw [pow128_succ] at h1
  have h3 : (128 : Nat) ^ 9 = 9223372036854775808 := by decide
  omega
/-- The next seven bits, laid on. -/
theorem or_acc {u0 x k : Nat} (hk : k < 9) (hu : u0 < 128 ^ k) (hx : x < 128) : bits BinOp.or IntKind.u64 (u0 : Int) (IntKind.u64.wrap ((x : Int) * 2 ^ (7 * k))) = ((u0 + x * 128 ^ k : Nat) : Int) := by
  have hp := pow128_le hk
  have hm : x * 128 ^ k ≤ 127 * 128 ^ k := Nat.mul_le_mul_right _ (by omega)
  have e : ((x : Int) * 2 ^ (7 * k)) = ((x * 128 ^ k : Nat) : Int) := by rw [← pow7]; simp
  rw [e, IntWalk.u64_in _ (by omega), u64_or_nat _ _ (by omega) (by omega)]
  congr 1
  rw [Nat.or_comm, nat_join (7 * k) (x * 128 ^ k) u0 (by rw [pow7]; exact Nat.mul_mod_left _ _) (by rw [pow7]; exact hu)]
  omega
theorem or_acc9 {u0 x : Nat} (hu : u0 < 128 ^ 9) (hx : x ≤ 1) : bits BinOp.or IntKind.u64 (u0 : Int) (IntKind.u64.wrap ((x : Int) * 9223372036854775808)) = ((u0 + x * 128 ^ 9 : Nat) : Int) := by
  have h3 : (128 : Nat) ^ 9 = 9223372036854775808 := by decide
  rw [h3] at hu ⊢
  have e : ((x : Int) * 9223372036854775808) = ((x * 9223372036854775808 : Nat) : Int) := by simp
  have hm : x * 9223372036854775808 ≤ 9223372036854775808 := by omega
  rw [e, IntWalk.u64_in _ (by omega), u64_or_nat _ _ (by omega) (by omega)]
  congr 1
  have h63 : (2 : Nat) ^ 63 = 9223372036854775808 := by decide
  rw [Nat.or_comm, nat_join 63 (x * 9223372036854775808) u0 (by rw [h63]; exact Nat.mul_mod_left _ _) (by rw [h63]; exact hu)]
  omega
theorem andnot_byte {c : Nat} (h : c < 256) : bits BinOp.andNot IntKind.u8 (c : Int) 128 = ((c % 128 : Nat) : Int) := by
  rw [show (128 : Int) = ((128 : Nat) : Int) from rfl, u8_andNot_nat _ _ h (by omega)]
  congr 1
  exact nat_mask7 c
theorem and_byte {c : Nat} (h : c < 256) : bits BinOp.and IntKind.u8 (c : Int) 128 = if c < 128 then 0 else 128 := by
  rw [show (128 : Int) = ((128 : Nat) : Int) from rfl, u8_and_nat _ _ h (by omega)]
  have hd : ∀ c, c < 256 → c &&& 128 = if c < 128 then 0 else 128 := by decide +kernel
  rw [hd c h]
  split <;> rfl
set_option maxHeartbeats 400000 in
set_option maxRecDepth 1000000 in
theorem raw_yes (ib : Nat) (v : Value) (bs rest : List UInt8) (n : Nat) (w : World) (h : InOk w ib v bs) (hb : bs = vl n ++ rest) (hn : n < 18446744073709551616) :
    Calls Tryz.prog 126 #[.pointer (some ⟨ib, 0, none⟩)] w fun e w' => e = .returned (.tuple #[.int .u64 n, .bool true]) ∧
      ∃ v', InOk w' ib v' rest ∧ (v'.ownBlock = v.ownBlock) ∧ Frm (Only ib) w w' := by
  have hpos := vl_pos n
  rcases h.rd with ⟨ad, rfl, h0, _⟩ | ⟨b, off, c, rfl, hc1, hc2, hcell⟩
  · exfalso
    rw [hb, List.length_append] at h0
    omega
  · have hi0 := cell_at h.cells 0 rfl
    have hf0 := free_at h.cells 0
    have hl63 : bs.length ≤ 9223372036854775807 := Nat.le_trans hc1 hc2
    have hlen : (vl n).length ≤ bs.length := by rw [hb, List.length_append]; omega
    have hv10 := vl_le10 hn
    have HH := Lib.hid h; clear h
    have HB := Lib.hid hb; clear hb
    have HN := Lib.hid hn; clear hn
    have HC := Lib.hid hcell; clear hcell
    generalize hL : bs.length = L at *
    have HL := Lib.hid hL; clear hL
    generalize hM : (vl n).length = M at *
    have HM := Lib.hid hM; clear hM
    have HC2 := Lib.hid hc2; clear hc2
    go_enter Tryz.func126, Tryz.ntmps126
    go_wp2
    go_loop [4, 12] (fun u i => ∃ k : Nat, k < M ∧ i = .int .i64 k ∧ u = .int .u64 (n % 128 ^ k : Nat)) (fun _ i => M - (intOf i).toNat)
    case atStart => exact ⟨0, by omega, rfl, by simp [Nat.mod_one]⟩
    case round =>
      obtain ⟨k, hk, rfl, rfl⟩ := hrel
      obtain ⟨hk', h9, h1, hm, hlast, hend, hmore⟩ := yes_at HB.out HN.out (by rw [HM.out]; exact hk)
      have hcl : w.cell? ⟨b, off + k, none⟩ = some (.int .u8 (bs[k].toNat : Int)) := HC.out k _ (by simp [bV, hk'])
      generalize hbk : bs[k] = ck at *
      have hlt := ck.toNat_lt
      generalize hu : n % 128 ^ k = u0 at *
      generalize hcn : ck.toNat = c0 at *
      have hkL : k < L := by rw [← HL.out]; exact hk'
      have A1 := Lib.hid hm; clear hm
      have A2 := Lib.hid hlast; clear hlast
      have A3 := Lib.hid hend; clear hend
      have A4 := Lib.hid hmore; clear hmore
      have A5 := Lib.hid hu; clear hu
      have A6 := Lib.hid hcn; clear hcn
      have A7 := Lib.hid hbk; clear hbk
      have hx : c0 % 128 < 128 := Nat.mod_lt _ (by omega)
      have hand := andnot_byte (c := c0) (by omega)
      have hand2 := and_byte (c := c0) (by omega)
      have hu0 : u0 < 128 ^ k := by rw [← A5.out]; exact Nat.mod_lt _ (pow128_pos k)
      have hu1 : u0 + c0 % 128 * 128 ^ k = n % 128 ^ (k + 1) := by rw [← A5.out, A1.out]; exact acc_step n k
      by_cases hc : c0 < 128
      · have hfin : ∀ (v' : Value) (u1 : Nat), (∃ m c', v' = .slice (some ⟨b, off, none⟩) m c' ∧ m = 0 ∧ c' = 0 ∧ k + 1 = c) ∨ v' = .slice (some ⟨b, off + (k + 1), none⟩) (L - (k + 1)) (c - (k + 1)) → u1 = n →
            Ending.returned (.tuple #[.int .u64 u1, .bool true]) = .returned (.tuple #[.int .u64 n, .bool true]) ∧ ∃ v'', InOk (w.setCell ⟨ib, 0, none⟩ v') ib v'' rest ∧ (v''.ownBlock = some b) ∧ Frm (Only ib) w (w.setCell ⟨ib, 0, none⟩ v') := by
          intro v' u1 hv hu
          refine ⟨by rw [hu], v', ⟨?_, ?_, ?_⟩, ?_, only_set w ib 0 _⟩
          · have := set_at HH.out.cells 0 v'
            simpa using this
          · have hkM : k + 1 = M := by rw [← HM.out]; exact A2.out.1 hc
            have hrl : rest.length = L - (k + 1) := by
              have h1 := HL.out; have h2 := HM.out; have h3 := congrArg List.length HB.out
              rw [List.length_append] at h3; omega
            have hap : ib ≠ b := fun e => HH.out.apart (by rw [e]; rfl)
            rcases hv with ⟨m, c', rfl, rfl, rfl, hkc⟩ | rfl
            · have : rest = [] := List.eq_nil_of_length_eq_zero (by omega)
              subst this
              exact .inl ⟨_, rfl, rfl, rfl⟩
            · refine .inr ⟨b, off + (k + 1), c - (k + 1), by rw [hrl], by omega, by have := HC2.out; omega, fun j u hu => ?_⟩
              refine (only_set w ib 0 _).cell' ?_ (fun h => hap h.symm)
              have h1 := HC.out (k + 1 + j) u (by
                rw [HB.out, bV_append, List.getElem?_append_right (by rw [bV_length]; have := HM.out; omega)]
                have e : k + 1 + j - (bV (vl n)).length = j := by rw [bV_length, HM.out]; omega
                rw [e]; exact hu)
              rw [← Nat.add_assoc] at h1
              exact h1
          · rcases hv with ⟨m, c', rfl, _⟩ | rfl
            · exact HH.out.apart
            · exact HH.out.apart
          · rcases hv with ⟨m, c', rfl, _⟩ | rfl <;> rfl
        have FIN := Lib.hid hfin; clear hfin
        rw [if_pos hc] at hand2
        have hend := A3.out hc
        have hun : u0 + c0 % 128 * 128 ^ k = n := by
          rw [← A5.out, Nat.mod_eq_of_lt hc, ← hend.1]; exact acc_last n k
        rcases (show k = 9 ∨ k < 9 by omega) with rfl | hk9
        · have hc1 : c0 ≤ 1 := h1 rfl
          have hz0 : ((c0 : Int) == 0) = false := beq_false_of_ne (by have := hend.2; omega)
          have hor := or_acc9 (x := c0 % 128) hu0 (by omega)
          rw [hun] at hor
          generalize c0 % 128 = x at *
          clear hun hend hu1 hu0 h1
          by_cases hcap : 9 + 1 = c
          · go_wp2
            go_ret2
            exact FIN.out _ n (.inl ⟨_, _, rfl, by omega, by omega, hcap⟩) rfl
          · go_wp2
            go_ret2
            exact FIN.out _ n (.inr rfl) rfl
        · have h99 : ((k : Int) == 9) = false := beq_false_of_ne (by omega)
          have hor := or_acc hk9 hu0 hx
          rw [hun] at hor
          by_cases hc00 : c0 = 0
          · have hk0 : k = 0 := by have := hend.2; omega
            subst hk0
            subst hc00
            obtain rfl : u0 = 0 := by simpa using hu0
            obtain rfl : n = 0 := by simpa using hun.symm
            have z1 : bits BinOp.andNot IntKind.u8 0 128 = 0 := by kernel_rfl
            have z2 : bits BinOp.and IntKind.u8 0 128 = 0 := by kernel_rfl
            have z3 : bits BinOp.or IntKind.u64 0 0 = 0 := by kernel_rfl
            have hcl0 : w.cell? ⟨b, off, none⟩ = some (.int .u8 0) := hcl
            clear hun hend hu1 hu0 h1 hand hand2 hor h99 hx hcl
            by_cases hcap : c = 1
            · go_wp2
              go_ret2
              exact FIN.out _ 0 (.inl ⟨_, _, rfl, by omega, by omega, by omega⟩) rfl
            · go_wp2
              go_ret2
              exact FIN.out _ 0 (.inr rfl) rfl
          · have hz0 : ((c0 : Int) == 0) = false := beq_false_of_ne (by omega)
            generalize c0 % 128 = x at *
            clear hun hend hu1 hu0 h1
            by_cases hcap : k + 1 = c
            · go_wp2
              go_ret2
              exact FIN.out _ n (.inl ⟨_, _, rfl, by omega, by omega, hcap⟩) rfl
            · go_wp2
              go_ret2
              exact FIN.out _ n (.inr rfl) rfl
      · rw [if_neg hc] at hand2
        have hk9 : k < 9 := by
          rcases Nat.lt_or_ge k 9 with h | h
          · exact h
          · have := h1 (by omega); omega
        have h99 : ((k : Int) == 9) = false := beq_false_of_ne (by omega)
        have hor := or_acc hk9 hu0 hx
        rw [hu1] at hor
        have hkM : k + 1 < M := by rw [← HM.out]; exact A4.out (by omega)
        clear hu1 hu0
        generalize c0 % 128 = x at *
        generalize hz : n % 128 ^ (k + 1) = u1 at *
        have HZ := Lib.hid hz; clear hz
        clear h1
        go_wp2
        go_round
        case rel => exact ⟨k + 1, by omega, by go_num, by rw [HZ.out]⟩
        case measure => simp [intOf]; omega
set_option maxHeartbeats 400000 in
set_option maxRecDepth 1000000 in
theorem raw_no (ib : Nat) (v : Value) (bs : List UInt8) (w : World) (h : InOk w ib v bs) (hno : ∀ n rest, n < 18446744073709551616 → bs ≠ vl n ++ rest) :
    Calls Tryz.prog 126 #[.pointer (some ⟨ib, 0, none⟩)] w fun e w' => e = .returned (.tuple #[.int .u64 0, .bool false]) ∧ w = w' := by
  rcases h.rd with ⟨ad, rfl, h0, _⟩ | ⟨b, off, c, rfl, hc1, hc2, hcell⟩
  · have hi0 : w.cell? ⟨ib, 0, none⟩ = some (.slice ad 0 0) := cell_at h.cells 0 rfl
    clear h hno h0
    go_enter Tryz.func126, Tryz.ntmps126
    go_wp2
    go_loop [4, 12] (fun u i => u = .int .u64 0 ∧ i = .int .i64 0) (fun _ i => 0)
    case atStart => exact ⟨rfl, rfl⟩
    case round =>
      obtain ⟨rfl, rfl⟩ := hrel
      go_wp2
      go_ret2
      exact ⟨rfl, rfl⟩
  · have hi0 := cell_at h.cells 0 rfl
    have hl63 : bs.length ≤ 9223372036854775807 := Nat.le_trans hc1 hc2
    have HNO := Lib.hid hno; clear hno
    have HC := Lib.hid hcell; clear hcell
    clear h
    generalize hL : bs.length = L at *
    have HL := Lib.hid hL; clear hL
    clear hc2
    go_enter Tryz.func126, Tryz.ntmps126
    go_wp2
    go_loop [4, 12] (fun u i => ∃ (k u0 : Nat), k ≤ L ∧ k ≤ 10 ∧ i = .int .i64 k ∧ u = .int .u64 u0 ∧ (k ≤ 9 → u0 < 128 ^ k ∧ Pfx bs k u0)) (fun _ i => L - (intOf i).toNat)
    case atStart => exact ⟨0, 0, by omega, by omega, rfl, rfl, fun _ => ⟨by simp, Pfx.zero bs⟩⟩
    case round =>
      obtain ⟨k, u0, hk, h10, rfl, rfl, hP⟩ := hrel
      have HP := Lib.hid hP; clear hP
      by_cases hlt : k < L
      · have hk' : k < bs.length := by rw [HL.out]; exact hlt
        have hcl : w.cell? ⟨b, off + k, none⟩ = some (.int .u8 (bs[k].toNat : Int)) := HC.out k _ (by simp [bV, hk'])
        generalize hbk : bs[k] = ck at *
        have hclt := ck.toNat_lt
        generalize hcn : ck.toNat = c0 at *
        have HCN := Lib.hid hcn; clear hcn
        have HBK := Lib.hid hbk; clear hbk
        by_cases hk9 : 10 ≤ k
        · go_wp2
          go_ret2
          exact ⟨rfl, rfl⟩
        · obtain ⟨hu0, hpf⟩ := HP.out (by omega)
          have hlast : c0 < 128 → (1 ≤ c0 ∨ k = 0) → (k = 9 → c0 ≤ 1) → False := fun h1 h2 h3 => by
            have hb : bs[k].toNat = c0 := by rw [HBK.out, HCN.out]
            have e := hpf.last hk' (by omega) (by rw [hb]; exact h2) (fun h0 => by subst h0; simpa using hu0)
            rw [hb] at e
            exact HNO.out _ _ (pow_bound (by omega) hu0 h1 h3) e
          have HLA := Lib.hid hlast; clear hlast
          have hx : c0 % 128 < 128 := Nat.mod_lt _ (by omega)
          have hand := andnot_byte (c := c0) (by omega)
          have hand2 := and_byte (c := c0) (by omega)
          rcases (show k = 9 ∨ k < 9 by omega) with rfl | hk9'
          · by_cases hc1 : 1 < c0
            · clear hand hand2 hx hpf hu0
              go_wp2
              go_ret2
              exact ⟨rfl, rfl⟩
            · have hc00 : c0 = 0 := by
                rcases Nat.eq_zero_or_pos c0 with h | h
                · exact h
                · exact (HLA.out (by omega) (.inl h) (by omega)).elim
              subst hc00
              have hcl0 : w.cell? ⟨b, off + 9, none⟩ = some (.int .u8 0) := hcl
              have z1 : bits BinOp.andNot IntKind.u8 0 128 = 0 := by kernel_rfl
              have z2 : bits BinOp.and IntKind.u8 0 128 = 0 := by kernel_rfl
              clear hand hand2 hx hpf hu0 hcl hclt hc1
              go_wp2
              go_ret2
              exact ⟨rfl, rfl⟩
          · have h99 : ((k : Int) == 9) = false := beq_false_of_ne (by omega)
            by_cases hc : c0 < 128
            · have hkc : c0 = 0 ∧ 0 < k := by
                by_cases h2 : 1 ≤ c0 ∨ k = 0
                · exact (HLA.out hc h2 (by omega)).elim
                · omega
              obtain ⟨rfl, hk0⟩ := hkc
              have hcl0 : w.cell? ⟨b, off + k, none⟩ = some (.int .u8 0) := hcl
              have z1 : bits BinOp.andNot IntKind.u8 0 128 = 0 := by kernel_rfl
              have z2 : bits BinOp.and IntKind.u8 0 128 = 0 := by kernel_rfl
              clear hand hand2 hx hpf hu0 hcl hclt hc
              go_wp2
              go_ret2
              exact ⟨rfl, rfl⟩
            · rw [if_neg hc] at hand2
              have hor := or_acc hk9' hu0 hx
              have hs := hpf.step hk' (by rw [HBK.out, HCN.out]; omega)
              rw [HBK.out, HCN.out] at hs
              have hu1 : u0 + c0 % 128 * 128 ^ k < 128 ^ (k + 1) := by
                have hm : c0 % 128 * 128 ^ k ≤ 127 * 128 ^ k := Nat.mul_le_mul_right _ (by omega)
                rw [pow128_succ]; omega
              generalize c0 % 128 = x at *
              generalize u0 + x * 128 ^ k = u1 at *
              have HS := Lib.hid hs; clear hs
              have HU := Lib.hid hu1; clear hu1
              clear hpf hu0
              go_wp2
              go_round
              case rel => exact ⟨k + 1, u1, by omega, by omega, by go_num, rfl, fun _ => ⟨HU.out, HS.out⟩⟩
              case measure => simp [intOf]; omega
      · go_wp2
        go_ret2
        exact ⟨rfl, rfl⟩
end Go.Proofs.YtggfoihfenlckaaGreat
/- tributarylaw02: Asks; CodecFails: the walk. -/
namespace Go.Proofs.YtggfoihfenlckaaGreat
open Go.RowKit Go.WideShapes
set_option maxHeartbeats 400000 in
set_option maxRecDepth 1000000 in
theorem inum_bad (ib : Nat) (m : Int) (w : World) (h : InBad w ib) : Calls Tryz.prog 77 #[.pointer (some ⟨ib, 0, none⟩), .int .i64 m] w fun e w' => e = .returned (.int .i64 0) ∧ w = w' := by
  have c1 := cell_at (show w.heap[ib]? = _ from h) 1 rfl
  clear h
  go_enter Tryz.func77, Tryz.ntmps77
  go_wp2
  go_ret
  exact ⟨rfl, rfl⟩
end Go.Proofs.YtggfoihfenlckaaGreat
/- codec.In: Num, Text. -/
namespace Go.Proofs.YtggfoihfenlckaaGreat
open Go.RowKit
theorem xor_i64 (n : Nat) (h : n < 18446744073709551616) : bits BinOp.xor IntKind.i64 ((n : Int) / 2) (-((n : Int) % 2)) = unzz n := by
  have e1 : ((n : Int) / 2) = ((n / 2 : Nat) : Int) := by omega
  rw [e1]
  show IntKind.i64.wrap ((BitVec.ofInt 64 ((n / 2 : Nat) : Int) ^^^ BitVec.ofInt 64 (-((n : Int) % 2))).toNat : Int) = _
  rw [BitVec.toNat_xor, ofInt_u64 (n / 2) (by omega)]
  rcases Nat.mod_two_eq_zero_or_one n with h2 | h2
  · have e2 : (-((n : Int) % 2)) = ((0 : Nat) : Int) := by omega
    rw [e2, ofInt_u64 0 (by omega), Nat.xor_zero, IntKind.wrap_i64]
    unfold unzz
    rw [if_pos h2]
    omega
  · have e2 : (-((n : Int) % 2)) = -1 := by omega
    have e3 : (BitVec.ofInt 64 (-1)).toNat = 2 ^ 64 - 1 := by decide
    rw [e2, e3, xor_ones _ (by omega), IntKind.wrap_i64]
    unfold unzz
    rw [if_neg (by omega)]
    omega
/-- What Num does: the number, and the state behind it. -/
def NumStep (st : Option (List UInt8)) (m v : Int) (st' : Option (List UInt8)) : Prop :=
  match st with
  | none => v = 0 ∧ st' = none
  | some bs => (∃ r, Begins bs v r ∧ 0 ≤ m ∧ v ≤ m ∧ -m ≤ v ∧ st' = some r) ∨ ((∀ u r, Begins bs u r → m < 0 ∨ m < u ∨ u < -m) ∧ v = 0 ∧ st' = none)
theorem NumStep.det {st : Option (List UInt8)} {m v u : Int} {s t : Option (List UInt8)} (h : NumStep st m v s) (k : NumStep st m u t) : v = u ∧ s = t := by
  cases st with
  | none => exact ⟨h.1.trans k.1.symm, h.2.trans k.2.symm⟩
  | some bs =>
    rcases h with ⟨r, h1, h2, h3, h4, h5⟩ | ⟨h1, h2, h3⟩ <;> rcases k with ⟨r', k1, k2, k3, k4, k5⟩ | ⟨k1, k2, k3⟩
    · obtain ⟨e1, e2⟩ := h1.unique k1
      exact ⟨e1, by rw [h5, k5, e2]⟩
    · have := k1 _ _ h1; omega
    · have := h1 _ _ k1; omega
    · exact ⟨by rw [h2, k2], by rw [h3, k3]⟩
set_option maxHeartbeats 400000 in
set_option maxRecDepth 1000000 in
theorem inum_yes (ib : Nat) (v : Value) (bs r : List UInt8) (u m : Int) (w : World) (h : InOk w ib v bs) (hb : Begins bs u r) (hm : 0 ≤ m ∧ u ≤ m ∧ -m ≤ u) (hm2 : m ≤ 9223372036854775807) :
    Calls Tryz.prog 77 #[.pointer (some ⟨ib, 0, none⟩), .int .i64 m] w fun e w' => e = .returned (.int .i64 u) ∧ ∃ v', InOk w' ib v' r ∧ v'.ownBlock = v.ownBlock ∧ Frm (Only ib) w w' := by
  have hn := hb.vl
  have hr := raw_yes ib v bs r (zz u) w h hn.2 hn.1
  have hx := xor_i64 (zz u) hn.1
  have ha := and_one_u64 (zz u) (by omega) (by have := hn.1; omega)
  rw [unzz_zz] at hx
  have c1 := cell_at h.cells 1 rfl
  have hnb := hn.1
  have HR := Lib.hid hr; clear hr
  generalize zz u = n at *
  obtain ⟨h0, h1, h2⟩ := hm
  clear h hb hn
  have hw1 : IntKind.i64.wrap ((n : Int) / 2) = (n : Int) / 2 := IntWalk.i64_in _ (by omega)
  have hw2 : IntKind.i64.wrap ((n : Int) % 2) = (n : Int) % 2 := IntWalk.i64_in _ (by omega)
  have hw3 : IntKind.i64.wrap (-((n : Int) % 2)) = -((n : Int) % 2) := IntWalk.i64_in _ (by omega)
  have HNB := Lib.hid hnb; clear hnb
  go_enter Tryz.func77, Tryz.ntmps77
  go_wp2_with (go_at_call 126; refine HR.out.mono ?_)
  rintro e w1 ⟨rfl, v', hv', hown, hfm⟩
  have H1 := Lib.hid hv'; clear hv'
  have H2 := Lib.hid hown; clear hown
  have H3 := Lib.hid hfm; clear hfm
  go_wp2
  go_ret
  exact ⟨rfl, v', H1.out, H2.out, H3.out⟩
set_option maxHeartbeats 400000 in
set_option maxRecDepth 1000000 in
theorem inum_none (ib : Nat) (v : Value) (bs : List UInt8) (m : Int) (w : World) (h : InOk w ib v bs) (hb : NoNum bs) :
    Calls Tryz.prog 77 #[.pointer (some ⟨ib, 0, none⟩), .int .i64 m] w fun e w' => e = .returned (.int .i64 0) ∧ InBad w' ib ∧ Frm (Only ib) w w' := by
  have hr := raw_no ib v bs w h fun n rest hn e => hb _ _ (Begins.of_vl hn e)
  have hf := fail_go ib v false w h.cells
  have c1 := cell_at h.cells 1 rfl
  have HR := Lib.hid hr; clear hr
  have HF := Lib.hid hf; clear hf
  clear h hb
  have z1 : bits BinOp.and IntKind.u64 0 1 = 0 := by kernel_rfl
  have z2 : bits BinOp.xor IntKind.i64 0 0 = 0 := by kernel_rfl
  go_enter Tryz.func77, Tryz.ntmps77
  go_wp2_with (go_at_call 126; refine HR.out.mono ?_)
  rintro e w1 ⟨rfl, rfl⟩
  go_wp2_with (go_at_call 79; refine HF.out.mono ?_)
  rintro e w2 ⟨rfl, hbad, hfm⟩
  have H1 := Lib.hid hbad; clear hbad
  have H2 := Lib.hid hfm; clear hfm
  go_wp2
  go_ret
  exact ⟨rfl, H1.out, H2.out⟩
set_option maxHeartbeats 400000 in
set_option maxRecDepth 1000000 in
theorem inum_out (ib : Nat) (v : Value) (bs r : List UInt8) (u m : Int) (w : World) (h : InOk w ib v bs) (hb : Begins bs u r) (hm : m < 0 ∨ m < u ∨ u < -m) (hm2 : m ≤ 9223372036854775807) (hm3 : -9223372036854775808 ≤ m) :
    Calls Tryz.prog 77 #[.pointer (some ⟨ib, 0, none⟩), .int .i64 m] w fun e w' => e = .returned (.int .i64 0) ∧ InBad w' ib ∧ Frm (Only ib) w w' := by
  have hn := hb.vl
  have hr := raw_yes ib v bs r (zz u) w h hn.2 hn.1
  have hx := xor_i64 (zz u) hn.1
  have ha := and_one_u64 (zz u) (by omega) (by have := hn.1; omega)
  rw [unzz_zz] at hx
  have c1 := cell_at h.cells 1 rfl
  have hnb := hn.1
  have HR := Lib.hid hr; clear hr
  generalize zz u = n at *
  clear h hb hn
  have hw1 : IntKind.i64.wrap ((n : Int) / 2) = (n : Int) / 2 := IntWalk.i64_in _ (by omega)
  have hw2 : IntKind.i64.wrap ((n : Int) % 2) = (n : Int) % 2 := IntWalk.i64_in _ (by omega)
  have hw3 : IntKind.i64.wrap (-((n : Int) % 2)) = -((n : Int) % 2) := IntWalk.i64_in _ (by omega)
  have HNB := Lib.hid hnb; clear hnb
  rcases (show m < 0 ∨ (0 ≤ m ∧ m < u) ∨ (0 ≤ m ∧ u ≤ m ∧ u < -m) by omega) with h0 | ⟨h0, h1⟩ | ⟨h0, h1, h2⟩
  all_goals
    clear hm
    go_enter Tryz.func77, Tryz.ntmps77
    go_wp2_with (go_at_call 126; refine HR.out.mono ?_)
    rintro e w1 ⟨rfl, v', hv', hown, hfm⟩
    have hf := fail_go ib v' false w1 hv'.cells
    have HF := Lib.hid hf; clear hf
    have H3 := Lib.hid hfm; clear hfm
    clear hv' hown
    go_wp2_with (go_at_call 79; refine HF.out.mono ?_)
    rintro e w2 ⟨rfl, hbad, hfm⟩
    have H1 := Lib.hid hbad; clear hbad
    have H2 := Lib.hid hfm; clear hfm
    go_wp2
    go_ret
    exact ⟨rfl, H1.out, H3.out.trans H2.out fun _ _ h => h⟩
/-- Num of whatever state. -/
theorem inum_any (ib : Nat) (st : Option (List UInt8)) (m : Int) (w : World) (h : InSt w ib st) (hm2 : m ≤ 9223372036854775807) (hm3 : -9223372036854775808 ≤ m) :
    Calls Tryz.prog 77 #[.pointer (some ⟨ib, 0, none⟩), .int .i64 m] w fun e w' => ∃ v st', e = .returned (.int .i64 v) ∧ NumStep st m v st' ∧ InSt w' ib st' ∧ Frm (Only ib) w w' := by
  cases st with
  | none => exact (inum_bad ib m w h).mono fun e w' ⟨he, hw⟩ => ⟨0, none, he, ⟨rfl, rfl⟩, by subst hw; exact ⟨h, Frm.refl _ _⟩⟩
  | some bs =>
    obtain ⟨v, hv, hlt⟩ := h
    by_cases hb : ∃ u r, Begins bs u r
    · obtain ⟨u, r, hb⟩ := hb
      by_cases hm : 0 ≤ m ∧ u ≤ m ∧ -m ≤ u
      · exact (inum_yes ib v bs r u m w hv hb hm hm2).mono fun e w' ⟨he, v', h1, h2, h3⟩ => ⟨u, some r, he, .inl ⟨r, hb, hm.1, hm.2.1, hm.2.2, rfl⟩, ⟨v', h1, fun k hk => hlt k (h2 ▸ hk)⟩, h3⟩
      · exact (inum_out ib v bs r u m w hv hb (by omega) hm2 hm3).mono fun e w' ⟨he, h1, h2⟩ => ⟨0, none, he, .inr ⟨fun u' r' hb' => by
          obtain ⟨e1, _⟩ := hb.unique hb'
          omega, rfl, rfl⟩, h1, h2⟩
    · exact (inum_none ib v bs m w hv fun u r h => hb ⟨u, r, h⟩).mono fun e w' ⟨he, h1, h2⟩ => ⟨0, none, he, .inr ⟨fun u r h => (hb ⟨u, r, h⟩).elim, rfl, rfl⟩, h1, h2⟩
end Go.Proofs.YtggfoihfenlckaaGreat
/- tributarylaw02.CodecUnlike: the walk. -/
namespace Go.Proofs.YtggfoihfenlckaaGreat
open Go.RowKit
theorem Rd.pre {w : World} {ad : Option Addr} {c : Nat} {bs : List UInt8} (h : Rd w (.slice ad bs.length c) bs.length (bV bs)) (k : Nat) (hk : k ≤ bs.length) : Rd w (.slice ad k c) (bs.take k).length (bV (bs.take k)) := by
  have hl : (bs.take k).length = k := by rw [List.length_take]; omega
  rcases h with ⟨ad', h1, h2, h3⟩ | ⟨b, off, c', h1, h2, h3, h4⟩
  · injection h1 with e1 e2 e3
    have hb : bs = [] := by simpa [bV] using h3
    subst hb
    obtain rfl : k = 0 := by simpa using hk
    subst e1 e3
    exact .inl ⟨_, rfl, by simp, by simp [bV]⟩
  · injection h1 with e1 e2 e3
    subst e1 e3
    refine .inr ⟨b, off, _, by rw [hl], by omega, h3, fun j u hu => h4 j u ?_⟩
    rw [bV, List.map_take, List.getElem?_take] at hu
    split at hu
    · exact hu
    · cases hu
theorem rd_cap {w : World} {ad : Option Addr} {n c : Nat} {xs : List Value} (h : Rd w (.slice ad n c) n xs) : n ≤ c := by
  rcases h with ⟨_, h1, h2, _⟩ | ⟨b, off, c', h1, h2, _⟩
  · omega
  · injection h1 with e1 e2 e3; omega
end Go.Proofs.YtggfoihfenlckaaGreat
/- codec.In.Text. -/
namespace Go.Proofs.YtggfoihfenlckaaGreat
open Go.RowKit
def TextStep (st : Option (List UInt8)) (m : Int) (s : ByteArray) (st' : Option (List UInt8)) : Prop :=
  ∃ (n : Int) (st1 : Option (List UInt8)), NumStep st m n st1 ∧ match st1 with
    | none => s = ⟨#[]⟩ ∧ st' = none
    | some bs => (0 ≤ n ∧ n ≤ bs.length ∧ s = ⟨(bs.take n.toNat).toArray⟩ ∧ st' = some (bs.drop n.toNat)) ∨ ((n < 0 ∨ (bs.length : Int) < n) ∧ s = ⟨#[]⟩ ∧ st' = none)
theorem TextStep.det {st : Option (List UInt8)} {m : Int} {v u : ByteArray} {s t : Option (List UInt8)} (h : TextStep st m v s) (k : TextStep st m u t) : v = u ∧ s = t := by
  obtain ⟨n, st1, h1, h2⟩ := h
  obtain ⟨n', st1', k1, k2⟩ := k
  obtain ⟨rfl, rfl⟩ := h1.det k1
  cases st1 with
  | none => exact ⟨h2.1.trans k2.1.symm, h2.2.trans k2.2.symm⟩
  | some bs =>
    rcases h2 with ⟨a, b, c, d⟩ | ⟨a, c, d⟩ <;> rcases k2 with ⟨a', b', c', d'⟩ | ⟨a', c', d'⟩
    · exact ⟨c.trans c'.symm, d.trans d'.symm⟩
    · omega
    · omega
    · exact ⟨c.trans c'.symm, d.trans d'.symm⟩
set_option maxHeartbeats 400000 in
set_option maxRecDepth 1000000 in
theorem itext_any (ib : Nat) (st : Option (List UInt8)) (m : Int) (w : World) (h : InSt w ib st) (hm2 : m ≤ 9223372036854775807) (hm3 : -9223372036854775808 ≤ m) :
    Calls Tryz.prog 83 #[.pointer (some ⟨ib, 0, none⟩), .int .i64 m] w fun e w' => ∃ s st', e = .returned (.string s) ∧ TextStep st m s st' ∧ InSt w' ib st' ∧ Frm (Only ib) w w' := by
  have hn := inum_any ib st m w h hm2 hm3
  have HN := Lib.hid hn; clear hn
  clear h
  go_enter Tryz.func83, Tryz.ntmps83
  go_wp2_with (go_at_call 77; refine HN.out.mono ?_)
  rintro e w1 ⟨n, st1, rfl, hs1, hi1, hf1⟩
  have HS := Lib.hid hs1; clear hs1
  have HF := Lib.hid hf1; clear hf1
  cases st1 with
  | none =>
    have c1 := cell_at (show w1.heap[ib]? = _ from hi1) 1 rfl
    have HI := Lib.hid hi1; clear hi1
    go_wp2
    go_ret
    exact ⟨_, none, rfl, ⟨n, none, HS.out, rfl, rfl⟩, HI.out, HF.out⟩
  | some bs =>
    obtain ⟨v, hv, hlt⟩ := hi1
    obtain ⟨a, c, rfl⟩ := rd_shape hv.rd
    have c0 := cell_at hv.cells 0 rfl
    have c1 := cell_at hv.cells 1 rfl
    have f0 := free_at hv.cells 0
    have hfail := fail_go ib _ false w1 hv.cells
    have HFA := Lib.hid hfail; clear hfail
    have HLT := Lib.hid hlt; clear hlt
    by_cases hn : 0 ≤ n ∧ n ≤ bs.length
    · obtain ⟨k, rfl⟩ := Int.eq_ofNat_of_zero_le hn.1
      have hk : k ≤ bs.length := by omega
      have cv := conv_str (hv.rd.pre k hk)
      have hcap := rd_cap hv.rd
      have HV := Lib.hid hv; clear hv
      generalize hL : bs.length = L at *
      have HL := Lib.hid hL; clear hL
      clear hn
      have hfin : ∀ v', (v' = .slice (a.map fun x => x.add k) (L - k) (c - k) ∨ ∃ m c', v' = .slice a m c' ∧ m = 0 ∧ c' = 0 ∧ L = k) →
          InSt (w1.setCell ⟨ib, 0, none⟩ v') ib (some (bs.drop k)) := by
        intro v' hv'
        have hlen : (bs.drop k).length = L - k := by rw [List.length_drop, HL.out]
        have hown : v'.ownBlock = (Value.slice a L c).ownBlock := by
          rcases hv' with rfl | ⟨m, c', rfl, _⟩
          · cases a with
            | none => rfl
            | some a => simp [Value.ownBlock, Addr.add]; split <;> rfl
          · cases a <;> rfl
        refine ⟨v', ⟨by have := set_at HV.out.cells 0 v'; simpa using this, ?_, by rw [hown]; exact HV.out.apart⟩, fun k hk => HLT.out k (hown ▸ hk)⟩
        rw [hlen]
        have hrd := HV.out.rd
        rcases hv' with rfl | ⟨m, c', rfl, rfl, rfl, hLk⟩
        · rcases hrd with ⟨ad, h1, h2, h3⟩ | ⟨b, off, c'', h1, h2, h3, h4⟩
          · injection h1 with e1 e2 e3
            have hL0 : L = 0 := by rw [← HL.out]; exact h2
            have hb : bs = [] := by simpa [bV] using h3
            subst hb
            refine .inl ⟨a.map fun x => x.add k, by rw [hL0, e3]; simp, by omega, by simp [bV]⟩
          · injection h1 with e1 e2 e3
            subst e1
            have hap : b ≠ ib := fun e => HV.out.apart (by rw [e]; rfl)
            refine .inr ⟨b, off + k, c - k, by simp [addr_add], by omega, by omega, fun j u hu => ?_⟩
            refine (only_set w1 ib 0 _).cell' ?_ hap
            have := h4 (k + j) u (by rw [← hu, bV, bV, List.map_drop, List.getElem?_drop])
            rwa [← Nat.add_assoc] at this
        · have : bs.drop k = [] := List.eq_nil_of_length_eq_zero (by omega)
          rw [this]
          exact .inl ⟨a, rfl, by omega, rfl⟩
      have FIN := Lib.hid hfin; clear hfin
      have hstep : TextStep st m ⟨(bs.take k).toArray⟩ (some (bs.drop k)) := ⟨k, some bs, HS.out, .inl ⟨by omega, by have := HL.out; omega, by simp, by simp⟩⟩
      have ST := Lib.hid hstep; clear hstep
      by_cases hcap2 : c = k
      · subst hcap2
        go_wp2
        go_ret
        exact ⟨_, _, rfl, ST.out, FIN.out _ (.inr ⟨_, _, rfl, by omega, by omega, by omega⟩), HF.out.trans (only_set w1 ib 0 _) fun _ _ h => h⟩
      · go_wp2
        go_ret
        exact ⟨_, _, rfl, ST.out, FIN.out _ (.inl rfl), HF.out.trans (only_set w1 ib 0 _) fun _ _ h => h⟩
    · have hn' : n < 0 ∨ (bs.length : Int) < n := by omega
      have HV := Lib.hid hv; clear hv
      rcases hn' with h0 | h0
      all_goals
        clear hn
        go_wp2_with (go_at_call 79; refine HFA.out.mono ?_)
        rintro e w2 ⟨rfl, hbad, hfm⟩
        have H1 := Lib.hid hbad; clear hbad
        have H2 := Lib.hid hfm; clear hfm
        go_wp2
        go_ret
        exact ⟨_, none, rfl, ⟨n, some bs, HS.out, .inr ⟨by omega, rfl, rfl⟩⟩, H1.out, HF.out.trans H2.out fun _ _ h => h⟩
end Go.Proofs.YtggfoihfenlckaaGreat