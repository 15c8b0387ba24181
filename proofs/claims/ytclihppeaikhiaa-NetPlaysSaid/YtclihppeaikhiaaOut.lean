/- codec.Out: Num, Text, End; bytes.Clone. -/
import Derived.Test.YtclihppeaikhiaaProg
import Derived.Test.YtclihppeaikhiaaMem
import Derived.Test.YtclihppeaikhiaaVarint
import Derived.Deep.AppendSrc
import Derived.Outline
namespace Go.Proofs.Ytclihppeaikhiaa
open Go.RowKit

theorem Try.info_u8 : (Try.prog.info? 5).map (fun i => (i.zero, i.size, i.bytes)) = some (some (.int .u8 0), 1, 1) := by kernel_rfl

/-- A codec.Out in block ob, whose slice is v, with the bytes bs. -/
structure OutAt (w : World) (ob : Nat) (v : Value) (bs : List UInt8) : Prop where
  cell : w.heap[ob]? = some (.cells #[v] 27 (0, 0))
  own : w.ownsRow 0 5 1 v bs.length (bV bs)
  apart : v.ownBlock ≠ some ob

/-- What a call on it may write. -/
def OutS (ob : Nat) (v : Value) (k : Nat) : Prop := k = ob ∨ v.ownBlock = some k

set_option maxHeartbeats 400000 in
theorem num_nil (x : Int) (w : World) : Calls Try.prog 19 #[.pointer none, .int .i64 x] w fun e w' => e = .returned (.tuple #[]) ∧ w = w' := by
  go_enter Try.func19, Try.ntmps19
  go_wp2
  refine bodyPost_ret (results_none rfl _ _ _) rfl ?_
  exact ⟨rfl, rfl⟩

theorem xor_ones (a : Nat) (h : a < 2 ^ 64) : a ^^^ (2 ^ 64 - 1) = 2 ^ 64 - (a + 1) := by
  apply Nat.eq_of_testBit_eq
  intro i
  rw [Nat.testBit_xor, Nat.testBit_two_pow_sub_one, Nat.testBit_two_pow_sub_succ h]
  by_cases hi : i < 64
  · simp [hi]
  · have : a.testBit i = false := Nat.testBit_lt_two_pow (Nat.lt_of_lt_of_le h (Nat.pow_le_pow_right (by omega) (by omega)))
    simp [hi, this]
theorem zz_bits (x : Int) (h1 : -9223372036854775808 ≤ x) (h2 : x ≤ 9223372036854775807) :
    bits BinOp.xor IntKind.u64 (IntKind.u64.wrap (IntKind.u64.wrap x * 2)) (IntKind.u64.wrap (x / 9223372036854775808)) = (zz x : Int) := by
  rw [IntKind.wrap_u64, IntKind.wrap_u64, IntKind.wrap_u64]
  by_cases h : 0 ≤ x
  · have e1 : x / 9223372036854775808 % 18446744073709551616 = ((0 : Nat) : Int) := by omega
    have e2 : x % 18446744073709551616 * 2 % 18446744073709551616 = ((zz x : Nat) : Int) := by unfold zz; rw [if_pos h]; omega
    rw [e1, e2, bits_xor_u64_nat _ _ (zz_lt h1 h2) (by omega), Nat.xor_zero]
  · have e1 : x / 9223372036854775808 % 18446744073709551616 = ((2 ^ 64 - 1 : Nat) : Int) := by omega
    have e2 : x % 18446744073709551616 * 2 % 18446744073709551616 = ((18446744073709551615 - zz x : Nat) : Int) := by unfold zz; rw [if_neg h]; omega
    have hz := zz_lt h1 h2
    rw [e1, e2, bits_xor_u64_nat _ _ (by omega) (by omega), xor_ones _ (by omega)]
    omega

theorem OutAt.row {w w1 : World} {ob : Nat} {v : Value} {bs : List UInt8} (h : OutAt w ob v bs) (f : Frm (RowS v) w w1) : w1.cell? ⟨ob, 0, none⟩ = some v ∧ w1.frozen? ⟨ob, 0, none⟩ = false ∧ ob < w1.heap.size := by
  have hb := f.blk h.cell h.apart
  exact ⟨cell_of_one hb, free_of_one hb, lt_of_block hb⟩
theorem OutAt.store {w w1 : World} {ob : Nat} {v v2 : Value} {bs cs : List UInt8} {n2 : Nat} {xs2 : List Value} (h : OutAt w ob v bs) (own : w1.ownsRow 0 5 1 v2 n2 xs2) (f : Frm (RowS v) w w1) (fr : Fresh w v v2)
    (hx : xs2 = bV (bs ++ cs)) : OutAt (w1.setCell ⟨ob, 0, none⟩ v2) ob v2 (bs ++ cs) ∧ Frm (OutS ob v) w (w1.setCell ⟨ob, 0, none⟩ v2) := by
  have hb := f.blk h.cell h.apart
  have hap : v2.ownBlock ≠ some ob := fun e => by
    rcases fr ob e with h1 | h1
    · exact h.apart h1
    · have := lt_of_block h.cell; omega
  subst hx
  have hn : n2 = (bs ++ cs).length := by have := own.1; simpa using this.symm
  subst hn
  refine ⟨⟨one_setCell hb, ownsRow_setCell_other own hap _, hap⟩, ?_⟩
  exact (f.mono (T := OutS ob v) fun k _ hk => .inr hk).trans (Frm.setCell (S := OutS ob v) w1 (.inl (.inl rfl)) v2) fun _ _ h => h

theorem outS_fresh {w : World} {ob : Nat} {v v' : Value} (h : Fresh w v v') : ∀ i, i < w.heap.size → OutS ob v' i → OutS ob v i := fun i hi hs => by
  rcases hs with hs | hs
  · exact .inl hs
  · rcases h i hs with h1 | h1
    · exact .inr h1
    · omega
theorem or_mark (n : Nat) : bits BinOp.or IntKind.u8 ((n : Int) % 256) 128 = ((n % 128 + 128 : Nat) : Int) := by
  have e : ((n : Int) % 256) = ((n % 256 : Nat) : Int) := by omega
  rw [e, show (128 : Int) = ((128 : Nat) : Int) from rfl, u8_or_nat _ _ (by omega) (by omega)]
  have h : ∀ k, k < 256 → k ||| 128 = k % 128 + 128 := by decide +kernel
  rw [h _ (by omega)]
  congr 1
  omega

def NumRel (w : World) (ob : Nat) (v : Value) (bs : List UInt8) (x : Int) (u : Value) (wr : World) : Prop :=
  ∃ (n : Nat) (v' : Value) (cs : List UInt8), u = .int .u64 n ∧ n < 18446744073709551616 ∧ cs.length + (vl n).length ≤ 10 ∧ OutAt wr ob v' (bs ++ cs) ∧ cs ++ vl n = numB x ∧ Fresh w v v' ∧ Frm (OutS ob v) w wr

set_option maxHeartbeats 400000 in
set_option maxRecDepth 1000000 in
theorem num_go (ob : Nat) (x : Int) (w : World) (v : Value) (bs : List UInt8) (h : OutAt w ob v bs) (h1 : -9223372036854775808 ≤ x) (h2 : x ≤ 9223372036854775807) (hl : bs.length ≤ 100000000) :
    Calls Try.prog 19 #[.pointer (some ⟨ob, 0, none⟩), .int .i64 x] w fun e w' => e = .returned (.tuple #[]) ∧
      ∃ v', OutAt w' ob v' (bs ++ numB x) ∧ Fresh w v v' ∧ Frm (OutS ob v) w w' := by
  obtain ⟨i0, hi, hz0, hz1, hz2⟩ := info_parts Try.info_u8
  have hz := zz_bits x h1 h2
  go_enter Try.func19, Try.ntmps19
  go_wp2
  clear hz
  have hzl := zz_lt h1 h2
  go_loopw [4] (fun u wr => NumRel w ob v bs x u wr) (fun u _ => (intOf u).toNat)
  case atStart => exact ⟨_, v, [], rfl, hzl, by simpa using vl_le10 hzl, by simpa using h, rfl, fun k hk => .inl hk, Frm.refl _ _⟩
  case round =>
    obtain ⟨n, v', cs, rfl, hn, hc, ho, hcs, hfr, hfm⟩ := hrel
    have hcell := cell_of_one ho.cell
    have hfree := free_of_one ho.cell
    have hob := lt_of_block ho.cell
    have HO := Lib.hid ho; clear ho
    have HCS := Lib.hid hcs; clear hcs
    have HN := Lib.hid hn; clear hn
    have HC := Lib.hid hc; clear hc
    have HZ := Lib.hid hzl; clear hzl
    have HL := Lib.hid hl; clear hl
    have H1 := Lib.hid h1; clear h1
    have H2 := Lib.hid h2; clear h2
    have HF := Lib.hid hfr; clear hfr
    have HM := Lib.hid hfm; clear hfm
    clear h
    by_cases hlt : n < 128
    · go_wp2_with (at_builtin; go_loud (refine wpList_app1 _ _ rfl (.tmp 34) (.tmp 37) 25 rfl 5 i0 (.int .u8 0) 1 1 Try.underlying25 hi hz0 hz1 hz2 rfl (by decide) _ _ _ HO.out.own 1 1 rfl rfl rfl ?c1 ?c2 ?c3 ?_))
      case c1 => simp [Value.oneCell']
      case c2 => have := HC.out; have := HL.out; simp only [List.length_append, maxLen]; omega
      case c3 => have := HC.out; have := HL.out; simp only [List.length_append]; omega
      intro ad c w1 own1 fm1 fr1
      obtain ⟨k0, k1, k2⟩ := HO.out.row fm1
      have OW := Lib.hid own1; clear own1
      have FM := Lib.hid fm1; clear fm1
      have FR := Lib.hid fr1; clear fr1
      obtain ⟨o1, o2⟩ := HO.out.store (cs := [UInt8.ofNat n]) OW.out FM.out FR.out (bV_snoc _ _ (by rw [toNat_ofNat (by omega)]))
      have O1 := Lib.hid o1; clear o1
      have O2 := Lib.hid o2; clear o2
      go_wp2
      go_end0
      refine ⟨rfl, _, ?_, HF.out.trans HM.out.size FR.out, HM.out.trans O2.out ?_⟩
      · have e := O1.out
        rw [List.append_assoc, ← vl_small hlt, HCS.out] at e
        exact e
      · exact outS_fresh HF.out
    · go_wp2_with (at_builtin; go_loud (refine wpList_app1 _ _ rfl (.tmp 22) (.tmp 26) 25 rfl 5 i0 (.int .u8 0) 1 1 Try.underlying25 hi hz0 hz1 hz2 rfl (by decide) _ _ _ HO.out.own 1 1 rfl rfl rfl ?c1 ?c2 ?c3 ?_))
      case c1 => simp [Value.oneCell']
      case c2 => have := HC.out; have := HL.out; simp only [List.length_append, maxLen]; omega
      case c3 => have := HC.out; have := HL.out; simp only [List.length_append]; omega
      intro ad c w1 own1 fm1 fr1
      obtain ⟨k0, k1, k2⟩ := HO.out.row fm1
      have OW := Lib.hid own1; clear own1
      have FM := Lib.hid fm1; clear fm1
      have FR := Lib.hid fr1; clear fr1
      obtain ⟨o1, o2⟩ := HO.out.store (cs := [UInt8.ofNat (n % 128 + 128)]) OW.out FM.out FR.out (bV_snoc _ _ (by rw [toNat_ofNat (by omega), or_mark]))
      have O1 := Lib.hid o1; clear o1
      have O2 := Lib.hid o2; clear o2
      go_wp2
      go_roundw
      case rel =>
        have e := O1.out
        rw [List.append_assoc] at e
        have hb := vl_big hlt
        have hs := HCS.out
        have hc := HC.out
        rw [hb] at hs hc
        exact ⟨n / 128, _, cs ++ [UInt8.ofNat (n % 128 + 128)], by go_num, by have := HN.out; omega, by simp only [List.length_append, List.length_cons, List.length_nil] at hc ⊢; omega, e,
          by rw [List.append_assoc]; exact hs, HF.out.trans HM.out.size FR.out, HM.out.trans O2.out (outS_fresh HF.out)⟩
      case measure => simp [intOf]; omega

/-- append onto a []byte of one's own. -/
theorem app_u8 {ops : Array Oper} {rest : List Oper} {o : Oper} {a : Act} {Q : Exit → Act → World → Prop} (w : World) (hgd : o.guard = none) (s x : Operand) (tx : TypeId)
    (ho : o.op = .call { callee := .builtin .append, args := #[s, x], argTypes := #[25, tx] }) (v : Value) (bs : List UInt8) (hown : w.ownsRow 0 5 1 v bs.length (bV bs)) (xv : Value) (cs : List UInt8)
    (hv : a.eval s = v) (hx : a.eval x = xv) (hs : Src Try.prog 1 tx xv cs.length (bV cs) w) (hl : bs.length + cs.length ≤ 140737488355328)
    (h : ∀ ad c w', w'.ownsRow 0 5 1 (.slice ad (bs.length + cs.length) c) (bs ++ cs).length (bV (bs ++ cs)) → Frm (RowS v) w w' → Fresh w v (.slice ad (bs.length + cs.length) c) →
      (Value.slice ad (bs.length + cs.length) c = .slice none 0 0 ↔ v = .slice none 0 0 ∧ cs.length = 0) → wpList Try.prog ops Q rest (a.put o.dst (.slice ad (bs.length + cs.length) c)) w') :
    wpList Try.prog ops Q (o :: rest) a w := by
  obtain ⟨i0, hi, hz0, hz1, hz2⟩ := info_parts Try.info_u8
  refine wpList_app w hgd s x 25 tx ho 5 i0 (.int .u8 0) 1 1 Try.underlying25 hi hz0 hz1 hz2 rfl (by decide) v _ _ hv hown xv _ _ hx hs (by simp only [maxLen]; omega) (by omega) fun ad c w' g1 g2 g3 g4 => h ad c w' ?_ g2 g3 g4
  rw [bV_append, List.length_append]
  exact g1
/-- append of one byte, just laid, onto a []byte of one's own. -/
theorem app_u8_1 {ops : Array Oper} {rest : List Oper} {o : Oper} {a : Act} {Q : Exit → Act → World → Prop} (w : World) (hgd : o.guard = none) (s x : Operand)
    (ho : o.op = .call { callee := .builtin .append, args := #[s, x], argTypes := #[25, 25] }) (k : Int) (v : Value) (bs : List UInt8) (hown : w.ownsRow 0 5 1 v bs.length (bV bs)) (b : UInt8)
    (hv : a.eval s = v) (hx : a.eval x = .slice (some ⟨w.heap.size, 0, none⟩) 1 1) (hk : k = (b.toNat : Int)) (hl : bs.length + 1 ≤ 140737488355328)
    (h : ∀ ad c w', w'.ownsRow 0 5 1 (.slice ad (bs.length + 1) c) (bs ++ [b]).length (bV (bs ++ [b])) → Frm (RowS v) w w' → Fresh w v (.slice ad (bs.length + 1) c) → wpList Try.prog ops Q rest (a.put o.dst (.slice ad (bs.length + 1) c)) w') :
    wpList Try.prog ops Q (o :: rest) a (w.alloc (.cells #[.int .u8 k] 5)) := by
  obtain ⟨i0, hi, hz0, hz1, hz2⟩ := info_parts Try.info_u8
  subst hk
  refine wpList_app1 w [.int .u8 (b.toNat : Int)] hgd s x 25 ho 5 i0 (.int .u8 0) 1 1 Try.underlying25 hi hz0 hz1 hz2 rfl (by decide) v _ _ hown 1 1 hv hx rfl (by simp [Value.oneCell']) (by simp only [maxLen]; omega) (by omega) fun ad c w' g1 g2 g3 => h ad c w' ?_ g2 g3
  rw [bV_append, List.length_append]
  exact g1
theorem own_empty (w : World) : (w.alloc (.cells #[] 5)).ownsRow 0 5 1 (.slice (some ⟨w.heap.size, 0, none⟩) 0 0) ([] : List UInt8).length (bV []) :=
  ⟨rfl, .inr ⟨w.heap.size, 0, #[], rfl, Nat.zero_le _, heap_alloc_new w _, Nat.le_refl _, Nat.zero_le _, rfl, rfl⟩⟩

set_option maxHeartbeats 400000 in
set_option maxRecDepth 1000000 in
theorem clone_nil (w : World) : Calls Try.prog 46 #[.slice none 0 0] w fun e w' => e = .returned (.slice none 0 0) ∧ w = w' := by
  have hq := Lib.run_eql_slice_nil (P := Try.prog) w 25 5 none 0 0 0 0 Try.underlying25
  go_enter Try.func46, Try.ntmps46
  go_wp2
  go_ret
  exact ⟨rfl, rfl⟩

set_option maxHeartbeats 400000 in
set_option maxRecDepth 1000000 in
theorem clone_some (w : World) (a : Addr) (c : Nat) (bs : List UInt8) (h : Rd w (.slice (some a) bs.length c) bs.length (bV bs)) (hl : bs.length ≤ 140737488355328) :
    Calls Try.prog 46 #[.slice (some a) bs.length c] w fun e w' => ∃ ad c', e = .returned (.slice ad bs.length c') ∧ w'.ownsRow 0 5 1 (.slice ad bs.length c') bs.length (bV bs) ∧ NewV w (.slice ad bs.length c') ∧ Frm (fun _ => False) w w' := by
  obtain ⟨i0, hi, hz0, hz1, hz2⟩ := info_parts Try.info_u8
  have hq := Lib.run_eql_slice_nil (P := Try.prog) w 25 5 (some a) bs.length c 0 0 Try.underlying25
  go_enter Try.func46, Try.ntmps46
  have hs := (h.keep (Frm.alloc (fun _ => False) w (.cells #[] 5)) (fun _ _ h => h)).src (P := Try.prog) (size := 1) Try.underlying25 (by simp) (bV_oneCell bs)
  have HS := Lib.hid hs; clear hs
  have HH := Lib.hid h; clear h
  go_wp2_with (at_builtin; go_loud (refine app_u8 _ rfl (.tmp 5) (.tmp 6) 25 rfl _ [] (own_empty w) _ bs rfl rfl HS.out ?c1 ?_))
  case c1 => simpa using hl
  intro ad c1 w1 own1 fm1 fr1 _
  have OW := Lib.hid own1; clear own1
  have FM := Lib.hid fm1; clear fm1
  have FR := Lib.hid fr1; clear fr1
  clear hq
  go_wp2
  go_ret
  refine ⟨ad, c1, rfl, OW.out, ?_, ?_⟩
  · intro k hk
    rcases FR.out k hk with h1 | h1
    · simp [Value.ownBlock] at h1; omega
    · simp at h1; omega
  · exact (Frm.alloc (fun _ => False) w _).trans FM.out (fun i hi hs => by simp [RowS, Value.ownBlock] at hs; omega)

theorem rd_ne {w : World} {v : Value} {n : Nat} {bs : List UInt8} (h : Rd w v n (bV bs)) (hn : bs ≠ []) : ∃ b off c, v = .slice (some ⟨b, off, none⟩) n c := by
  rcases h with ⟨_, _, _, h3⟩ | ⟨b, off, c, rfl, _⟩
  · exact absurd (by simpa [bV] using h3) hn
  · exact ⟨b, off, c, rfl⟩

/-- A fresh value that reads as the bytes. -/
structure Copy (w : World) (v : Value) (bs : List UInt8) (w' : World) : Prop where
  own : w'.ownsRow 0 5 1 v bs.length (bV bs)
  new : NewV w v
  frm : Frm (fun _ => False) w w'
  shape : ∃ ad c, v = .slice ad bs.length c
theorem clone_any (w : World) (v : Value) (bs : List UInt8) (h : Rd w v bs.length (bV bs)) (hl : bs.length ≤ 140737488355328) :
    Calls Try.prog 46 #[v] w fun e w' => ∃ v', e = .returned v' ∧ Copy w v' bs w' := by
  rcases h with ⟨ad, rfl, h2, h3⟩ | ⟨b, off, c, rfl, hx⟩
  · have hb : bs = [] := by simpa [bV] using h3
    subst hb
    cases ad with
    | some a => exact (clone_some w a 0 [] (.inl ⟨_, rfl, rfl, rfl⟩) hl).mono fun e w' ⟨ad, c', he, h1, h2, h3⟩ => ⟨_, he, h1, h2, h3, ad, c', rfl⟩
    | none =>
    exact (clone_nil w).mono fun e w' ⟨he, hw⟩ => ⟨_, he, by subst hw; exact ⟨World.ownsRow_nil w 0 _ 1, fun k hk => by simp [Value.ownBlock] at hk, Frm.refl _ _, none, 0, rfl⟩⟩
  · exact (clone_some w ⟨b, off, none⟩ c bs (.inr ⟨b, off, c, rfl, hx⟩) hl).mono fun e w' ⟨ad, c', he, h1, h2, h3⟩ => ⟨_, he, h1, h2, h3, ad, c', rfl⟩

set_option maxHeartbeats 400000 in
set_option maxRecDepth 1000000 in
theorem end_nil (w : World) : Calls Try.prog 18 #[.pointer none] w fun e w' => e = .returned (.tuple #[.slice none 0 0, .int .i64 1]) ∧ w = w' := by
  go_enter Try.func18, Try.ntmps18
  go_wp2
  go_ret2
  exact ⟨rfl, rfl⟩

set_option maxHeartbeats 400000 in
set_option maxRecDepth 1000000 in
theorem end_long (ob : Nat) (w : World) (v : Value) (bs : List UInt8) (h : OutAt w ob v bs) (hl : 60000 < bs.length) : Calls Try.prog 18 #[.pointer (some ⟨ob, 0, none⟩)] w fun e w' => e = .returned (.tuple #[.slice none 0 0, .int .i64 3]) ∧ w = w' := by
  have hcell := cell_of_one h.cell
  obtain ⟨a, c, rfl⟩ : ∃ a c, v = .slice a bs.length c := by
    rcases h.own.2 with ⟨rfl, h0⟩ | ⟨g, cap, cur, rfl, _⟩
    · omega
    · exact ⟨_, _, rfl⟩
  clear h
  go_enter Try.func18, Try.ntmps18
  go_wp2
  go_ret2
  exact ⟨rfl, rfl⟩

set_option maxHeartbeats 400000 in
set_option maxRecDepth 1000000 in
theorem end_ok (ob : Nat) (w : World) (v : Value) (bs : List UInt8) (h : OutAt w ob v bs) (hl : bs.length ≤ 60000) : Calls Try.prog 18 #[.pointer (some ⟨ob, 0, none⟩)] w fun e w' => ∃ v', e = .returned (.tuple #[v', .int .i64 0]) ∧ Copy w v' bs w' := by
  have hcell := cell_of_one h.cell
  have hc := clone_any w v bs (Rd.own h.own) (by omega)
  have HC := Lib.hid hc; clear hc
  obtain ⟨a, c, rfl⟩ : ∃ a c, v = .slice a bs.length c := by
    rcases h.own.2 with ⟨rfl, h0⟩ | ⟨g, cap, cur, rfl, _⟩
    · exact ⟨none, 0, by rw [h0]⟩
    · exact ⟨_, _, rfl⟩
  clear h
  go_enter Try.func18, Try.ntmps18
  go_wp2_with (go_at_call 46; refine HC.out.mono ?_)
  rintro e w1 ⟨v', rfl, hcp⟩
  have HP := Lib.hid hcp; clear hcp
  go_wp2
  go_ret2
  exact ⟨v', rfl, HP.out⟩

end Go.Proofs.Ytclihppeaikhiaa
