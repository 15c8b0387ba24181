/- tributaryref02: Num, Text. -/
import Derived.Test.YtclihppeaikhiaaOut2
namespace Go.Proofs.Ytclihppeaikhiaa
open Go.RowKit

theorem Copy.nil (w : World) : Copy w (.slice none 0 0) [] w := ⟨World.ownsRow_nil w 0 _ 1, fun k hk => by simp [Value.ownBlock] at hk, Frm.refl _ _, none, 0, rfl⟩
/-- Behind an append onto it. -/
theorem Copy.app {w w1 w2 : World} {v v2 : Value} {bs cs : List UInt8} {n : Nat} {xs : List Value} (h : Copy w v bs w1) (own : w2.ownsRow 0 5 1 v2 n xs) (hx : xs = bV (bs ++ cs)) (f : Frm (RowS v) w1 w2) (fr : Fresh w1 v v2) : Copy w v2 (bs ++ cs) w2 := by
  subst hx
  have hn : n = (bs ++ cs).length := by have := own.1; simpa using this.symm
  subst hn
  refine ⟨own, fun k hk => ?_, h.frm.trans f fun i hi hs => ?_, own_shape own⟩
  · rcases fr k hk with h1 | h1
    · exact h.new k h1
    · exact Nat.le_trans h.frm.size h1
  · have := h.new i hs; omega
/-- Behind a step that leaves its row alone. -/
theorem Copy.step {w w1 w2 : World} {v : Value} {bs : List UInt8} (h : Copy w v bs w1) (f : Frm (fun _ => False) w1 w2) : Copy w v bs w2 :=
  ⟨f.owns h.own fun _ _ hs => hs, h.new, h.frm.trans f fun _ _ hs => hs, h.shape⟩
theorem Copy.rd {w w1 : World} {v : Value} {bs : List UInt8} (h : Copy w v bs w1) : Rd w1 v bs.length (bV bs) := Rd.own h.own
theorem Copy.weaken {w0 w w1 : World} {v : Value} {bs : List UInt8} (h : Copy w v bs w1) (f : Frm (fun _ => False) w0 w) : Copy w0 v bs w1 :=
  ⟨h.own, fun k hk => Nat.le_trans f.size (h.new k hk), f.trans h.frm fun _ _ hs => hs, h.shape⟩

def RNumRel (w : World) (x : Int) (u o : Value) (wr : World) : Prop :=
  ∃ (n : Nat) (cs : List UInt8), u = .int .u64 n ∧ n < 18446744073709551616 ∧ cs.length + (vl n).length ≤ 10 ∧ Copy w o cs wr ∧ cs ++ vl n = numB x

theorem mod_byte (n : Nat) : IntKind.u8.wrap (128 + ((n : Int) % 128)) = ((n % 128 + 128 : Nat) : Int) := by
  rw [IntKind.wrap_u8]; omega

set_option maxHeartbeats 400000 in
set_option maxRecDepth 1000000 in
theorem rnum (x : Int) (w : World) (h1 : -9223372036854775808 ≤ x) (h2 : x ≤ 9223372036854775807) :
    Calls Try.prog 45 #[.int .i64 x] w fun e w' => ∃ v', e = .returned v' ∧ Copy w v' (numB x) w' := by
  have hzl := zz_lt h1 h2
  by_cases hneg : x < 0
  · have hze : (2 * -(x + 1) + 1 : Int) = (zz x : Int) := by unfold zz; rw [if_neg (by omega)]; omega
    go_enter Try.func45, Try.ntmps45
    go_wp2
    clear hneg
    go_loopw [3, 4] (fun u o wr => RNumRel w x u o wr) (fun u _ _ => (intOf u).toNat)
    case atStart => exact ⟨zz x, [], rfl, hzl, by simpa using vl_le10 hzl, Copy.nil w, rfl⟩
    case round =>
      obtain ⟨n, cs, rfl, hn, hc, ho, hcs⟩ := hrel
      obtain ⟨ao, co, rfl⟩ := ho.shape
      have HO := Lib.hid ho; clear ho
      have HCS := Lib.hid hcs; clear hcs
      have HN := Lib.hid hn; clear hn
      have HC := Lib.hid hc; clear hc
      have HZ := Lib.hid hzl; clear hzl
      have H1 := Lib.hid h1; clear h1
      have H2 := Lib.hid h2; clear h2
      have ZE := Lib.hid hze; clear hze
      by_cases hlt : n < 128
      · go_wp2_with (at_builtin; go_loud (refine app_u8_1 _ rfl (.tmp 27) (.tmp 30) rfl _ _ cs HO.out.own (UInt8.ofNat n) rfl rfl ?c1 ?c2 ?_))
        case c1 => rw [toNat_ofNat (by omega)]
        case c2 => have := HC.out; omega
        intro ad c w1 own1 fm1 fr1
        have OW := Lib.hid own1; clear own1
        have FM := Lib.hid fm1; clear fm1
        have FR := Lib.hid fr1; clear fr1
        go_wp2
        go_ret
        refine ⟨_, rfl, ?_⟩
        have e := HO.out.app (cs := [UInt8.ofNat n]) OW.out (by simp [bV_append]) FM.out FR.out
        rw [← vl_small hlt, HCS.out] at e
        exact e
      · obtain ⟨b, hb⟩ : ∃ b : UInt8, b = UInt8.ofNat (n % 128 + 128) := ⟨_, rfl⟩
        have hbn : b.toNat = n % 128 + 128 := by rw [hb, toNat_ofNat (by omega)]
        have hvb := vl_big hlt
        rw [← hb] at hvb
        have HV := Lib.hid hvb; clear hvb
        have hwr : IntKind.u64.wrap ((n : Int) / 128) = (n : Int) / 128 := IntWalk.u64_in _ (by have := HN.out; omega)
        have HB := Lib.hid hbn; clear hbn
        clear hb
        go_wp2_with (at_builtin; go_loud (refine app_u8_1 _ rfl (.tmp 18) (.tmp 23) rfl _ _ cs HO.out.own b rfl rfl ?c1 ?c2 ?_))
        case c1 => rw [HB.out]; omega
        case c2 => have := HC.out; omega
        intro ad c w1 own1 fm1 fr1
        have OW := Lib.hid own1; clear own1
        have FM := Lib.hid fm1; clear fm1
        have FR := Lib.hid fr1; clear fr1
        go_wp2
        go_roundw
        case rel =>
          have e := HO.out.app (cs := [b]) OW.out (by simp [bV_append]) FM.out FR.out
          have hs := HCS.out
          have hc := HC.out
          rw [HV.out] at hs hc
          exact ⟨n / 128, cs ++ [b], by go_num, by have := HN.out; omega, by simp only [List.length_append, List.length_cons, List.length_nil] at hc ⊢; omega, e, by rw [List.append_assoc]; exact hs⟩
        case measure => simp [intOf]; omega
  · have hze : (2 * x : Int) = (zz x : Int) := by unfold zz; rw [if_pos (by omega)]; omega
    go_enter Try.func45, Try.ntmps45
    go_wp2
    clear hneg
    go_loopw [3, 4] (fun u o wr => RNumRel w x u o wr) (fun u _ _ => (intOf u).toNat)
    case atStart => exact ⟨zz x, [], rfl, hzl, by simpa using vl_le10 hzl, Copy.nil w, rfl⟩
    case round =>
      obtain ⟨n, cs, rfl, hn, hc, ho, hcs⟩ := hrel
      obtain ⟨ao, co, rfl⟩ := ho.shape
      have HO := Lib.hid ho; clear ho
      have HCS := Lib.hid hcs; clear hcs
      have HN := Lib.hid hn; clear hn
      have HC := Lib.hid hc; clear hc
      have HZ := Lib.hid hzl; clear hzl
      have H1 := Lib.hid h1; clear h1
      have H2 := Lib.hid h2; clear h2
      have ZE := Lib.hid hze; clear hze
      by_cases hlt : n < 128
      · go_wp2_with (at_builtin; go_loud (refine app_u8_1 _ rfl (.tmp 27) (.tmp 30) rfl _ _ cs HO.out.own (UInt8.ofNat n) rfl rfl ?c1 ?c2 ?_))
        case c1 => rw [toNat_ofNat (by omega)]
        case c2 => have := HC.out; omega
        intro ad c w1 own1 fm1 fr1
        have OW := Lib.hid own1; clear own1
        have FM := Lib.hid fm1; clear fm1
        have FR := Lib.hid fr1; clear fr1
        go_wp2
        go_ret
        refine ⟨_, rfl, ?_⟩
        have e := HO.out.app (cs := [UInt8.ofNat n]) OW.out (by simp [bV_append]) FM.out FR.out
        rw [← vl_small hlt, HCS.out] at e
        exact e
      · obtain ⟨b, hb⟩ : ∃ b : UInt8, b = UInt8.ofNat (n % 128 + 128) := ⟨_, rfl⟩
        have hbn : b.toNat = n % 128 + 128 := by rw [hb, toNat_ofNat (by omega)]
        have hvb := vl_big hlt
        rw [← hb] at hvb
        have HV := Lib.hid hvb; clear hvb
        have hwr : IntKind.u64.wrap ((n : Int) / 128) = (n : Int) / 128 := IntWalk.u64_in _ (by have := HN.out; omega)
        have HB := Lib.hid hbn; clear hbn
        clear hb
        go_wp2_with (at_builtin; go_loud (refine app_u8_1 _ rfl (.tmp 18) (.tmp 23) rfl _ _ cs HO.out.own b rfl rfl ?c1 ?c2 ?_))
        case c1 => rw [HB.out]; omega
        case c2 => have := HC.out; omega
        intro ad c w1 own1 fm1 fr1
        have OW := Lib.hid own1; clear own1
        have FM := Lib.hid fm1; clear fm1
        have FR := Lib.hid fr1; clear fr1
        go_wp2
        go_roundw
        case rel =>
          have e := HO.out.app (cs := [b]) OW.out (by simp [bV_append]) FM.out FR.out
          have hs := HCS.out
          have hc := HC.out
          rw [HV.out] at hs hc
          exact ⟨n / 128, cs ++ [b], by go_num, by have := HN.out; omega, by simp only [List.length_append, List.length_cons, List.length_nil] at hc ⊢; omega, e, by rw [List.append_assoc]; exact hs⟩
        case measure => simp [intOf]; omega

set_option maxHeartbeats 400000 in
set_option maxRecDepth 1000000 in
theorem rtext (s : ByteArray) (w : World) (hl : s.size ≤ 140737488351232) :
    Calls Try.prog 44 #[.string s] w fun e w' => ∃ v', e = .returned v' ∧ Copy w v' (textB s) w' := by
  have hn := rnum s.size w (by omega) (by omega)
  have hb : (numB s.size).length ≤ 10 := numB_le10 (by omega) (by omega)
  have hlen : (numB s.size).length + s.size ≤ 140737488351300 := by omega
  have htx : textB s = numB s.size ++ s.data.toList := rfl
  generalize numB s.size = nb at *
  have HT := Lib.hid htx; clear htx
  have HN := Lib.hid hn; clear hn
  have HL := Lib.hid hlen; clear hlen
  clear hl hb
  go_enter Try.func44, Try.ntmps44
  go_wp2_with (go_at_call 45; refine HN.out.mono ?_)
  rintro e w1 ⟨v1, rfl, hcp⟩
  obtain ⟨a1, c1, rfl⟩ := hcp.shape
  have HP := Lib.hid hcp; clear hcp
  go_wp2_with (at_builtin; go_loud (refine app_u8 _ rfl (.tmp 5) (.tmp 6) 9 rfl _ nb HP.out.own _ s.data.toList rfl rfl (src_string _ s) ?c1 ?_))
  case c1 => have := HL.out; simp only [Array.length_toList]; show _ + s.size ≤ _; omega
  intro ad c2 w2 own1 fm1 fr1 _
  have OW := Lib.hid own1; clear own1
  have FM := Lib.hid fm1; clear fm1
  have FR := Lib.hid fr1; clear fr1
  go_wp2
  go_ret
  refine ⟨_, rfl, ?_⟩
  have e := HP.out.app (cs := s.data.toList) OW.out (by simp [bV_append]) FM.out FR.out
  rw [← HT.out] at e
  exact e

end Go.Proofs.Ytclihppeaikhiaa
