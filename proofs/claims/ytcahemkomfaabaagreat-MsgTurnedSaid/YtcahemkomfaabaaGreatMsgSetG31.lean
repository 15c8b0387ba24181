/- Words for the law MsgSet: Frame2, Frame3, Frame4, Frame5, MsgEnc. -/
import Derived.Test.YtcahemkomfaabaaGreatMsgSetG1
import Derived.Test.YtcahemkomfaabaaGreatMsgSetG18
import Derived.Test.YtcahemkomfaabaaGreatMsgSetG24
import Derived.Test.YtcahemkomfaabaaGreatMsgSetG30
set_option linter.unusedSimpArgs false
set_option linter.unusedVariables false
set_option maxHeartbeats 32000000
set_option maxRecDepth 1000000
namespace Go.Proofs.YtcahemkomfaabaaGreat
open Go.RowKit
theorem rd_sl {w : World} {v : Value} {n : Nat} {xs : List Value} (h : Rd w v n xs) : ∃ a c, v = .slice a n c := by
 rcases h with ⟨ad, rfl, h2, h3⟩ | ⟨b, off, c, rfl, _⟩
 · exact ⟨ad, 0, by rw [h2]⟩
 · exact ⟨_, _, rfl⟩
theorem rd_keep0 {w w' : World} {v : Value} {n : Nat} {xs : List Value} (h : Rd w v n xs) (f : Frm NoS w w') : Rd w' v n xs := h.keep f fun _ _ h => h
theorem frFrame_ok (bs : List UInt8) (v : Value) (w : World) (h : Rd w v bs.length (bV bs)) (hl : bs.length ≤ 60000) :
 Calls Tryz.prog 45 #[v] w fun e w' => ∃ a c, e = .returned (.tuple #[.slice a (Crc.frameB bs).length c, .int .i64 0]) ∧ Copy w (.slice a (Crc.frameB bs).length c) (Crc.frameB bs) w' := by
 obtain ⟨a0, c0, rfl⟩ := rd_sl h
 have HH := Lib.hid (fun W (f : Frm NoS w W) => rd_keep0 h f); clear h
 have HFL := Lib.hid (Crc.four_len bs.length)
 have HFB := Lib.hid (show Crc.frameB bs = (Crc.four bs.length ++ bs) ++ Crc.four (Crc.sum (Crc.four bs.length ++ bs)) from rfl)
 have h6 : (bs.length : Int) ≤ 60000 := by omega
 have HF := Lib.hid (fun W => frFour_any bs.length (by omega) W)
 have hcv : IntKind.u32.wrap (bs.length : Int) = (bs.length : Int) := by rw [IntKind.wrap_u32]; omega
 generalize Crc.four bs.length = hd at *
 generalize hn : bs.length = n at *
 have HN := Lib.hid hn; clear hn
 go_enter Tryz.func45, Tryz.ntmps45
 go_wp2_with (first
  | (go_at_call 99; refine (HF.out _).mono ?_; rintro e w1 ⟨a1, c1, t1, ht1, rfl, cp1⟩; have HT1 := Lib.hid ht1; clear ht1; have HC1 := Lib.hid cp1; clear cp1)
  | (at_builtin; refine app_cp w w1 rfl (.tmp 11) (.tmp 12) rfl _ t1 HC1.out _ bs rfl rfl (by rw [HN.out]; exact HH.out _ HC1.out.frm) ?c1 ?_))
 case c1 => rw [HT1.out, HFL.out, HN.out]; omega
 intro a2 c2 w2 t2 HT2 hc2 _ _
 have HC2 := Lib.hid hc2; clear hc2
 have HL2 := Lib.hid (show t2.length ≤ 70000 by rw [HT2.out, List.length_append, HT1.out, HFL.out, HN.out]; omega)
 have HCR := Lib.hid (crcCRC_any t2 _ w2 HC2.out.rd)
 have hsl := Crc.sum_lt t2
 have HS := Lib.hid (fun W => frFour_any (Crc.sum t2) hsl W)
 generalize hsm : Crc.sum t2 = sm at *
 have HSM := Lib.hid hsm; clear hsm
 go_wp2_with (first
  | (go_at_call 100; refine HCR.out.mono ?_; rintro e w3 ⟨rfl, rfl⟩)
  | (go_at_call 99; refine (HS.out _).mono ?_; rintro e w4 ⟨a4, c4, t4, ht4, rfl, cp4⟩; have HT4 := Lib.hid ht4; clear ht4; have HP4 := Lib.hid (HC2.out.step cp4.frm); have HC4 := Lib.hid cp4; clear cp4)
  | (at_builtin; refine app_cp w w4 rfl (.tmp 14) (.tmp 17) rfl _ t2 HP4.out _ t4 rfl rfl HC4.out.rd ?c2 ?_))
 case c2 => have := HL2.out; rw [HT4.out, Crc.four_len]; omega
 intro a5 c5 w5 t5 HT5 hc5 _ _
 have HC5 := Lib.hid hc5; clear hc5
 have HE := Lib.hid (show t5 = Crc.frameB bs by rw [HT5.out, HFB.out, HT4.out, ← HSM.out, HT2.out, HT1.out])
 go_wp2
 go_ret2
 rw [← HE.out]
 exact ⟨a5, c5, rfl, HC5.out⟩
theorem r4Frame_ok (bs : List UInt8) (v : Value) (w : World) (h : Rd w v bs.length (bV bs)) (hl : bs.length ≤ 60000) :
 Calls Tryz.prog 50 #[v] w fun e w' => ∃ a c, e = .returned (.tuple #[.slice a (Crc.frameB bs).length c, .bool true]) ∧ Copy w (.slice a (Crc.frameB bs).length c) (Crc.frameB bs) w' := by
 obtain ⟨a0, c0, rfl⟩ := rd_sl h
 have HH := Lib.hid (fun W (f : Frm NoS w W) => rd_keep0 h f); clear h
 have HFL := Lib.hid (Crc.four_len bs.length)
 have HFB := Lib.hid (show Crc.frameB bs = (Crc.four bs.length ++ bs) ++ Crc.four (Crc.sum (Crc.four bs.length ++ bs)) from rfl)
 have h6 : (bs.length : Int) ≤ 60000 := by omega
 have HF := Lib.hid (fun W => r4four_any bs.length (by omega) W)
 generalize Crc.four bs.length = hd at *
 generalize hn : bs.length = n at *
 have HN := Lib.hid hn; clear hn
 go_enter Tryz.func50, Tryz.ntmps50
 go_wp2_with (first
  | (go_at_call 104; refine (HF.out _).mono ?_; rintro e w1 ⟨a1, c1, t1, ht1, rfl, cp1⟩; have HT1 := Lib.hid ht1; clear ht1; have HC1 := Lib.hid cp1; clear cp1)
  | (at_builtin; refine app_cp w w1 rfl (.tmp 10) (.tmp 11) rfl _ t1 HC1.out _ bs rfl rfl (by rw [HN.out]; exact HH.out _ HC1.out.frm) ?c1 ?_))
 case c1 => rw [HT1.out, HFL.out, HN.out]; omega
 intro a2 c2 w2 t2 HT2 hc2 _ _
 have HC2 := Lib.hid hc2; clear hc2
 have HL2 := Lib.hid (show t2.length ≤ 70000 by rw [HT2.out, List.length_append, HT1.out, HFL.out, HN.out]; omega)
 have HCR := Lib.hid (r3CRC_any t2 _ w2 HC2.out.rd)
 have hsl := Crc.sum_lt t2
 have HS := Lib.hid (fun W => r4four_any (Crc.sum t2) hsl W)
 generalize hsm : Crc.sum t2 = sm at *
 have HSM := Lib.hid hsm; clear hsm
 go_wp2_with (first
  | (go_at_call 105; refine HCR.out.mono ?_; rintro e w3 ⟨rfl, rfl⟩)
  | (go_at_call 104; refine (HS.out _).mono ?_; rintro e w4 ⟨a4, c4, t4, ht4, rfl, cp4⟩; have HT4 := Lib.hid ht4; clear ht4; have HP4 := Lib.hid (HC2.out.step cp4.frm); have HC4 := Lib.hid cp4; clear cp4)
  | (at_builtin; refine app_cp w w4 rfl (.tmp 13) (.tmp 17) rfl _ t2 HP4.out _ t4 rfl rfl HC4.out.rd ?c2 ?_))
 case c2 => have := HL2.out; rw [HT4.out, Crc.four_len]; omega
 intro a5 c5 w5 t5 HT5 hc5 _ _
 have HC5 := Lib.hid hc5; clear hc5
 have HE := Lib.hid (show t5 = Crc.frameB bs by rw [HT5.out, HFB.out, HT4.out, ← HSM.out, HT2.out, HT1.out])
 go_wp2
 go_ret2
 rw [← HE.out]
 exact ⟨a5, c5, rfl, HC5.out⟩
theorem frLong_any (l : List UInt8) (v : Value) (w : World) (h : Rd w v l.length (bV l)) :
 Calls Tryz.prog 106 #[v] w fun e w' => e = .returned (.tuple #[.int .i64 (if l.length < 8 then 0 else (Crc.numb l : Int)), .bool (if l.length < 8 then false else (decide ((Crc.numb l : Int) ≤ 60000) && decide ((Crc.numb l : Int) ≤ (l.length : Int) - 8)))]) ∧ Frm NoS w w' := by
 by_cases hl : l.length < 8
 · rw [if_pos hl, if_pos hl]
   obtain ⟨a0, c0, rfl⟩ := rd_sl h
   clear h
   have h4 : (l.length : Int) < 8 := by omega
   generalize l.length = n at *
   go_enter Tryz.func106, Tryz.ntmps106
   go_wp2
   go_ret2
   exact ⟨rfl, Frm.refl _ _⟩
 · rw [if_neg hl, if_neg hl]
   have h' := h
   rcases h with ⟨ad, rfl, h2, h3⟩ | ⟨b, off, c, rfl, hm1, hm2, -⟩
   · omega
   have HNU := Lib.hid (frNumber_any l (by omega) b off c l.length w h' rfl)
   have hnl := Crc.numb_lt l
   have h4 : ¬ (l.length : Int) < 8 := by omega
   have hmx : (l.length : Int) ≤ 9223372036854775807 := by simp only [maxLen] at hm2; omega
   have hwr : IntKind.i64.wrap ((l.length : Int) - 8) = (l.length : Int) - 8 := by rw [IntKind.wrap_i64]; omega
   have hcv : IntKind.i64.wrap (Crc.numb l : Int) = (Crc.numb l : Int) := by rw [IntKind.wrap_i64]; omega
   generalize Crc.numb l = m at *
   clear h' hl hm1 hm2
   generalize l.length = n at *
   by_cases h6 : m ≤ 60000
   · have h7 : (m : Int) ≤ 60000 := by omega
     by_cases h8 : (m : Int) ≤ (n : Int) - 8
     · rw [decide_eq_true h7, decide_eq_true h8]
       go_enter Tryz.func106, Tryz.ntmps106
       go_wp2_with (go_at_call 143; refine HNU.out.mono ?_; rintro e w1 ⟨rfl, hf1⟩; have HF1 := Lib.hid hf1; clear hf1)
       go_ret2
       exact ⟨by first | rfl | (simp; done) | (simp; omega), HF1.out⟩
     · rw [decide_eq_true h7, decide_eq_false h8]
       go_enter Tryz.func106, Tryz.ntmps106
       go_wp2_with (go_at_call 143; refine HNU.out.mono ?_; rintro e w1 ⟨rfl, hf1⟩; have HF1 := Lib.hid hf1; clear hf1)
       go_ret2
       exact ⟨by first | rfl | (simp; done) | (simp; omega), HF1.out⟩
   · have h7 : ¬ (m : Int) ≤ 60000 := by omega
     rw [decide_eq_false h7]
     go_enter Tryz.func106, Tryz.ntmps106
     go_wp2_with (go_at_call 143; refine HNU.out.mono ?_; rintro e w1 ⟨rfl, hf1⟩; have HF1 := Lib.hid hf1; clear hf1)
     go_ret2
     exact ⟨by first | rfl | (simp; done) | (simp; omega), HF1.out⟩
theorem rd_part {w : World} {b off n c : Nat} {l : List UInt8} (h : Rd w (.slice (some ⟨b, off, none⟩) n c) n (bV l)) (hn : l.length = n) (i k c' : Nat) (hik : i + k ≤ n) (hc : k ≤ c') (hm : c' ≤ maxLen) : Rd w (.slice (some ⟨b, off + i, none⟩) k c') k (bV ((l.drop i).take k)) := by
 have hlen : ((l.drop i).take k).length = k := by rw [List.length_take, List.length_drop]; omega
 refine .inr ⟨b, off + i, c', rfl, hc, hm, fun j u hu => ?_⟩
 rcases h with ⟨ad, h1, h2, h3⟩ | ⟨b', off', c'', h1, h2, h3, h4⟩
 · have : l = [] := by simpa [bV] using h3
   subst this
   simp [bV] at hu
 · injection h1 with e1 e2 e3
   injection e1 with e1
   injection e1 with e1 e4
   subst e1 e4
   have hj : j < k := by
    have := (List.getElem?_eq_some_iff.1 hu).1
    rw [bV, List.length_map, hlen] at this
    exact this
   have := h4 (i + j) u (by
    rw [← hu, bV, bV, List.getElem?_map, List.getElem?_map, List.getElem?_take_of_lt hj, List.getElem?_drop])
   rwa [← Nat.add_assoc] at this
def FirstPost (w : World) (ok : Bool) (mid : List UInt8) (e : Ending) (w' : World) : Prop :=
 match ok with
 | true => ∃ a c', e = .returned (.tuple #[.slice a mid.length c', .bool true]) ∧ Copy w (.slice a mid.length c') mid w'
 | false => e = .returned (.tuple #[.slice none 0 0, .bool false]) ∧ Frm NoS w w'
theorem frFirst_any (l : List UInt8) (b off c n m : Nat) (w : World) (h : Rd w (.slice (some ⟨b, off, none⟩) n c) n (bV l)) (hn : l.length = n) (hcn : n ≤ c) (hcm : c ≤ maxLen) (hm : Crc.numb l = m) (h6 : m ≤ 60000) (hmn : m + 8 = n) :
 Calls Tryz.prog 107 #[.slice (some ⟨b, off, none⟩) n c] w (FirstPost w (decide (Crc.sum (l.take (4 + m)) = Crc.numb (l.drop (4 + m)))) ((l.drop 4).take m)) := by
 have HL := Lib.hid (frLong_any l (.slice (some ⟨b, off, none⟩) n c) w (by rw [hn]; exact h))
 have hmi : (m : Int) ≤ 60000 := by omega
 have hm8 : (m : Int) ≤ (n : Int) - 8 := by omega
 rw [hn, hm, if_neg (by omega), if_neg (by omega), decide_eq_true hmi, decide_eq_true hm8] at HL
 have hmx : (c : Int) ≤ 9223372036854775807 := by simp only [maxLen] at hcm; omega
 obtain ⟨K, hK⟩ : ∃ K, K = 4 + m := ⟨_, rfl⟩
 have HP1 := Lib.hid (fun W (f : Frm NoS w W) => rd_keep0 (rd_part h hn 0 K c (by omega) (by omega) hcm) f)
 have HP2 := Lib.hid (fun W (f : Frm NoS w W) => rd_keep0 (rd_part h hn K (n - K) (c - K) (by omega) (by omega) (by omega)) f)
 have HP3 := Lib.hid (fun W (f : Frm NoS w W) => rd_keep0 (rd_part h hn 4 m (c - 4) (by omega) (by omega) (by omega)) f)
 have e1 : (l.drop 0).take K = l.take K := rfl
 have e2 : (l.drop K).take (n - K) = l.drop K := List.take_of_length_le (by rw [List.length_drop]; omega)
 rw [e1] at HP1
 rw [e2] at HP2
 have hl2 : (l.drop K).length = n - K := by rw [List.length_drop]; omega
 have hl1 : (l.take K).length = K := by rw [List.length_take]; omega
 have hl3 : ((l.drop 4).take m).length = m := by rw [List.length_take, List.length_drop]; omega
 have HCR := Lib.hid (fun W (f : Frm NoS w W) => Calls.mono (crcCRC_any (l.take K) (.slice (some ⟨b, off + 0, none⟩) K c) W (by rw [hl1]; exact HP1.out W f)) fun e w' h => (⟨h.1, h.2 ▸ Frm.refl _ _⟩ : e = .returned (.int .u32 (Crc.sum (l.take K))) ∧ Frm NoS W w'))
 have HNU := Lib.hid (fun W (f : Frm NoS w W) => frNumber_any (l.drop K) (by omega) b (off + K) (c - K) (n - K) W (HP2.out W f) hl2)
 have HCL := Lib.hid (fun W (f : Frm NoS w W) => clone_any W (.slice (some ⟨b, off + 4, none⟩) (K - 4) (c - 4)) ((l.drop 4).take m) (by rw [hl3, ← show m = K - 4 by omega]; exact HP3.out W f) (by omega))
 rw [Nat.add_zero] at HCR
 have hc4 : ¬ c = 4 := by omega
 rw [← hK]
 generalize (l.drop 4).take m = mid at *
 have HL3 := Lib.hid hl3; clear hl3
 generalize Crc.sum (l.take K) = sm at *
 generalize Crc.numb (l.drop K) = nb at *
 have hwk : IntKind.i64.wrap (4 + (m : Int)) = (K : Int) := by rw [IntKind.wrap_i64]; omega
 have hk1 : (K : Int) ≤ (c : Int) := by omega
 have hk2 : (K : Int) ≤ (n : Int) := by omega
 have hk3 : ¬ c = K := by omega
 have hk4 : (4 : Int) ≤ (K : Int) := by omega
 have HKM := Lib.hid hK
 have hnc : (n : Int) ≤ (c : Int) := by omega
 clear h e1 e2 hl2 hl1 HP1 HP2 HP3 hK hm hn hmn hcm hcn h6
 cases hq : decide (sm = nb) with
 | true =>
  obtain rfl : sm = nb := of_decide_eq_true hq
  clear hq
  unfold FirstPost
  dsimp only
  go_enter Tryz.func107, Tryz.ntmps107
  go_wp2_with (go_at_call 106; refine HL.out.mono ?_; rintro e w1 ⟨rfl, hf1⟩; have HF1 := Lib.hid hf1; clear hf1)
  obtain ⟨α, hne, KK, hK1, hK0, hK2⟩ := worlds w1
  refine wp_region_new KK (by kernel_rfl) (by kernel_rfl) hK0 ?_
  repeat (go_big_quiet_step ((first | (go_at_call 100; exact Calls.in_class hK2 (HCR.out _ (HF1.out.then1 (hK1 _)))) | (go_at_call 143; exact Calls.in_class hK2 (HNU.out _ (HF1.out.then1 (hK1 _)))))))
  refine wpQuiet_nil ?_
  intro w' hw'
  obtain ⟨s1, rfl⟩ := hw'
  have HF2 := Lib.hid (HF1.out.then1 (hK1 s1))
  clear hK0 hK2 hK1
  generalize KK s1 = w2 at *
  go_wp2_with (go_at_call 98; refine (HCL.out _ HF2.out).mono ?_; rintro e w3 ⟨v3, rfl, cp3⟩; obtain ⟨a3, c3, rfl⟩ := cp3.shape; have HC3 := Lib.hid cp3; clear cp3)
  go_ret2
  exact ⟨a3, c3, rfl, HC3.out.weaken HF2.out⟩
 | false =>
  have he : ¬ sm = nb := of_decide_eq_false hq
  have hb : ((sm : Int) != (nb : Int)) = true := by simp [bne]; omega
  clear hq he
  unfold FirstPost
  dsimp only
  go_enter Tryz.func107, Tryz.ntmps107
  go_wp2_with (go_at_call 106; refine HL.out.mono ?_; rintro e w1 ⟨rfl, hf1⟩; have HF1 := Lib.hid hf1; clear hf1)
  obtain ⟨α, hne, KK, hK1, hK0, hK2⟩ := worlds w1
  refine wp_region_new KK (by kernel_rfl) (by kernel_rfl) hK0 ?_
  repeat (go_big_quiet_step ((first | (go_at_call 100; exact Calls.in_class hK2 (HCR.out _ (HF1.out.then1 (hK1 _)))) | (go_at_call 143; exact Calls.in_class hK2 (HNU.out _ (HF1.out.then1 (hK1 _)))))))
  refine wpQuiet_nil ?_
  intro w' hw'
  obtain ⟨s1, rfl⟩ := hw'
  have HF2 := Lib.hid (HF1.out.then1 (hK1 s1))
  clear hK0 hK2 hK1
  generalize KK s1 = w2 at *
  go_wp2
  go_ret2
  exact ⟨rfl, HF2.out⟩
def OnePost (w : World) (k : Int) (bs : List UInt8) (e : Ending) (w' : World) : Prop :=
 if k = 0 then ∃ a c, e = .returned (.tuple #[.slice a bs.length c, .int .i64 0]) ∧ Copy w (.slice a bs.length c) bs w' else e = .returned (.tuple #[.slice none 0 0, .int .i64 k]) ∧ Frm NoS w w'
theorem oneE_two {l : List UInt8} (h : l.length < 8 ∨ 60000 < Crc.numb l ∨ Crc.numb l + 8 ≠ l.length) : Crc.oneE l = 2 := if_pos h
theorem oneE_sum {l : List UInt8} (h : ¬ (l.length < 8 ∨ 60000 < Crc.numb l ∨ Crc.numb l + 8 ≠ l.length)) : Crc.oneE l = if Crc.sum (l.take (4 + Crc.numb l)) = Crc.numb (l.drop (4 + Crc.numb l)) then 0 else 11 := if_neg h
theorem frOne_any (l : List UInt8) (v : Value) (w : World) (h : Rd w v l.length (bV l)) :
 Calls Tryz.prog 51 #[v] w (OnePost w (Crc.oneE l) (Crc.oneB l)) := by
 have HL := Lib.hid (frLong_any l v w h)
 unfold OnePost
 by_cases h2 : l.length < 8 ∨ 60000 < Crc.numb l ∨ Crc.numb l + 8 ≠ l.length
 · rw [oneE_two h2]
   simp only [if_neg (show ¬ (2 : Int) = 0 by decide)]
   by_cases h8 : l.length < 8
   · rw [if_pos h8, if_pos h8] at HL
     obtain ⟨a0, c0, rfl⟩ := rd_sl h
     clear h h2 h8
     generalize l.length = n at *
     go_enter Tryz.func51, Tryz.ntmps51
     go_wp2_with (go_at_call 106; refine HL.out.mono ?_; rintro e w1 ⟨rfl, hf1⟩; have HF1 := Lib.hid hf1; clear hf1)
     go_ret2
     exact ⟨rfl, HF1.out⟩
   · rw [if_neg h8, if_neg h8] at HL
     have h' := h
     rcases h with ⟨ad, rfl, hz, h3⟩ | ⟨b, off, c, rfl, hm1, hm2, -⟩
     · omega
     have hmx : (l.length : Int) ≤ 9223372036854775807 := by simp only [maxLen] at hm2; omega
     by_cases hok : (Crc.numb l : Int) ≤ 60000 ∧ (Crc.numb l : Int) ≤ (l.length : Int) - 8
     · rw [decide_eq_true hok.1, decide_eq_true hok.2] at HL
       have hne : ((Crc.numb l : Int) != (l.length : Int) - 8) = true := by
        have : ¬ (Crc.numb l : Int) = (l.length : Int) - 8 := by omega
        simp [bne, this]
       have h8' : (8 : Int) ≤ l.length := by omega
       clear h' h2 h8 hok hm1 hm2
       generalize Crc.numb l = m at *
       generalize l.length = n at *
       go_enter Tryz.func51, Tryz.ntmps51
       go_wp2_with (go_at_call 106; refine HL.out.mono ?_; rintro e w1 ⟨rfl, hf1⟩; have HF1 := Lib.hid hf1; clear hf1)
       go_ret2
       exact ⟨rfl, HF1.out⟩
     · have hb : (decide ((Crc.numb l : Int) ≤ 60000) && decide ((Crc.numb l : Int) ≤ (l.length : Int) - 8)) = false := by
        by_cases q : (Crc.numb l : Int) ≤ 60000
        · rw [decide_eq_false (p := (Crc.numb l : Int) ≤ (l.length : Int) - 8) (fun q2 => hok ⟨q, q2⟩), Bool.and_false]
        · rw [decide_eq_false q, Bool.false_and]
       rw [hb] at HL
       clear h' h2 h8 hok hm1 hm2 hb
       generalize Crc.numb l = m at *
       generalize l.length = n at *
       go_enter Tryz.func51, Tryz.ntmps51
       go_wp2_with (go_at_call 106; refine HL.out.mono ?_; rintro e w1 ⟨rfl, hf1⟩; have HF1 := Lib.hid hf1; clear hf1)
       go_ret2
       exact ⟨rfl, HF1.out⟩
 · rw [if_neg (by omega), if_neg (by omega), decide_eq_true (by omega : (Crc.numb l : Int) ≤ 60000), decide_eq_true (by omega : (Crc.numb l : Int) ≤ (l.length : Int) - 8)] at HL
   have h' := h
   rcases h with ⟨ad, rfl, hz, h3⟩ | ⟨b, off, c, rfl, hm1, hm2, -⟩
   · omega
   have hmx : (l.length : Int) ≤ 9223372036854775807 := by simp only [maxLen] at hm2; omega
   have HFI := Lib.hid (fun W (f : Frm NoS w W) => frFirst_any l b off c l.length (Crc.numb l) W (rd_keep0 h' f) rfl hm1 hm2 rfl (by omega) (by omega))
   have hne : ((Crc.numb l : Int) != (l.length : Int) - 8) = false := by
    have : (Crc.numb l : Int) = (l.length : Int) - 8 := by omega
    simp [bne, this]
   have h8' : (8 : Int) ≤ l.length := by omega
   have HOB := Lib.hid (show Crc.oneE l = 0 → Crc.oneB l = (l.drop 4).take (Crc.numb l) from fun h => if_pos h)
   have HOE := Lib.hid (oneE_sum h2)
   unfold FirstPost at HFI
   cases hq : decide (Crc.sum (l.take (4 + Crc.numb l)) = Crc.numb (l.drop (4 + Crc.numb l))) with
   | true =>
    have h0 : Crc.oneE l = 0 := by rw [HOE.out, if_pos (of_decide_eq_true hq)]
    rw [hq] at HFI
    rw [h0, HOB.out h0]
    simp only [if_pos (show (0 : Int) = 0 from rfl)]
    dsimp only at HFI
    clear h' h2 hm1 hm2 hq h0 HOB HOE
    generalize (l.drop 4).take (Crc.numb l) = mid at *
    generalize Crc.numb l = m at *
    generalize l.length = n at *
    go_enter Tryz.func51, Tryz.ntmps51
    go_wp2_with (first
     | (go_at_call 106; refine HL.out.mono ?_; rintro e w1 ⟨rfl, hf1⟩; have HF1 := Lib.hid hf1; clear hf1)
     | (go_at_call 107; refine (HFI.out _ HF1.out).mono ?_; rintro e w2 ⟨a2, c2, rfl, cp2⟩; have HC2 := Lib.hid cp2; clear cp2))
    go_ret2
    exact ⟨a2, c2, rfl, HC2.out.weaken HF1.out⟩
   | false =>
    have h0 : Crc.oneE l = 11 := by rw [HOE.out, if_neg (of_decide_eq_false hq)]
    rw [hq] at HFI
    rw [h0]
    simp only [if_neg (show ¬ (11 : Int) = 0 by decide)]
    dsimp only at HFI
    clear h' h2 hm1 hm2 hq h0 HOB HOE
    generalize Crc.numb l = m at *
    generalize l.length = n at *
    go_enter Tryz.func51, Tryz.ntmps51
    go_wp2_with (first
     | (go_at_call 106; refine HL.out.mono ?_; rintro e w1 ⟨rfl, hf1⟩; have HF1 := Lib.hid hf1; clear hf1)
     | (go_at_call 107; refine (HFI.out _ HF1.out).mono ?_; rintro e w2 ⟨rfl, hf2⟩; have HF2 := Lib.hid (HF1.out.then1 hf2); clear hf2))
    go_ret2
    exact ⟨rfl, HF2.out⟩
theorem ForAt.old {Q : Nat → Prop} {w : World} : ∀ {ks : KidsL} {os : List (Value × Value)}, ForAt Q w ks os → ForAt (fun b => b < w.heap.size) w ks os
 | .nil, _, h => h
 | .cons _ _ _ _, _, ⟨ev, kv, outs', os, h1, h2, h3, h4, h5⟩ => ⟨ev, kv, outs', os, h1, RdQ.old h2.rd, RdQ.old h3.rd, ForAt.old h4, ForAt.old h5⟩
theorem TreeAt.old {Q : Nat → Prop} {w : World} {ev kv : Value} {es : List Ent} {ks : KidsL} (h : TreeAt Q w ev kv es ks) : TreeAt (fun b => b < w.heap.size) w ev kv es ks := by
 obtain ⟨h1, os, h2, h3⟩ := h
 exact ⟨RdQ.old h1.rd, os, RdQ.old h2.rd, ForAt.old h3⟩
theorem MsgAt.each {Q : Nat → Prop} {w : World} {m : MsgD} {ps : List BunP} {lv ev kv cv : Value} (h : MsgAt Q w m ps lv ev kv cv) (hok : MsgOkS m) : ∀ p ∈ ps, CauOk p.b.es p.b.ks p.b.c := fun p hp => hok.each p.b (h.eq ▸ List.mem_map.2 ⟨p, hp, rfl⟩)
theorem mRight_at (Q : Nat → Prop) (m : MsgD) (ps : List BunP) (w : World) (lv ev kv cv : Value) (h : MsgAt Q w m ps lv ev kv cv) (hok : MsgOkS m) :
 Calls Tryz.prog 11 #[m.ag lv ev kv cv] w fun e w' => e = .returned (.bool (tf m.right)) ∧ Frm NoS w w' := by
 have hr := mRight_any Q ps m.es m.ks m.c w m.kind m.fr m.tt m.v0 m.v1 m.v2 m.v3 lv ev kv cv h.bs (h.each hok) (by rw [h.len]; have := hok.len; omega) h.cau hok.st
 have e : tf (MsgOk m.kind m.fr m.tt m.v0 m.v1 m.v2 m.v3 ps m.es m.ks m.c) = tf m.right := tf_congr (by rw [msgOk_iff, h.eq])
 rwa [e] at hr
theorem mEncode_no (Q : Nat → Prop) (m : MsgD) (ps : List BunP) (w : World) (lv ev kv cv : Value) (h : MsgAt Q w m ps lv ev kv cv) (hok : MsgOkS m) (hr : ¬ m.right) :
 Calls Tryz.prog 14 #[m.ag lv ev kv cv] w fun e w' => e = .returned (.tuple #[.slice none 0 0, .int .i64 1]) ∧ Frm NoS w w' := by
 have HR := Lib.hid (fun W (f : Frm NoS w W) => tf_false hr ▸ mRight_at Q m ps W lv ev kv cv (h.keep0 f) hok)
 obtain ⟨kind, fr, tt, v0, v1, v2, v3, bs, es, ks, c⟩ := m
 obtain ⟨a0, c0, a1, c1, a2, c2, rfl, rfl, rfl⟩ := h.cau.shape
 obtain ⟨al, cl, rfl⟩ := h.bs.rd.sl
 clear hr h hok
 dsimp only [MsgD.ag] at HR ⊢
 have HFA := Lib.hid (Frm.alloc NoS w (.cells #[.int .i64 kind, .int .i64 fr, .int .i64 tt, .int .i64 v0, .int .i64 v1, .int .i64 v2, .int .i64 v3, .slice al ps.length cl, .slice a0 es.length c0, .slice a1 ks.len c1, .slice a2 c.length c2] 40))
 generalize ps.length = ln at *
 generalize es.length = n at *
 generalize ks.len = m at *
 generalize c.length = k at *
 go_enter Tryz.func14, Tryz.ntmps14
 go_wp2_with (go_at_call 11; refine (HR.out _ HFA.out).mono ?_; rintro e w1 ⟨rfl, hw1⟩; have HW1 := Lib.hid (HFA.out.then1 hw1); clear hw1)
 go_ret2
 exact ⟨rfl, HW1.out⟩
def EncOk (w : World) (x : List UInt8) (e : Ending) (w' : World) : Prop := ∃ a c t, t = x ∧ e = .returned (.tuple #[.slice a t.length c, .int .i64 0]) ∧ Copy w (.slice a t.length c) t w'
theorem take_flat_le (l : List BunD) (k : Nat) : ((l.take k).flatMap BunD.enc).length ≤ (l.flatMap BunD.enc).length := by
 have : (l.flatMap BunD.enc).length = ((l.take k).flatMap BunD.enc ++ (l.drop k).flatMap BunD.enc).length := by rw [← List.flatMap_append, List.take_append_drop]
 rw [this, List.length_append]
 omega
theorem frFrame_t (bs : List UInt8) (v : Value) (w : World) (h : Rd w v bs.length (bV bs)) (hl : bs.length ≤ 60000) : Calls Tryz.prog 45 #[v] w fun e w' => ∃ a c t, t = Crc.frameB bs ∧ e = .returned (.tuple #[.slice a t.length c, .int .i64 0]) ∧ Copy w (.slice a t.length c) t w' :=
 (frFrame_ok bs v w h hl).mono fun e w' ⟨a, c, h1, h2⟩ => ⟨a, c, _, rfl, h1, h2⟩
theorem end_t (ob : Nat) (w : World) (v : Value) (bs : List UInt8) (h : OutAt w ob v bs) (hl : bs.length ≤ 60000) : Calls Tryz.prog 44 #[.pointer (some ⟨ob, 0, none⟩)] w fun e w' => ∃ a c t, t = bs ∧ e = .returned (.tuple #[.slice a t.length c, .int .i64 0]) ∧ Copy w (.slice a t.length c) t w' :=
 (end_ok ob w v bs h hl).mono fun e w' ⟨v', he, cp⟩ => by
  obtain ⟨a, c, rfl⟩ := cp.shape
  exact ⟨a, c, bs, rfl, he, cp⟩
theorem nil_out {ob b : Nat} (h : OutS ob (.slice none 0 0) b) : b = ob := by
 rcases h with h | h
 · exact h
 · cases h
theorem mEncode_yes (Q : Nat → Prop) (m : MsgD) (ps : List BunP) (w : World) (lv ev kv cv : Value) (h : MsgAt Q w m ps lv ev kv cv) (hok : MsgOkS m) (hr : m.right) (hl : m.enc.length ≤ 60000) :
 Calls Tryz.prog 14 #[m.ag lv ev kv cv] w (EncOk w (Crc.frameB m.enc)) := by
 have HR := Lib.hid (fun W (f : Frm NoS w W) => tf_true hr ▸ mRight_at Q m ps W lv ev kv cv (h.keep0 f) hok)
 obtain ⟨l1, l2, l3, l4, l5⟩ := hr.lens
 obtain ⟨n1, n2, n3, -⟩ := hr.nums
 have n0 := hr.kind
 have nl := hr.len
 have HEA := Lib.hid hr.each
 have HOB := Lib.hid (h.each hok)
 obtain ⟨kind, fr, tt, v0, v1, v2, v3, bs, es, ks, c⟩ := m
 have hps := h.eq
 have hbs := h.bs
 have hca := h.cau
 have hokc := hok.st
 dsimp only at hps hca hokc l1 l2 l3 l4 l5 n0 n1 n2 n3 nl HEA
 have HTL := Lib.hid (show kind = 2 → CauRight es ks c from fun hk => hr.cau hk)
 clear h hok hr
 have HV := Lib.hid (show vecB v0 v1 v2 v3 = encV v0 v1 v2 v3 from if_pos (tf_true n1))
 have HENC := Lib.hid (show MsgD.enc ⟨kind, fr, tt, v0, v1, v2, v3, bs, es, ks, c⟩ = numB kind ++ numB fr ++ numB tt ++ encV v0 v1 v2 v3 ++ numB (bs.length : Int) ++ bs.flatMap BunD.enc ++ (if kind = 2 then encX es ks c else []) by unfold MsgD.enc MsgD.tail; simp only [List.append_assoc])
 have HFL := Lib.hid (fun k => take_flat_le bs k)
 have hbl : (bs.flatMap BunD.enc).length ≤ 60000 := by rw [HENC.out] at hl; simp only [List.length_append] at hl; omega
 have HBL := Lib.hid hbl; clear hbl
 have HL := Lib.hid hl; clear hl
 have i0 : inR kind := ⟨by omega, by omega⟩
 have i1 : inR fr := ⟨by omega, by omega⟩
 have i2 : inR tt := ⟨by omega, by omega⟩
 have i3 : inR (bs.length : Int) := ⟨by omega, by omega⟩
 clear n0 n1 n2 n3
 have HTO := Lib.hid hca.tree.old
 have HXC := Lib.hid (fun W (f : Frm NoS w W) => hca.keep0 f)
 have HPT := Lib.hid (fun p hp => And.intro (hbs.cau p hp).tree.old (RdQ.old (hbs.cau p hp).ctx))
 have HSH := Lib.hid (fun p hp => (hbs.cau p hp).shape)
 have HX := Lib.hid (fun hk => cauB_right (HTL.out hk))
 have HOKC := Lib.hid hokc; clear hokc
 have hlen : ps.length = bs.length := by rw [← hps, List.length_map]
 have hcell : ∀ k, k < ps.length → (ps.getD k BunP.zero).b = bs.getD k BunD.zero := fun k hk => by
  rw [← hps, List.getD_eq_getElem?_getD, List.getD_eq_getElem?_getD, List.getElem?_map, List.getElem?_eq_getElem hk]; rfl
 have HCE := Lib.hid hcell; clear hcell
 have hrd := hbs.rd
 obtain ⟨a0, c0, a1, c1, a2, c2, rfl, rfl, rfl⟩ := hca.shape
 obtain ⟨al, cl, rfl⟩ := hbs.rd.sl
 clear hca hbs
 have HRD := Lib.hid hrd; clear hrd
 dsimp only [MsgD.ag] at HR ⊢
 have HFA := Lib.hid (Frm.alloc NoS w (.cells #[.int .i64 kind, .int .i64 fr, .int .i64 tt, .int .i64 v0, .int .i64 v1, .int .i64 v2, .int .i64 v3, .slice al ps.length cl, .slice a0 es.length c0, .slice a1 ks.len c1, .slice a2 c.length c2] 40))
 have HBX := Lib.hid (fun W f => box11 w (.int .i64 kind) (.int .i64 fr) (.int .i64 tt) (.int .i64 v0) (.int .i64 v1) (.int .i64 v2) (.int .i64 v3) (.slice al ps.length cl) (.slice a0 es.length c0) (.slice a1 ks.len c1) (.slice a2 c.length c2) 40 W f)
 have HPS := Lib.hid hps; clear hps
 have HLN := Lib.hid hlen; clear hlen
 rw [← HLN.out] at HENC i3 l5 nl
 have HFX := Lib.hid (fun k (hk : k < ps.length) => (show (bs.take (k + 1)).flatMap BunD.enc = (bs.take k).flatMap BunD.enc ++ (ps.getD k BunP.zero).b.enc by
  rw [HCE.out k hk, take_succ BunD.zero (by rw [← HLN.out]; exact hk), List.flatMap_append]
  simp))
 have HFE := Lib.hid (show (bs.take ps.length).flatMap BunD.enc = bs.flatMap BunD.enc by rw [HLN.out, List.take_length])
 have HRB := Lib.hid (fun k (hk : k < ps.length) => (show (ps.getD k BunP.zero).b.right from HEA.out _ (by rw [HCE.out k hk]; exact getD_mem BunD.zero (by rw [← HLN.out]; exact hk))))
 clear HEA HCE
 generalize hln : ps.length = ln at *
 have HLEN := Lib.hid hln; clear hln
 clear HLN HPS
 go_enter Tryz.func14, Tryz.ntmps14
 go_wp2_with (first
  | (go_at_call 11; refine (HR.out _ HFA.out).mono ?_; rintro e w1 ⟨rfl, hf1⟩
     obtain ⟨x0, -, -, -, -, -, -, -, -, -, -⟩ := HBX.out w1 hf1
     have hlb := World.block_lt_of_cell? _ _ x0
     have HF1 := Lib.hid hf1
     have HBK := Lib.hid (fun W cs (hp : Put1 (w1.alloc (.cells #[.slice none 0 0] 81)) w1.heap.size (.slice none 0 0) [] cs W) => HBX.out W (by
      obtain ⟨_, _, _, f3⟩ := hp
      exact (hf1.then1 (Frm.alloc _ _ _)).trans f3 fun i hi hs => absurd (nil_out hs) (by have h1 := hf1.size; omega)))
     have HOL := Lib.hid (fun W cs (hp : Put1 (w1.alloc (.cells #[.slice none 0 0] 81)) w1.heap.size (.slice none 0 0) [] cs W) => (show Frm NoS w W by
      obtain ⟨_, _, _, f3⟩ := hp
      exact ((HFA.out.then1 hf1).then1 (Frm.alloc _ _ _)).trans f3 fun i hi hs => absurd (nil_out hs) (by have h1 := hf1.size; have h2 := HFA.out.size; omega)))
     have HPS := Lib.hid (Put1.start (out_new w1))
     have hww : w.heap.size < w1.heap.size := hlb
     have HWW := Lib.hid hww
     clear hf1 hww)
  | (go_at_call 40; first
    | (have q9 := HP4; clear q9 x7; refine (putNum HP4.out (ln : Int) i3 (by simp only [List.length_append, List.length_nil]; omega)).mono ?_; rintro e w6 ⟨rfl, hp6⟩
       obtain ⟨x0, -, -, -, -, -, -, x7, x8, x9, x10⟩ := HBK.out _ _ hp6
       have hlb := World.block_lt_of_cell? _ _ x0
       have HP5 := Lib.hid hp6; clear hp6)
    | (have q9 := HP2; clear q9 x2; refine (putNum HP2.out tt i2 (by simp only [List.length_append, List.length_nil]; omega)).mono ?_; rintro e w4 ⟨rfl, hp4⟩
       obtain ⟨-, -, -, x3, x4, x5, x6, -, -, -, -⟩ := HBK.out _ _ hp4
       have HP3 := Lib.hid hp4; clear hp4)
    | (have q9 := HP1; clear q9 x1; refine (putNum HP1.out fr i1 (by simp only [List.length_append, List.length_nil]; omega)).mono ?_; rintro e w3 ⟨rfl, hp3⟩
       obtain ⟨-, -, x2, -, -, -, -, -, -, -, -⟩ := HBK.out _ _ hp3
       have HP2 := Lib.hid hp3; clear hp3)
    | (clear x0 hlb; refine (putNum HPS.out kind i0 (by simp only [List.length_nil]; omega)).mono ?_; rintro e w2 ⟨rfl, hp2⟩
       rw [List.nil_append] at hp2
       obtain ⟨-, x1, -, -, -, -, -, -, -, -, -⟩ := HBK.out _ _ hp2
       have HP1 := Lib.hid hp2; clear hp2))
  | (go_at_call 41; clear x3 x4 x5 x6; refine (HP3.out.call (ds := encV v0 v1 v2 v3) fun v' ho' _ _ => (pPutVec_all _ w4 v' _ v0 v1 v2 v3 ho' (by simp only [List.length_append, List.length_nil]; omega)).mono fun e w' h => ⟨h.1, by rw [HV.out] at h; exact h.2⟩).mono ?_; rintro e w5 ⟨rfl, hp5⟩
     obtain ⟨-, -, -, -, -, -, -, x7, -, -, -⟩ := HBK.out _ _ hp5
     have HP4 := Lib.hid hp5; clear hp5))
 obtain ⟨hd, hhd⟩ : ∃ hd, hd = numB kind ++ numB fr ++ numB tt ++ encV v0 v1 v2 v3 ++ numB (ln : Int) := ⟨_, rfl⟩
 have hdl : hd.length ≤ 80 := by rw [hhd]; simp only [List.length_append]; omega
 have HDL := Lib.hid hdl
 rw [← hhd] at HP5 HENC
 have HHD := Lib.hid hhd; clear hhd
 clear HP1 HP2 HP3 HP4 hdl l1 l2 l3 l4 l5 i0 i1 i2 i3 HPS
 clear x0 hlb x7 x8 x9 x10
 go_loopw [31] (fun i ww => ∃ k : Nat, k ≤ ln ∧ i = .int .i64 k ∧ Put1 (w1.alloc (.cells #[.slice none 0 0] 81)) w1.heap.size (.slice none 0 0) [] (hd ++ (bs.take k).flatMap BunD.enc) ww) (fun i _ => ln - (intOf i).toNat)
 case atStart => exact ⟨0, Nat.zero_le _, rfl, HP5.out.cast (by simp)⟩
 case round =>
  clear HP5
  obtain ⟨k, hk, rfl, hp⟩ := hrel
  have HP6 := Lib.hid hp; clear hp
  by_cases hlt : k < ln
  · have hlk : k < ps.length := by rw [HLEN.out]; exact hlt
    have hrd := HRD.out.keep0 (HOL.out _ _ HP6.out)
    rcases Rd.shape hrd with ⟨ad, he, h0⟩ | ⟨b, off, cc, he, hmax⟩
    · exfalso; omega
    · injection he with e1 e2 e3
      subst e1 e3
      clear e2
      obtain ⟨q0, q1, q2, q3, q4, q5, q6, q7, q8, q9⟩ := bun_at hrd k hlk
      clear hrd
      have hm := getD_mem BunP.zero hlk
      have hpk := HPT.out _ hm
      have hok := HOB.out _ hm
      have hri := HRB.out k hlt
      have hsh := HSH.out _ hm
      have hfx := HFX.out k hlt
      clear hm
      obtain ⟨p, hgd⟩ : ∃ p, p = ps.getD k BunP.zero := ⟨_, rfl⟩
      rw [← hgd] at q0 q1 q2 q3 q4 q5 q6 q7 q8 q9 hpk hok hri hsh hfx
      clear hgd
      obtain ⟨⟨dc, af, la, u0, u1, u2, u3, es', ks', c'⟩, ev', kv', cv'⟩ := p
      dsimp only at q0 q1 q2 q3 q4 q5 q6 q7 q8 q9 hpk hok hri hsh hfx
      obtain ⟨a3, c3, a4, c4, a5, c5, rfl, rfl, rfl⟩ := hsh
      have HFXK := Lib.hid hfx; clear hfx
      obtain ⟨v', ho', hfr, hfm⟩ := HP6.out
      have hold := HOL.out _ _ HP6.out
      have hbp := bPut_yes (fun b => b < w.heap.size) ⟨dc, af, la, u0, u1, u2, u3, es', ks', c'⟩ hri hok (wr.alloc (.cells #[.int .i64 dc, .int .i64 af, .int .i64 la, .int .i64 u0, .int .i64 u1, .int .i64 u2, .int .i64 u3, .slice a3 es'.length c3, .slice a4 ks'.len c4, .slice a5 c'.length c5] 64)) _ _ _ (hpk.1.keep0 (hold.then1 (Frm.alloc _ _ _))) (RdQ.keep hpk.2 (hold.then1 (Frm.alloc _ _ _)) fun _ _ hs => hs.elim) w1.heap.size v' _ (ho'.keep0 (Frm.alloc _ _ _)) (fun b hb hQ => by
       have hww := HWW.out
       rcases hb with hb | hb
       · omega
       · rcases hfr b hb with hb | hb
         · cases hb
         · simp at hb; omega) (by have h1 := HFL.out k; have h2 := HBL.out; have h3 := HDL.out; simp only [List.length_append, List.length_nil]; omega)
      dsimp only at hbp
      have HBP := Lib.hid hbp; clear hbp hpk hok hri ho' hold
      have HFR := Lib.hid hfr; clear hfr
      have HFM := Lib.hid hfm; clear hfm
      generalize es'.length = n' at *
      generalize ks'.len = m' at *
      generalize c'.length = k' at *
      go_wp2_with (go_at_call 42; refine HBP.out.mono ?_; rintro e w7 ⟨rfl, hp7⟩; have HP7 := Lib.hid hp7; clear hp7)
      go_roundw
      case rel => exact ⟨k + 1, by omega, by go_num, (Put1.trans HFR.out HFM.out (HP7.out.base (Frm.alloc _ _ _))).cast (by rw [HFXK.out]; simp only [List.append_assoc])⟩
      case measure => simp [intOf]; omega
  · obtain rfl : ln = k := by omega
    rw [HFE.out] at HP6
    obtain ⟨x0, -, -, -, -, -, -, -, x8, x9, x10⟩ := HBK.out _ _ HP6.out
    have hlb := World.block_lt_of_cell? _ _ x0
    have hlx : (hd ++ bs.flatMap BunD.enc).length ≤ 70000 := by have h2 := HBL.out; have h3 := HDL.out; rw [List.length_append]; omega
    have HLX := Lib.hid hlx; clear hlx hlt hk
    by_cases hk2 : kind = 2
    rotate_left 1
    · have c2' : ((kind : Int) == 2) = false := beq_false_of_ne hk2
      have HFIN := Lib.hid (show MsgD.enc ⟨kind, fr, tt, v0, v1, v2, v3, bs, es, ks, c⟩ = hd ++ bs.flatMap BunD.enc by rw [HENC.out, if_neg hk2, List.append_nil])
      clear hk2 x8 x9 x10
      go_wp2_with (first
       | (go_at_call 44; obtain ⟨v8, ho8, -, -⟩ := HP6.out; rw [List.nil_append] at ho8; refine (end_t _ _ _ _ ho8 (by have := HL.out; rw [HFIN.out] at this; exact this)).mono ?_; rintro e w9 ⟨a9, c9, t9, ht9, rfl, cp9⟩; have HT9 := Lib.hid ht9; clear ht9; have HO9 := Lib.hid (HOL.out _ _ HP6.out); have HC9 := Lib.hid cp9; clear cp9 ho8)
       | (go_at_call 45; refine (frFrame_t _ _ _ HC9.out.rd (by have := HL.out; rw [HFIN.out] at this; rw [HT9.out]; exact this)).mono ?_; rintro e w10 ⟨a10, c10, t10, ht10, rfl, cp10⟩; have HT10 := Lib.hid ht10; clear ht10; have HC10 := Lib.hid cp10; clear cp10))
      go_ret2
      exact ⟨a10, c10, t10, by rw [HT10.out, HT9.out, HFIN.out], rfl, HC10.out.weaken (HO9.out.then1 HC9.out.frm)⟩
    subst hk2
    have HFIN := Lib.hid (show MsgD.enc ⟨2, fr, tt, v0, v1, v2, v3, bs, es, ks, c⟩ = hd ++ bs.flatMap BunD.enc ++ encX es ks c by rw [HENC.out, if_pos rfl])
    go_wp2_with (first
     | (go_at_call 43; refine (HP6.out.call (ds := encX es ks c) fun v' ho' _ _ => (pPutCausal_any Q _ wr v' _ es ks c _ _ _ ho' (HXC.out _ (HOL.out _ _ HP6.out)) HOKC.out (by have := HLX.out; rw [List.nil_append]; omega)).mono fun e w' h => ⟨h.1, by rw [HX.out rfl] at h; exact h.2⟩).mono ?_; rintro e w8 ⟨rfl, hp8⟩; have HP8 := Lib.hid hp8; clear hp8)
     | (go_at_call 44; obtain ⟨v8, ho8, -, -⟩ := HP8.out; rw [List.nil_append] at ho8; refine (end_t _ _ _ _ ho8 (by have := HL.out; rw [HFIN.out] at this; exact this)).mono ?_; rintro e w9 ⟨a9, c9, t9, ht9, rfl, cp9⟩; have HT9 := Lib.hid ht9; clear ht9; have HO9 := Lib.hid (HOL.out _ _ HP8.out); have HC9 := Lib.hid cp9; clear cp9 ho8)
     | (go_at_call 45; refine (frFrame_t _ _ _ HC9.out.rd (by have := HL.out; rw [HFIN.out] at this; rw [HT9.out]; exact this)).mono ?_; rintro e w10 ⟨a10, c10, t10, ht10, rfl, cp10⟩; have HT10 := Lib.hid ht10; clear ht10; have HC10 := Lib.hid cp10; clear cp10))
    go_ret2
    exact ⟨a10, c10, t10, by rw [HT10.out, HT9.out, HFIN.out], rfl, HC10.out.weaken (HO9.out.then1 HC9.out.frm)⟩
end Go.Proofs.YtcahemkomfaabaaGreat
