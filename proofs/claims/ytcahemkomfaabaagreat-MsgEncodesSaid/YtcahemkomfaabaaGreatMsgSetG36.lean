/- Words for the law MsgSet: R25Enc. -/
import Derived.Test.YtcahemkomfaabaaGreatMsgSetG31
import Derived.Test.YtcahemkomfaabaaGreatMsgSetG35
set_option linter.unusedSimpArgs false
set_option linter.unusedVariables false
set_option maxHeartbeats 32000000
set_option maxRecDepth 1000000
namespace Go.Proofs.YtcahemkomfaabaaGreat
open Go.RowKit
theorem r25Encode_no (Q : Nat → Prop) (m : MsgD) (ps : List BunP) (w : World) (lv ev kv cv : Value) (h : MsgAt Q w m ps lv ev kv cv) (hok : MsgOkS m) (hr : ¬ m.right) :
 Calls Tryz.prog 15 #[m.ag lv ev kv cv] w fun e w' => e = .returned (.tuple #[.slice none 0 0, .int .i64 1]) ∧ Frm NoS w w' := by
 have HR := Lib.hid (fun W (f : Frm NoS w W) => tf_false hr ▸ r25Right_any Q m ps W lv ev kv cv (h.keep0 f) hok)
 obtain ⟨kind, fr, tt, v0, v1, v2, v3, bs, es, ks, c⟩ := m
 obtain ⟨a0, c0, a1, c1, a2, c2, rfl, rfl, rfl⟩ := h.cau.shape
 obtain ⟨al, cl, rfl⟩ := h.bs.rd.sl
 clear hr h hok
 dsimp only [MsgD.ag] at HR ⊢
 have HFA := Lib.hid (Frm.alloc NoS w (.cells #[.int .i64 kind, .int .i64 fr, .int .i64 tt, .int .i64 v0, .int .i64 v1, .int .i64 v2, .int .i64 v3, .slice al ps.length cl, .slice a0 es.length c0, .slice a1 ks.len c1, .slice a2 c.length c2] 34))
 generalize ps.length = ln at *
 generalize es.length = n at *
 generalize ks.len = m at *
 generalize c.length = k at *
 go_enter Tryz.func15, Tryz.ntmps15
 go_wp2_with (go_at_call 13; refine (HR.out _ HFA.out).mono ?_; rintro e w1 ⟨rfl, hw1⟩; have HW1 := Lib.hid (HFA.out.then1 hw1); clear hw1)
 go_ret2
 exact ⟨rfl, HW1.out⟩
theorem r4Frame_t (bs : List UInt8) (v : Value) (w : World) (h : Rd w v bs.length (bV bs)) (hl : bs.length ≤ 60000) : Calls Tryz.prog 50 #[v] w fun e w' => ∃ a c t, t = Crc.frameB bs ∧ e = .returned (.tuple #[.slice a t.length c, .bool true]) ∧ Copy w (.slice a t.length c) t w' :=
 (r4Frame_ok bs v w h hl).mono fun e w' ⟨a, c, h1, h2⟩ => ⟨a, c, _, rfl, h1, h2⟩
theorem r25Encode_yes (m : MsgD) (ps : List BunP) (w : World) (lv ev kv cv : Value) (h : MsgAt (fun _ => True) w m ps lv ev kv cv) (hok : MsgOkS m) (hr : m.right) (hl : m.enc.length ≤ 60000) :
 Calls Tryz.prog 15 #[m.ag lv ev kv cv] w (EncOk w (Crc.frameB m.enc)) := by
 have HR := Lib.hid (fun W (f : Frm NoS w W) => tf_true hr ▸ r25Right_any (fun _ => True) m ps W lv ev kv cv (h.keep0 f) hok)
 obtain ⟨l1, l2, l3, l4, l5⟩ := hr.lens
 obtain ⟨n1, n2, n3, -⟩ := hr.nums
 have n0 := hr.kind
 have nl := hr.len
 have HEA := Lib.hid hr.each
 have HOB := Lib.hid (h.each hok)
 obtain ⟨kind, fr, tt, v0, v1, v2, v3, bs, es, ks, c⟩ := m
 have hps := h.eq
 have hbs := h.bs
 have hca := h.cau
 have hokc := hok.st
 dsimp only at hps hca hokc l1 l2 l3 l4 l5 n0 n1 n2 n3 nl HEA
 have HTL := Lib.hid (show kind = 2 → CauRight es ks c from fun hk => hr.cau hk)
 clear h hok hr
 have HV := Lib.hid (show vecB v0 v1 v2 v3 = encV v0 v1 v2 v3 from if_pos (tf_true n1))
 have HENC := Lib.hid (show MsgD.enc ⟨kind, fr, tt, v0, v1, v2, v3, bs, es, ks, c⟩ = ([kind, fr, tt] : List Int).flatMap numB ++ encV v0 v1 v2 v3 ++ numB (bs.length : Int) ++ bs.flatMap BunD.enc ++ (if kind = 2 then encX es ks c else []) by unfold MsgD.enc MsgD.tail; simp only [List.append_assoc, List.flatMap_cons, List.flatMap_nil, List.append_nil])
 have HFL := Lib.hid (fun k => take_flat_le bs k)
 have hbl : (bs.flatMap BunD.enc).length ≤ 60000 := by rw [HENC.out] at hl; simp only [List.length_append] at hl; omega
 have HBL := Lib.hid hbl; clear hbl
 have HL := Lib.hid hl; clear hl
 have hin : ∀ x ∈ ([kind, fr, tt] : List Int), inR x := by
  intro x hx
  simp only [List.mem_cons, List.not_mem_nil, or_false] at hx
  rcases hx with rfl | rfl | rfl
  · exact ⟨by omega, by omega⟩
  · exact ⟨by omega, by omega⟩
  · exact ⟨by omega, by omega⟩
 have HIN := Lib.hid hin; clear hin
 have i3 : inR (bs.length : Int) := ⟨by omega, by omega⟩
 clear n0 n1 n2 n3
 have HXC := Lib.hid (fun W (f : Frm NoS w W) => hca.keep0 f)
 have HPT := Lib.hid (fun p hp W (f : Frm NoS w W) => (hbs.cau p hp).keep0 f)
 have HSH := Lib.hid (fun p hp => (hbs.cau p hp).shape)
 have HX := Lib.hid (fun hk => cauB_right (HTL.out hk))
 have HXL := Lib.hid (cauB_le hokc)
 have HOKC := Lib.hid hokc; clear hokc
 have hlen : ps.length = bs.length := by rw [← hps, List.length_map]
 have hcell : ∀ k, k < ps.length → (ps.getD k BunP.zero).b = bs.getD k BunD.zero := fun k hk => by
  rw [← hps, List.getD_eq_getElem?_getD, List.getD_eq_getElem?_getD, List.getElem?_map, List.getElem?_eq_getElem hk]; rfl
 have HCE := Lib.hid hcell; clear hcell
 have hrd := hbs.rd
 obtain ⟨a0, c0, a1, c1, a2, c2, rfl, rfl, rfl⟩ := hca.shape
 obtain ⟨al, cl, rfl⟩ := hbs.rd.sl
 clear hca hbs
 have HRD := Lib.hid hrd; clear hrd
 dsimp only [MsgD.ag] at HR ⊢
 have HFA := Lib.hid (Frm.alloc NoS w (.cells #[.int .i64 kind, .int .i64 fr, .int .i64 tt, .int .i64 v0, .int .i64 v1, .int .i64 v2, .int .i64 v3, .slice al ps.length cl, .slice a0 es.length c0, .slice a1 ks.len c1, .slice a2 c.length c2] 34))
 have HBX := Lib.hid (fun W f => box11 w (.int .i64 kind) (.int .i64 fr) (.int .i64 tt) (.int .i64 v0) (.int .i64 v1) (.int .i64 v2) (.int .i64 v3) (.slice al ps.length cl) (.slice a0 es.length c0) (.slice a1 ks.len c1) (.slice a2 c.length c2) 34 W f)
 have HPS := Lib.hid hps; clear hps
 have HLN := Lib.hid hlen; clear hlen
 rw [← HLN.out] at HENC i3 l5 nl
 have HFX := Lib.hid (fun k (hk : k < ps.length) => (show (bs.take (k + 1)).flatMap BunD.enc = (bs.take k).flatMap BunD.enc ++ (ps.getD k BunP.zero).b.enc by
  rw [HCE.out k hk, take_succ BunD.zero (by rw [← HLN.out]; exact hk), List.flatMap_append]
  simp))
 have HFE := Lib.hid (show (bs.take ps.length).flatMap BunD.enc = bs.flatMap BunD.enc by rw [HLN.out, List.take_length])
 have HRB := Lib.hid (fun k (hk : k < ps.length) => (show (ps.getD k BunP.zero).b.right from HEA.out _ (by rw [HCE.out k hk]; exact getD_mem BunD.zero (by rw [← HLN.out]; exact hk))))
 clear HEA HCE
 generalize hln : ps.length = ln at *
 have HLEN := Lib.hid hln; clear hln
 clear HLN HPS
 have HVC := Lib.hid (fun W => HV.out ▸ r16Vec_any W v0 v1 v2 v3)
 have HNL := Lib.hid (fun W => Calls.mono (rnum (ln : Int) W i3.1 i3.2) fun _ _ h => Ret.of h)
 have HL4 := Lib.hid l4; have HL5 := Lib.hid l5
 clear l1 l2 l3 l4 l5 i3 HV
 go_enter Tryz.func15, Tryz.ntmps15
 go_wp2_with (go_at_call 13; refine (HR.out _ HFA.out).mono ?_; rintro e w1 ⟨rfl, hf1⟩
              obtain ⟨x0, x1, x2, -, -, -, -, -, -, -, -⟩ := HBX.out w1 hf1
              have hlb := World.block_lt_of_cell? _ _ x0
              have HF1 := Lib.hid hf1; clear hf1)
 have hcp : Copy (w1.alloc (.cells #[.int .i64 kind, .int .i64 fr, .int .i64 tt] 3)) (.slice none 0 0) [] (w1.alloc (.cells #[.int .i64 kind, .int .i64 fr, .int .i64 tt] 3)) := Copy.nil _
 have hls := heap_alloc_new w1 (.cells #[.int .i64 kind, .int .i64 fr, .int .i64 tt] 3)
 have hfo : Frm NoS w1 (w1.alloc (.cells #[.int .i64 kind, .int .i64 fr, .int .i64 tt] 3)) := Frm.alloc _ _ _
 have hbk : ∀ W, Frm NoS (w1.alloc (.cells #[.int .i64 kind, .int .i64 fr, .int .i64 tt] 3)) W → Frm NoS w W := fun W f => ((HFA.out.then1 HF1.out).then1 hfo).then1 f
 have HOL := Lib.hid hbk
 have HBK := Lib.hid (fun W (f : Frm NoS (w1.alloc (.cells #[.int .i64 kind, .int .i64 fr, .int .i64 tt] 3)) W) => HBX.out W ((HF1.out.then1 hfo).then1 f))
 have HLS := Lib.hid (fun W (f : Frm NoS (w1.alloc (.cells #[.int .i64 kind, .int .i64 fr, .int .i64 tt] 3)) W) => f.blk hls id)
 have HCP := Lib.hid hcp
 clear hcp hls hfo hbk x0 x1 x2 hlb
 generalize w1.alloc (.cells #[.int .i64 kind, .int .i64 fr, .int .i64 tt] 3) = W1 at *
 go_loopw [4, 22] (fun o i W => ∃ (k : Nat) (a : Option Addr) (cc : Nat) (t : List UInt8), k ≤ 3 ∧ i = .int .i64 k ∧ o = .slice a t.length cc ∧ t = (([kind, fr, tt] : List Int).take k).flatMap numB ∧ Copy W1 (.slice a t.length cc) t W) (fun _ i _ => 3 - (intOf i).toNat)
 case atStart => exact ⟨0, none, 0, [], by omega, rfl, rfl, rfl, HCP.out⟩
 case round =>
  clear HCP
  obtain ⟨k, aO, cO, t, hk, rfl, rfl, ht, hc⟩ := hrel
  have HT := Lib.hid ht; clear ht
  have HC := Lib.hid hc; clear hc
  have htl : t.length ≤ 30 := by
   have := nums_le HIN.out k
   rw [HT.out]
   omega
  have HTL2 := Lib.hid htl; clear htl
  have hl3 := HLS.out _ HC.out.frm
  by_cases hlt : k < 3
  · obtain ⟨x, hx, hxi, hsn⟩ : ∃ x : Int, wr.cell? ⟨w1.heap.size, k, none⟩ = some (.int .i64 x) ∧ inR x ∧ (([kind, fr, tt] : List Int).take (k + 1)).flatMap numB = (([kind, fr, tt] : List Int).take k).flatMap numB ++ numB x := by
     refine ⟨([kind, fr, tt] : List Int).getD k 0, ?_, HIN.out _ (getD_mem 0 (by simpa using hlt)), nums_snoc (by simpa using hlt)⟩
     match k, hlt with
     | 0, _ => exact cell_at' hl3 0 rfl
     | 1, _ => exact cell_at' hl3 1 rfl
     | 2, _ => exact cell_at' hl3 2 rfl
    have HSN := Lib.hid hsn; clear hsn
    have hxl := numB_le10 hxi.1 hxi.2
    have HXL2 := Lib.hid hxl; clear hxl
    have HN := Lib.hid (fun W => Calls.mono (rnum x W hxi.1 hxi.2) fun _ _ h => Ret.of h)
    have hl1 := lt_of_block hl3
    clear hxi hl3
    go_wp2_with (first
     | (go_at_call 46; refine (HN.out _).mono ?_; rintro e w2 ⟨s1, s2, t2, ht2, rfl, cp2⟩; have HT2 := Lib.hid ht2; have HP2 := Lib.hid (HC.out.step cp2.frm); have HC2 := Lib.hid cp2; clear cp2 ht2)
     | (at_builtin; refine app_cp W1 w2 rfl (.tmp 25) (.tmp 30) rfl _ t HP2.out _ t2 rfl rfl HC2.out.rd ?c1 ?_))
    case c1 => have := HTL2.out; have := HXL2.out; rw [HT2.out]; omega
    intro ad4 c4 w4 t4 HT4 e4 _ _
    have E4 := Lib.hid e4; clear e4
    go_wp2
    go_roundw
    case rel => exact ⟨k + 1, ad4, c4, t4, by omega, by go_num, rfl, by rw [HT4.out, HT2.out, HSN.out, ← HT.out], E4.out⟩
    case measure => simp [intOf]; omega
  · obtain rfl : k = 3 := by omega
    have HT3 := Lib.hid (show t = ([kind, fr, tt] : List Int).flatMap numB from HT.out)
    clear HT hl3 hlt hk
    obtain ⟨-, -, -, x3, x4, x5, x6, -, -, -, -⟩ := HBK.out _ HC.out.frm
    have hlb := World.block_lt_of_cell? _ _ x3
    go_wp2_with (first
     | (go_at_call 47; refine (HVC.out _).mono ?_; rintro e w2 ⟨s1, s2, t2, ht2, rfl, cp2⟩; have HT2 := Lib.hid ht2; have HP2 := Lib.hid (HC.out.step cp2.frm); have HC2 := Lib.hid cp2; clear cp2 ht2)
     | (at_builtin; refine app_cp W1 w2 rfl (.tmp 33) (.tmp 36) rfl _ t HP2.out _ t2 rfl rfl HC2.out.rd ?c2 ?_))
    case c2 => have := HTL2.out; have := HL4.out; rw [HT2.out]; omega
    intro ad4 c4 w4 t4 HT4 e4 _ _
    have E4 := Lib.hid e4; clear e4 x3 x4 x5 x6 hlb
    have HQ4 := Lib.hid (show t4.length ≤ 70 by have := HTL2.out; have := HL4.out; rw [HT4.out, List.length_append, HT2.out]; omega)
    obtain ⟨-, -, -, -, -, -, -, x7, -, -, -⟩ := HBK.out _ E4.out.frm
    have hlb := World.block_lt_of_cell? _ _ x7
    go_wp2_with (first
     | (go_at_call 46; refine (HNL.out _).mono ?_; rintro e w5 ⟨s3, s4, t5, ht5, rfl, cp5⟩; have HT5 := Lib.hid ht5; have HP5 := Lib.hid (E4.out.step cp5.frm); have HC5 := Lib.hid cp5; clear cp5 ht5)
     | (at_builtin; refine app_cp W1 w5 rfl (.tmp 38) (.tmp 42) rfl _ t4 HP5.out _ t5 rfl rfl HC5.out.rd ?c3 ?_))
    case c3 => have := HQ4.out; have := HL5.out; rw [HT5.out]; omega
    intro ad6 c6 w6 t6 HT6 e6 _ _
    have E6 := Lib.hid e6; clear e6 x7 hlb
    obtain ⟨hd, hhd⟩ : ∃ hd, hd = ([kind, fr, tt] : List Int).flatMap numB ++ encV v0 v1 v2 v3 ++ numB (ln : Int) := ⟨_, rfl⟩
    have H6 := Lib.hid (show t6 = hd by rw [HT6.out, HT5.out, HT4.out, HT2.out, HT3.out, hhd])
    have HDL := Lib.hid (show hd.length ≤ 80 by rw [← H6.out, HT6.out, List.length_append, HT5.out]; have := HQ4.out; have := HL5.out; omega)
    rw [← hhd] at HENC
    have HHD := Lib.hid hhd; clear hhd
    obtain ⟨-, -, -, -, -, -, -, x7, -, -, -⟩ := HBK.out _ E6.out.frm
    have hlb := World.block_lt_of_cell? _ _ x7
    clear HC HP2 HC2 E4 HP5 HC5 HT2 HT4 HT5 HT6 HT3 HTL2 HQ4
    go_wp2
    clear x7 hlb
    go_loopw [4, 47] (fun o i W => ∃ (k : Nat) (a : Option Addr) (cc : Nat) (t : List UInt8), k ≤ ln ∧ i = .int .i64 k ∧ o = .slice a t.length cc ∧ t = hd ++ (bs.take k).flatMap BunD.enc ∧ Copy W1 (.slice a t.length cc) t W) (fun _ i _ => ln - (intOf i).toNat)
    case atStart => exact ⟨0, ad6, c6, t6, Nat.zero_le _, rfl, rfl, by rw [H6.out]; simp, E6.out⟩
    case round =>
     clear E6 H6
     obtain ⟨k, aO, cO, t, hk, rfl, rfl, ht, hc⟩ := hrel
     have HT := Lib.hid ht; clear ht
     have HC := Lib.hid hc; clear hc
     have HTL2 := Lib.hid (show t.length ≤ 60080 by have h1 := HFL.out k; have h2 := HBL.out; have h3 := HDL.out; rw [HT.out, List.length_append]; omega)
     by_cases hlt : k < ln
     · have hlk : k < ps.length := by rw [HLEN.out]; exact hlt
       have hrd := HRD.out.keep0 (HOL.out _ HC.out.frm)
       rcases Rd.shape hrd with ⟨ad, he, h0⟩ | ⟨b, off, cc, he, hmax⟩
       · exfalso; omega
       · injection he with e1 e2 e3
         subst e1 e3
         clear e2
         obtain ⟨q0, q1, q2, q3, q4, q5, q6, q7, q8, q9⟩ := bun_at hrd k hlk
         clear hrd
         have hm := getD_mem BunP.zero hlk
         have hpk := HPT.out _ hm
         have hokb := HOB.out _ hm
         have hri := HRB.out k hlt
         have hsh := HSH.out _ hm
         have hfx := HFX.out k hlt
         clear hm
         obtain ⟨p, hgd⟩ : ∃ p, p = ps.getD k BunP.zero := ⟨_, rfl⟩
         rw [← hgd] at q0 q1 q2 q3 q4 q5 q6 q7 q8 q9 hpk hokb hri hsh hfx
         clear hgd
         obtain ⟨⟨dc, af, la, u0, u1, u2, u3, es', ks', c'⟩, ev', kv', cv'⟩ := p
         dsimp only at q0 q1 q2 q3 q4 q5 q6 q7 q8 q9 hpk hokb hri hsh hfx
         obtain ⟨a3, c3, a4, c4', a5, c5, rfl, rfl, rfl⟩ := hsh
         have HFXK := Lib.hid hfx
         have HEL := Lib.hid (show (BunD.enc ⟨dc, af, la, u0, u1, u2, u3, es', ks', c'⟩).length ≤ 60000 by
          have h1 := HFL.out (k + 1)
          have h2 := HBL.out
          rw [hfx, List.length_append] at h1
          omega)
         clear hfx
         have hby := fun W (f : Frm NoS w W) => r22Bytes_yes ⟨dc, af, la, u0, u1, u2, u3, es', ks', c'⟩ hri hokb W _ _ _ (hpk W f)
         dsimp only at hby
         have HBY := Lib.hid hby; clear hby hpk hokb hri
         obtain ⟨-, -, -, -, -, -, -, x7, -, -, -⟩ := HBK.out _ HC.out.frm
         have hlb := World.block_lt_of_cell? _ _ x7
         generalize es'.length = n' at *
         generalize ks'.len = m' at *
         generalize c'.length = k' at *
         go_wp2_with (first
          | (go_at_call 48; refine (HBY.out _ (HOL.out _ HC.out.frm)).mono ?_; rintro e w7 ⟨s1, s2, t7, ht7, rfl, cp7⟩; have HT7 := Lib.hid ht7; have HP7 := Lib.hid (HC.out.step cp7.frm); have HC7 := Lib.hid cp7; clear cp7 ht7)
          | (at_builtin; refine app_cp W1 w7 rfl (.tmp 50) (.tmp 56) rfl _ t HP7.out _ t7 rfl rfl HC7.out.rd ?c4 ?_))
         case c4 => have := HTL2.out; have := HEL.out; rw [HT7.out]; omega
         intro ad8 c8 w8 t8 HT8 e8 _ _
         have E8 := Lib.hid e8; clear e8
         go_wp2
         go_roundw
         case rel => exact ⟨k + 1, ad8, c8, t8, by omega, by go_num, rfl, by rw [HT8.out, HT7.out, HFXK.out, HT.out, List.append_assoc], E8.out⟩
         case measure => simp [intOf]; omega
     · obtain rfl : ln = k := by omega
       rw [HFE.out] at HT
       obtain ⟨x0, -, -, -, -, -, -, -, x8, x9, x10⟩ := HBK.out _ HC.out.frm
       have hlb := World.block_lt_of_cell? _ _ x0
       clear hlt hk
       by_cases hk2 : kind = 2
       rotate_left 1
       · have c2' : ((kind : Int) == 2) = false := beq_false_of_ne hk2
         have HFIN := Lib.hid (show MsgD.enc ⟨kind, fr, tt, v0, v1, v2, v3, bs, es, ks, c⟩ = t by rw [HENC.out, if_neg hk2, List.append_nil, HT.out])
         clear hk2 x8 x9 x10
         go_wp2_with (go_at_call 50; refine (r4Frame_t _ _ _ HC.out.rd (by have := HL.out; rw [HFIN.out] at this; exact this)).mono ?_; rintro e w10 ⟨a10, c10, t10, ht10, rfl, cp10⟩; have HT10 := Lib.hid ht10; clear ht10; have HC10 := Lib.hid cp10; clear cp10)
         go_ret2
         exact ⟨a10, c10, t10, by rw [HT10.out, HFIN.out], rfl, HC10.out.weaken (HOL.out _ HC.out.frm)⟩
       subst hk2
       have HRX := Lib.hid (fun W (f : Frm NoS w W) => HX.out rfl ▸ r16Causal_any (fun _ => True) es ks c W _ _ _ (HXC.out W f) HOKC.out)
       rw [HX.out rfl] at HXL
       go_wp2_with (first
        | (go_at_call 49; refine (HRX.out _ (HOL.out _ HC.out.frm)).mono ?_; rintro e w7 ⟨s1, s2, t7, ht7, rfl, cp7⟩; have HT7 := Lib.hid ht7; have HP7 := Lib.hid (HC.out.step cp7.frm); have HC7 := Lib.hid cp7; clear cp7 ht7)
        | (at_builtin; refine app_cp W1 w7 rfl (.tmp 62) (.tmp 65) rfl _ t HP7.out _ t7 rfl rfl HC7.out.rd ?c5 ?_))
       case c5 => have := HTL2.out; have := HXL.out; rw [HT7.out]; omega
       intro ad8 c8 w8 t8 HT8 e8 _ _
       have E8 := Lib.hid e8; clear e8
       have HFIN := Lib.hid (show MsgD.enc ⟨2, fr, tt, v0, v1, v2, v3, bs, es, ks, c⟩ = t8 by rw [HENC.out, HT8.out, HT7.out, HT.out]; first | rw [if_pos rfl] | rw [if_pos trivial])
       go_wp2_with (go_at_call 50; refine (r4Frame_t _ _ _ E8.out.rd (by have := HL.out; rw [HFIN.out] at this; exact this)).mono ?_; rintro e w10 ⟨a10, c10, t10, ht10, rfl, cp10⟩; have HT10 := Lib.hid ht10; clear ht10; have HC10 := Lib.hid cp10; clear cp10)
       go_ret2
       exact ⟨a10, c10, t10, by rw [HT10.out, HFIN.out], rfl, HC10.out.weaken (HOL.out _ E8.out.frm)⟩
end Go.Proofs.YtcahemkomfaabaaGreat
