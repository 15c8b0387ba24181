/- Words for the law MsgSet: R8e, R8c, R9, BunR. -/
import Derived.Test.YtcahemkomfaabaaGreatMsgSetG7
import Derived.Test.YtcahemkomfaabaaGreatMsgSetG9
import Derived.Test.YtcahemkomfaabaaGreatMsgSetG18
import Derived.Test.YtcahemkomfaabaaGreatMsgSetG24
set_option linter.unusedSimpArgs false
set_option linter.unusedVariables false
set_option maxHeartbeats 32000000
set_option maxRecDepth 1000000
namespace Go.Proofs.YtcahemkomfaabaaGreat
open Go.RowKit
theorem r8Leaves_any (Q : Nat → Prop) (es : List Ent) (ks : KidsL) (w : World) (ev kv : Value) (ht : TreeAt Q w ev kv es ks) (hsz : sizeT es ks ≤ 100000) :
 Calls Tryz.prog 123 #[.agg #[ev, kv]] w (BelowPost w es ks) := by
 obtain ⟨ae, ce, rfl⟩ := ht.ents.rd.sl
 obtain ⟨os, hkr, hfor⟩ := ht.kids
 obtain ⟨ak, ck, rfl⟩ := hkr.rd.sl
 have HC := Lib.hid (fun W (f : Frm NoS w W) => r8below_any Q _ es ks W _ _ (.slice none 0 0) [] (Nat.lt_succ_self _) (ht.keep0 f) hsz (.inl ⟨none, rfl, rfl, rfl⟩) (by unfold sizeT at hsz; simp; omega))
 clear hkr hfor ht hsz
 go_enter Tryz.func123, Tryz.ntmps123
 go_wp2_with (go_at_call 155; refine (HC.out _ (Frm.alloc _ _ _)).mono ?_; rintro e w3 ⟨v3, l, rfl, ho3, hd3, hone3⟩; obtain ⟨a3, c3, rfl⟩ := ho3.shape; have HO3 := Lib.hid (ho3.base (Frm.alloc NoS w _)); clear ho3; have HD3 := Lib.hid hd3; clear hd3; have HON := Lib.hid hone3; clear hone3)
 go_ret
 exact ⟨_, l, rfl, HO3.out, HD3.out, HON.out⟩
theorem r8Dots_any (Q : Nat → Prop) (es : List Ent) (ks : KidsL) (w : World) (ev kv : Value) (ht : TreeAt Q w ev kv es ks) (hsz : sizeT es ks ≤ 2000) (hd : DotsOk (dotsT es ks)) :
 Calls Tryz.prog 76 #[.agg #[ev, kv]] w fun e w' => ∃ v' c, e = .returned v' ∧ OwnAt w w' 122 3 v' c.length (spC c) ∧ OfC (dotsT es ks) c ∧ c.length ≤ 8000 := by
 obtain ⟨i0, hi, hz0, hz1, hz2⟩ := info_parts info_dot
 obtain ⟨ae, ce, rfl⟩ := ht.ents.rd.sl
 obtain ⟨os, hkr, hfor⟩ := ht.kids
 obtain ⟨ak, ck, rfl⟩ := hkr.rd.sl
 have HC := Lib.hid (fun W (f : Frm NoS w W) => r8Leaves_any Q es ks W _ _ (ht.keep0 f) (by omega))
 have hdl := dotsT_length_le es ks
 have HDL := Lib.hid (show (dotsT es ks).length ≤ 2000 by omega)
 have HDK := Lib.hid hd; clear hd
 have HFA := Lib.hid (Frm.alloc NoS w (.cells #[.slice ae es.length ce, .slice ak ks.len ck] 28))
 clear hkr hfor ht hsz hdl
 go_enter Tryz.func76, Tryz.ntmps76
 go_wp2_with (go_at_call 123; refine (HC.out _ HFA.out).mono ?_; rintro e w3 ⟨v3, l, rfl, ho3, hd3, -⟩; obtain ⟨a3, c3, rfl⟩ := ho3.shape; have HO3 := Lib.hid (ho3.base HFA.out); clear ho3; have HD3 := Lib.hid hd3; clear hd3)
 have hl := HDL.out
 rw [← HD3.out, dotsL_length] at hl
 generalize hn : l.length = n at *
 have HN := Lib.hid hn; clear hn
 go_loopw [3, 10] (fun v i ww => ∃ k : Nat, k ≤ n ∧ i = .int .i64 k ∧ OwnAt w3 ww 168 2 v k (ruC (dotsL (l.take k)))) (fun _ i _ => n - (intOf i).toNat)
 case atStart => exact ⟨0, Nat.zero_le _, rfl, OwnAt.nil (Frm.refl _ _) _ _⟩
 case round =>
  obtain ⟨k, hk, rfl, ho⟩ := hrel
  obtain ⟨av, cv, rfl⟩ := ho.shape
  have HO := Lib.hid ho; clear ho
  by_cases hlt : k < n
  · rcases Rd.shape HO3.out.rd with ⟨ad, he, h0⟩ | ⟨b, off, cc, he, hmax⟩
    · exfalso; omega
    · injection he with e1 e2 e3
      subst e1 e3
      clear e2
      have hlk : k < l.length := by rw [HN.out]; exact hlt
      obtain ⟨p0, p1⟩ := lf_at HO3.out.rd k hlk
      have q0 := HO.out.frm.cell' p0 id
      have q1 := HO.out.frm.cell' p1 id
      clear p0 p1
      have hE := dotsL_take_succ hlk
      generalize l.getD k (.bool true, Ent.zero) = x at *
      have HEE := Lib.hid hE; clear hE
      go_wp2_with (at_builtin; refine wpList_appO _ _ [.int .i64 x.2.dc, .int .i64 x.2.n] rfl (.tmp 13) (.tmp 20) 176 rfl 168 i0 _ 2 16 Tryz.underlying176 hi hz0 hz1 hz2 (by decide) (by decide) _ _ _ HO.out 1 1 rfl (by simp [Act.eval]) rfl (by simp [Value.oneCell']) (by simp only [maxLen]; omega) (by omega) ?_; intro ad2 cc2 w2 own2; have OW := Lib.hid own2; clear own2)
      go_roundw
      case rel => exact ⟨k + 1, by omega, by go_num, by rw [HEE.out, ruC_append]; exact OW.out⟩
      case measure => simp [intOf]; omega
  · obtain rfl : n = k := by omega
    rw [List.take_of_length_le (by rw [HN.out]; exact Nat.le_refl _), HD3.out] at HO
    have hnn : n = (dotsT es ks).length := by rw [← HD3.out, dotsL_length]; exact HN.out.symm
    have hrun : RunAt wr (.slice av n cv) (dotsT es ks) := by show Rd wr _ (dotsT es ks).length _; rw [← hnn]; exact HO.out.rd
    have HRUN := Lib.hid hrun; clear hrun hnn
    go_wp2_with (go_at_call 124; refine (r7Of_any _ _ (dotsT es ks) HRUN.out HDK.out (by have := HDL.out; omega)).mono ?_; rintro e w5 ⟨v5, c5, rfl, ho5, hof, -⟩; obtain ⟨a5, cc5, rfl⟩ := ho5.shape; have HO5 := Lib.hid ho5; clear ho5; have HOF := Lib.hid hof; clear hof)
    go_ret
    exact ⟨_, c5, rfl, (HO5.out.base HO.out.frm).base HO3.out.frm, HOF.out, by have := HOF.out.length; have := HDL.out; omega⟩
theorem r8room_any (Q : Nat → Prop) : ∀ (N : Nat) (es : List Ent) (ks : KidsL) (left : Int) (d : Nat) (w : World) (ev kv : Value), sizeK ks < N → TreeAt Q w ev kv es ks → TrOk es ks → left ≤ 1000 → 0 ≤ left → d ≤ 100 →
 Calls Tryz.prog 130 #[.agg #[ev, kv], .int .i64 left, .int .i64 d] w fun e w' => e = .returned (.int .i64 (roomT es ks left d)) ∧ Frm NoS w w' := by
 intro N
 induction N with
 | zero => intros; exfalso; omega
 | succ N IHN =>
  intro es ks left d w ev kv hN ht hok hl1 hl2 hd
  obtain ⟨ae, ce, rfl⟩ := ht.ents.rd.sl
  obtain ⟨os, hkr, hfor⟩ := ht.kids
  obtain ⟨ak, ck, rfl⟩ := hkr.rd.sl
  have HKR := Lib.hid hkr.rd; clear hkr ht
  have HFOR := Lib.hid hfor; clear hfor
  have IH := Lib.hid IHN; clear IHN
  have HWB := Lib.hid (Frm.alloc NoS w (.cells #[.slice ae es.length ce, .slice ak ks.len ck] 28))
  have box1 : (w.alloc (.cells #[.slice ae es.length ce, .slice ak ks.len ck] 28)).cell? ⟨w.heap.size, 1, none⟩ = some (.slice ak ks.len ck) := cell_at' (heap_alloc_new w _) 1 rfl
  have B1 := Lib.hid box1; clear box1
  have hel := hok.es.len
  have hkl0 := hok.len
  have HOK := Lib.hid hok.ks; clear hok
  have HSZ := Lib.hid hN; clear hN
  have hrt : roomT es ks left d = roomK ks (left - es.length - ks.len) d := rfl
  rw [hrt]
  clear hrt
  generalize es.length = n at *
  generalize hkl : ks.len = m at *
  have HM := Lib.hid hkl; clear hkl
  obtain ⟨l0, hl0⟩ : ∃ l0 : Int, l0 = left - n - m := ⟨_, rfl⟩
  have hb0 : l0 ≤ 1000 ∧ -300000000000000 ≤ l0 := by omega
  rw [← hl0]
  go_enter Tryz.func130, Tryz.ntmps130
  go_wp2
  go_loopw [1, 20] (fun lv i ww => ∃ (k : Nat) (x : Int), k ≤ m ∧ i = .int .i64 k ∧ lv = .int .i64 x ∧ x ≤ 1000 ∧ -300000000000000 ≤ x ∧ roomK ks l0 d = roomK (ks.drop k) x d ∧ Frm NoS (w.alloc (.cells #[.slice ae n ce, .slice ak m ck] 28)) ww) (fun _ i _ => m - (intOf i).toNat)
  case atStart => exact ⟨0, l0, Nat.zero_le _, rfl, by rw [hl0], hb0.1, hb0.2, rfl, Frm.refl _ _⟩
  case round =>
   clear hl0
   obtain ⟨k, x, hk, rfl, rfl, hx1, hx2, hr, hw⟩ := hrel
   have HW := Lib.hid hw; clear hw
   have b1 := HW.out.cell' B1.out id
   by_cases hlt : k < m
   · obtain ⟨key, es', sub, rest, hdr⟩ := KidsL.drop_some (n := k) (ks := ks) (by rw [HM.out]; exact hlt)
     rw [roomK_drop hdr] at hr
     by_cases hx0 : x < 0
     · rw [if_pos (.inl hx0)] at hr
       have HR := Lib.hid hr; clear hr
       clear hdr
       go_wp2
       go_ret
       exact ⟨ret_int HR.out.symm, HWB.out.then1 HW.out⟩
     · by_cases hd0 : d = 0
       · subst hd0
         rw [if_pos (.inr rfl)] at hr
         have HR := Lib.hid hr; clear hr
         clear hdr
         go_wp2
         go_ret
         exact ⟨ret_int HR.out.symm, HWB.out.then1 HW.out⟩
       · rw [if_neg (by omega)] at hr
         rcases Rd.shape (HKR.out.keep0 (HWB.out.then1 HW.out)) with ⟨ad, he, h0⟩ | ⟨b, off, cc, he, hmax⟩
         · exfalso; have := HM.out; omega
         · injection he with e1 e2 e3
           subst e1 e3
           clear e2
           obtain ⟨ev', kv', c0, c1, c2, hta⟩ := kid_at (HKR.out.keep0 (HWB.out.then1 HW.out)) (HFOR.out.keep0 (HWB.out.then1 HW.out)) hdr
           obtain ⟨ae', ce', rfl⟩ := hta.ents.rd.sl
           obtain ⟨os', hkr', hfor'⟩ := hta.kids
           obtain ⟨ak', ck', rfl⟩ := hkr'.rd.sl
           clear hkr' hfor'
           have hok' := HOK.out.drop k
           rw [hdr] at hok'
           have hsub : TrOk es' sub := ⟨hok'.2.1, hok'.2.2.1, hok'.2.2.2.1⟩
           have hbd := roomK_bd (ks := sub) (left := x - es'.length - sub.len) (d := d - 1) hsub.ks (by omega) (by have := hsub.es.len; have := hsub.len; omega)
           obtain ⟨y, hy⟩ : ∃ y, y = roomT es' sub x (d - 1) := ⟨_, rfl⟩
           have HBD := Lib.hid (show y ≤ 1000 ∧ -300000000000000 ≤ y by rw [hy]; exact hbd); clear hbd
           have hih := IH.out es' sub x (d - 1) wr _ _ (by have := size_sub k hdr; have := HSZ.out; omega) hta hsub hx1 (by omega) (by omega)
           rw [show ((d - 1 : Nat) : Int) = (d : Int) - 1 by omega] at hih
           rw [← hy] at hih hr
           have HIH := Lib.hid hih; clear hih hta hok' hsub hdr hy
           have HR := Lib.hid hr; clear hr
           generalize es'.length = n' at *
           generalize sub.len = m' at *
           have hd1 : (d : Int) ≤ 100 := by omega
           have hd2 : (1 : Int) ≤ d := by omega
           have hdz : ((d : Int) == 0) = false := by simp; omega
           go_wp2_with (go_at_call 130; refine HIH.out.mono ?_; rintro e w3 ⟨rfl, hw3⟩; have HW3 := Lib.hid hw3; clear hw3)
           go_roundw
           case rel => exact ⟨k + 1, y, by omega, by go_num, rfl, HBD.out.1, HBD.out.2, HR.out, HW.out.then1 HW3.out⟩
           case measure => simp [intOf]; omega
   · obtain rfl : m = k := by omega
     rw [KidsL.drop_none (by rw [HM.out]; exact Nat.le_refl _)] at hr
     have HR := Lib.hid hr; clear hr
     go_wp2
     go_ret
     exact ⟨ret_int HR.out.symm, HWB.out.then1 HW.out⟩
theorem r8Small_any (Q : Nat → Prop) (es : List Ent) (ks : KidsL) (left : Int) (w : World) (ev kv : Value) (ht : TreeAt Q w ev kv es ks) (hok : TrOk es ks) (h1 : left ≤ 1000) (h2 : 0 ≤ left) :
 Calls Tryz.prog 83 #[.agg #[ev, kv], .int .i64 left] w fun e w' => e = .returned (.bool (decide (0 ≤ roomT es ks left 8))) ∧ Frm NoS w w' := by
 obtain ⟨ae, ce, rfl⟩ := ht.ents.rd.sl
 obtain ⟨os, hkr, hfor⟩ := ht.kids
 obtain ⟨ak, ck, rfl⟩ := hkr.rd.sl
 have hc : ∀ W, Frm NoS w W → Calls Tryz.prog 130 #[.agg #[.slice ae es.length ce, .slice ak ks.len ck], .int .i64 left, .int .i64 8] W fun e w' => e = .returned (.int .i64 (roomT es ks left 8)) ∧ Frm NoS W w' := fun W f => r8room_any Q _ es ks left 8 W _ _ (Nat.lt_succ_self _) (ht.keep0 f) hok h1 h2 (by omega)
 have HC := Lib.hid hc
 clear hkr hfor ht hok hc
 generalize roomT es ks left 8 = y at *
 generalize es.length = n at *
 generalize ks.len = m at *
 go_enter Tryz.func83, Tryz.ntmps83
 go_wp2_with (go_at_call 130; refine (HC.out _ (Frm.alloc _ _ _)).mono ?_; rintro e w3 ⟨rfl, hw3⟩; have HW3 := Lib.hid ((Frm.alloc NoS _ _).then1 hw3); clear hw3)
 go_ret
 exact ⟨rfl, HW3.out⟩
theorem r8Right_any (Q : Nat → Prop) (es : List Ent) (ks : KidsL) (w : World) (ev kv : Value) (ht : TreeAt Q w ev kv es ks) (hok : TrOk es ks) :
 Calls Tryz.prog 119 #[.agg #[ev, kv]] w fun e w' => e = .returned (.bool (rightT 5 es ks)) ∧ Frm NoS w w' := by
 obtain ⟨ae, ce, rfl⟩ := ht.ents.rd.sl
 obtain ⟨os, hkr, hfor⟩ := ht.kids
 obtain ⟨ak, ck, rfl⟩ := hkr.rd.sl
 have hc : ∀ W, Frm NoS w W → Calls Tryz.prog 150 #[.agg #[.slice ae es.length ce, .slice ak ks.len ck], .int .i64 5] W fun e w' => e = .returned (.bool (rightT 5 es ks)) ∧ Frm NoS W w' := fun W f => r8right_any Q _ es ks 5 W _ _ (Nat.lt_succ_self _) (ht.keep0 f) hok (by omega)
 have HC := Lib.hid hc
 clear hkr hfor ht hok hc
 generalize rightT 5 es ks = y at *
 generalize es.length = n at *
 generalize ks.len = m at *
 go_enter Tryz.func119, Tryz.ntmps119
 go_wp2_with (go_at_call 150; refine (HC.out _ (Frm.alloc _ _ _)).mono ?_; rintro e w3 ⟨rfl, hw3⟩; have HW3 := Lib.hid ((Frm.alloc NoS _ _).then1 hw3); clear hw3)
 go_ret
 exact ⟨rfl, HW3.out⟩
theorem r9Small_any (Q : Nat → Prop) (es : List Ent) (ks : KidsL) (c : CtxL) (left : Int) (w : World) (ev kv cv : Value) (h : CauAt Q w ev kv cv es ks c) (hok : TrOk es ks) (hcl : c.length ≤ 140737488351232) (h1 : left ≤ 1000) (h2 : 0 ≤ left) :
 Calls Tryz.prog 29 #[.agg #[ev, kv, cv], .int .i64 left] w fun e w' => e = .returned (.bool (decide (0 ≤ roomT es ks left 8) && decide ((c.length : Int) ≤ left))) ∧ Frm NoS w w' := by
 obtain ⟨a0, c0, a1, c1, a2, c2, rfl, rfl, rfl⟩ := h.shape
 have HC := Lib.hid (fun W (f : Frm NoS w W) => r8Small_any Q es ks left W _ _ (h.tree.keep0 f) hok h1 h2)
 clear h hok
 generalize c.length = k at *
 cases hb : decide (0 ≤ roomT es ks left 8) with
 | false =>
  rw [hb] at HC
  clear hb
  have HBX := Lib.hid (box3 w (.slice a0 es.length c0) (.slice a1 ks.len c1) (.slice a2 k c2) 32)
  go_enter Tryz.func29, Tryz.ntmps29
  go_wp2_with (go_at_call 83; refine (HC.out _ (Frm.alloc _ _ _)).mono ?_; rintro e w1 ⟨rfl, hw1⟩; obtain ⟨y0, y1, y2⟩ := HBX.out w1 hw1; have HW1 := Lib.hid ((Frm.alloc NoS _ _).then1 hw1); clear hw1)
  go_ret
  exact ⟨rfl, HW1.out⟩
 | true =>
  rw [hb] at HC
  clear hb
  have HBX := Lib.hid (box3 w (.slice a0 es.length c0) (.slice a1 ks.len c1) (.slice a2 k c2) 32)
  go_enter Tryz.func29, Tryz.ntmps29
  go_wp2_with (go_at_call 83; refine (HC.out _ (Frm.alloc _ _ _)).mono ?_; rintro e w1 ⟨rfl, hw1⟩; obtain ⟨y0, y1, y2⟩ := HBX.out w1 hw1; have HW1 := Lib.hid ((Frm.alloc NoS _ _).then1 hw1); clear hw1)
  go_ret
  exact ⟨rfl, HW1.out⟩
theorem r9Right_any (Q : Nat → Prop) (es : List Ent) (ks : KidsL) (c : CtxL) (w : World) (ev kv cv : Value) (h : CauAt Q w ev kv cv es ks c) (hok : CauOk es ks c) :
 Calls Tryz.prog 72 #[.agg #[ev, kv, cv]] w fun e w' => e = .returned (.bool (tf (CauRight es ks c))) ∧ Frm NoS w w' := by
 obtain ⟨a0, c0, a1, c1, a2, c2, rfl, rfl, rfl⟩ := h.shape
 have HT := Lib.hid (fun W (f : Frm NoS w W) => r8Right_any Q es ks W _ _ (h.tree.keep0 f) hok.tree)
 have HX := Lib.hid (fun W (f : Frm NoS w W) => r7Right_any W _ c (Rd.keep0 h.ctx f) hok.fits (by have := hok.len; omega))
 have HD := Lib.hid (fun W (f : Frm NoS w W) hd => r8Dots_any Q es ks W _ _ (h.tree.keep0 f) hok.small hd)
 have HL := Lib.hid (fun W (f : Frm NoS w W) vd d (hv : CtxAt W vd d) (rd : RightC d) (ld : d.length ≤ 8000) (rc : RightC c) => r7Leq_any W vd _ d c hv (Rd.keep0 h.ctx f) rd rc (by omega) (by have := hok.len; omega))
 have HBX := Lib.hid (box3 w (.slice a0 es.length c0) (.slice a1 ks.len c1) (.slice a2 c.length c2) 32)
 clear h hok
 cases hr : rightT 5 es ks with
 | false =>
  rw [hr] at HT
  rw [tf_false fun h => by rw [h.tree] at hr; cases hr]
  clear hr HX HD HL
  generalize es.length = n at *
  generalize ks.len = m at *
  generalize c.length = k at *
  have hfa : Frm NoS w (w.alloc (.cells #[.slice a0 n c0, .slice a1 m c1, .slice a2 k c2] 32)) := Frm.alloc _ _ _
  go_enter Tryz.func72, Tryz.ntmps72
  go_wp2_with fail
  refine wp_region_G (S := fun w' => w'.cell? ⟨w.heap.size, 0, none⟩ = some (.slice a0 n c0) ∧ w'.cell? ⟨w.heap.size, 1, none⟩ = some (.slice a1 m c1) ∧ w'.cell? ⟨w.heap.size, 2, none⟩ = some (.slice a2 k c2)) 16 (by kernel_rfl) (HBX.out _ (Frm.drew _ _)) ?_
  intro hS
  have HFY := Lib.hid (hfa.drew1)
  generalize (w.alloc (.cells #[.slice a0 n c0, .slice a1 m c1, .slice a2 k c2] 32)).drew = Y at *
  clear hfa
  refine tkG 0 3 rfl rfl (v := ?_) (.inl ⟨by rfl, ?_⟩) ?_
  rotate_left 1
  · (intro w hSw; (try dsimp only at hSw); go_simp; (try with_reducible rfl))
  refine tkG 1 4 rfl rfl (v := ?_) (.inl ⟨by rfl, ?_⟩) ?_
  rotate_left 1
  · (intro w hSw; (try dsimp only at hSw); go_simp; (try with_reducible rfl))
  try simp only [Act.put, List.setIfInBounds_toArray, List.set_cons_zero, List.set_cons_succ]
  refine one_opG (i := 2) (by kernel_rfl) rfl (fun K hK => ?_)
  go_simp
  refine (HT.out _ HFY.out).mono ?_
  rintro e Y1 ⟨rfl, hf1⟩
  have hS := (⟨hf1.cell' hS.1 id, hf1.cell' hS.2.1 id, hf1.cell' hS.2.2 id⟩ : Y1.cell? ⟨w.heap.size, 0, none⟩ = some (.slice a0 n c0) ∧ Y1.cell? ⟨w.heap.size, 1, none⟩ = some (.slice a1 m c1) ∧ Y1.cell? ⟨w.heap.size, 2, none⟩ = some (.slice a2 k c2))
  refine hK.out _ _ hS ?_
  clear hK K
  have HF1 := Lib.hid hf1; clear hf1
  try simp only [Act.put, List.setIfInBounds_toArray, List.set_cons_zero, List.set_cons_succ]
  refine tkG 3 6 rfl rfl (v := ?_) (.inl ⟨by rfl, ?_⟩) ?_
  rotate_left 1
  · (intro w hSw; (try dsimp only at hSw); go_simp; (try with_reducible rfl))
  refine tkS 4 7 rfl rfl ?_
  try simp only [Act.put, List.setIfInBounds_toArray, List.set_cons_zero, List.set_cons_succ]
  refine tkS 5 8 rfl rfl ?_
  refine tkS 6 9 rfl rfl ?_
  try simp only [Act.put, List.setIfInBounds_toArray, List.set_cons_zero, List.set_cons_succ]
  refine tkG 7 10 rfl rfl (v := ?_) (.inl ⟨by rfl, ?_⟩) ?_
  rotate_left 1
  · (intro w hSw; (try dsimp only at hSw); go_simp; (try with_reducible rfl))
  refine tkG 8 11 rfl rfl (v := ?_) (.inl ⟨by rfl, ?_⟩) ?_
  rotate_left 1
  · (intro w hSw; (try dsimp only at hSw); go_simp; (try with_reducible rfl))
  try simp only [Act.put, List.setIfInBounds_toArray, List.set_cons_zero, List.set_cons_succ]
  refine tkS 9 12 rfl rfl ?_
  refine tkS 10 13 rfl rfl ?_
  try simp only [Act.put, List.setIfInBounds_toArray, List.set_cons_zero, List.set_cons_succ]
  refine tkS 11 14 rfl rfl ?_
  refine tkS 12 15 rfl rfl ?_
  try simp only [Act.put, List.setIfInBounds_toArray, List.set_cons_zero, List.set_cons_succ]
  refine tkS 13 16 rfl rfl ?_
  refine tkS 14 17 rfl rfl ?_
  try simp only [Act.put, List.setIfInBounds_toArray, List.set_cons_zero, List.set_cons_succ]
  refine tkG 15 18 rfl rfl (v := ?_) (.inl ⟨by rfl, ?_⟩) ?_
  rotate_left 1
  · (intro w hSw; (try dsimp only at hSw); go_simp; (try with_reducible rfl))
  try simp only [Act.put, List.setIfInBounds_toArray, List.set_cons_zero, List.set_cons_succ]
  refine last_opG (by kernel_rfl) (by kernel_rfl) rfl (fun K hK => ?_)
  go_simp
  refine hK.out _ _ ?_
  clear hK K hS
  go_wp2
  go_ret
  exact ⟨rfl, HFY.out.then1 HF1.out⟩
 | true =>
  rw [hr] at HT
  by_cases hc : RightC c
  · rw [tf_true hc] at HX
    have HOK := Lib.hid (rightT_dots hr)
    have hpost : ∀ d, OfC (dotsT es ks) d → tf (LeqC d c) = tf (CauRight es ks c) := fun d hd => tf_congr ⟨fun h => ⟨hr, hc, (hd.leq HOK.out).1 h⟩, fun h => (hd.leq HOK.out).2 h.dots⟩
    have HPOST := Lib.hid hpost; clear hpost
    have HRC := Lib.hid hc; clear hc hr
    generalize tf (CauRight es ks c) = y at *
    generalize es.length = n at *
    generalize ks.len = m at *
    generalize c.length = k at *
    have hfa : Frm NoS w (w.alloc (.cells #[.slice a0 n c0, .slice a1 m c1, .slice a2 k c2] 32)) := Frm.alloc _ _ _
    go_enter Tryz.func72, Tryz.ntmps72
    go_wp2_with fail
    refine wp_region_G (S := fun w' => w'.cell? ⟨w.heap.size, 0, none⟩ = some (.slice a0 n c0) ∧ w'.cell? ⟨w.heap.size, 1, none⟩ = some (.slice a1 m c1) ∧ w'.cell? ⟨w.heap.size, 2, none⟩ = some (.slice a2 k c2)) 16 (by kernel_rfl) (HBX.out _ (Frm.drew _ _)) ?_
    intro hS
    have HFY := Lib.hid (hfa.drew1)
    generalize (w.alloc (.cells #[.slice a0 n c0, .slice a1 m c1, .slice a2 k c2] 32)).drew = Y at *
    clear hfa
    refine tkG 0 3 rfl rfl (v := ?_) (.inl ⟨by rfl, ?_⟩) ?_
    rotate_left 1
    · (intro w hSw; (try dsimp only at hSw); go_simp; (try with_reducible rfl))
    refine tkG 1 4 rfl rfl (v := ?_) (.inl ⟨by rfl, ?_⟩) ?_
    rotate_left 1
    · (intro w hSw; (try dsimp only at hSw); go_simp; (try with_reducible rfl))
    try simp only [Act.put, List.setIfInBounds_toArray, List.set_cons_zero, List.set_cons_succ]
    refine one_opG (i := 2) (by kernel_rfl) rfl (fun K hK => ?_)
    go_simp
    refine (HT.out _ HFY.out).mono ?_
    rintro e Y1 ⟨rfl, hf1⟩
    have hS := (⟨hf1.cell' hS.1 id, hf1.cell' hS.2.1 id, hf1.cell' hS.2.2 id⟩ : Y1.cell? ⟨w.heap.size, 0, none⟩ = some (.slice a0 n c0) ∧ Y1.cell? ⟨w.heap.size, 1, none⟩ = some (.slice a1 m c1) ∧ Y1.cell? ⟨w.heap.size, 2, none⟩ = some (.slice a2 k c2))
    refine hK.out _ _ hS ?_
    clear hK K
    have HF1 := Lib.hid (HFY.out.then1 hf1); clear hf1
    try simp only [Act.put, List.setIfInBounds_toArray, List.set_cons_zero, List.set_cons_succ]
    refine tkG 3 6 rfl rfl (v := ?_) (.inl ⟨by rfl, ?_⟩) ?_
    rotate_left 1
    · (intro w hSw; (try dsimp only at hSw); go_simp; (try with_reducible rfl))
    refine tkG 4 7 rfl rfl (v := ?_) (.inl ⟨by rfl, ?_⟩) ?_
    rotate_left 1
    · (intro w hSw; (try dsimp only at hSw); go_simp; (try with_reducible rfl))
    try simp only [Act.put, List.setIfInBounds_toArray, List.set_cons_zero, List.set_cons_succ]
    refine tkG 5 8 rfl rfl (v := ?_) (.inl ⟨by rfl, ?_⟩) ?_
    rotate_left 1
    · (intro w hSw; (try dsimp only at hSw); go_simp; (try with_reducible rfl))
    try simp only [Act.put, List.setIfInBounds_toArray, List.set_cons_zero, List.set_cons_succ]
    refine one_opG (i := 6) (by kernel_rfl) rfl (fun K hK => ?_)
    go_simp
    refine (HX.out _ HF1.out).mono ?_
    rintro e Y2 ⟨rfl, hf2⟩
    have hS := (⟨hf2.cell' hS.1 id, hf2.cell' hS.2.1 id, hf2.cell' hS.2.2 id⟩ : Y2.cell? ⟨w.heap.size, 0, none⟩ = some (.slice a0 n c0) ∧ Y2.cell? ⟨w.heap.size, 1, none⟩ = some (.slice a1 m c1) ∧ Y2.cell? ⟨w.heap.size, 2, none⟩ = some (.slice a2 k c2))
    refine hK.out _ _ hS ?_
    clear hK K
    have HF2 := Lib.hid (HF1.out.then1 hf2); clear hf2
    try simp only [Act.put, List.setIfInBounds_toArray, List.set_cons_zero, List.set_cons_succ]
    refine tkG 7 10 rfl rfl (v := ?_) (.inl ⟨by rfl, ?_⟩) ?_
    rotate_left 1
    · (intro w hSw; (try dsimp only at hSw); go_simp; (try with_reducible rfl))
    refine tkG 8 11 rfl rfl (v := ?_) (.inl ⟨by rfl, ?_⟩) ?_
    rotate_left 1
    · (intro w hSw; (try dsimp only at hSw); go_simp; (try with_reducible rfl))
    try simp only [Act.put, List.setIfInBounds_toArray, List.set_cons_zero, List.set_cons_succ]
    refine tkG 9 12 rfl rfl (v := ?_) (.inl ⟨by rfl, ?_⟩) ?_
    rotate_left 1
    · (intro w hSw; (try dsimp only at hSw); go_simp; (try with_reducible rfl))
    refine tkG 10 13 rfl rfl (v := ?_) (.inl ⟨by rfl, ?_⟩) ?_
    rotate_left 1
    · (intro w hSw; (try dsimp only at hSw); go_simp; (try with_reducible rfl))
    try simp only [Act.put, List.setIfInBounds_toArray, List.set_cons_zero, List.set_cons_succ]
    refine tkG 12 15 rfl rfl (v := ?_) (.inl ⟨by rfl, ?_⟩) ?_
    rotate_left 1
    · (intro w hSw; (try dsimp only at hSw); go_simp; (try with_reducible rfl))
    refine tkG 13 16 rfl rfl (v := ?_) (.inl ⟨by rfl, ?_⟩) ?_
    rotate_left 1
    · (intro w hSw; (try dsimp only at hSw); go_simp; (try with_reducible rfl))
    try simp only [Act.put, List.setIfInBounds_toArray, List.set_cons_zero, List.set_cons_succ]
    refine one_opG (i := 11) (by kernel_rfl) rfl (fun K hK => ?_)
    go_simp
    refine (HD.out _ HF2.out HOK.out).mono ?_
    rintro e Y3 ⟨v3, d, rfl, ho3, hof, hl3⟩
    obtain ⟨a3, c3, rfl⟩ := ho3.shape
    have hf3 := ho3.frm
    have hS := (⟨hf3.cell' hS.1 id, hf3.cell' hS.2.1 id, hf3.cell' hS.2.2 id⟩ : Y3.cell? ⟨w.heap.size, 0, none⟩ = some (.slice a0 n c0) ∧ Y3.cell? ⟨w.heap.size, 1, none⟩ = some (.slice a1 m c1) ∧ Y3.cell? ⟨w.heap.size, 2, none⟩ = some (.slice a2 k c2))
    refine hK.out _ _ hS ?_
    clear hK K
    have HF3 := Lib.hid (HF2.out.then1 hf3); clear hf3
    have HO3 := Lib.hid ho3; clear ho3
    have HOF := Lib.hid hof; clear hof
    have HL3 := Lib.hid hl3; clear hl3
    try simp only [Act.put, List.setIfInBounds_toArray, List.set_cons_zero, List.set_cons_succ]
    refine one_opG (i := 14) (by kernel_rfl) rfl (fun K hK => ?_)
    go_simp
    refine (HL.out _ HF3.out _ d HO3.out.rd HOF.out.right HL3.out HRC.out).mono ?_
    rintro e Y4 ⟨rfl, hf4⟩
    rw [HPOST.out d HOF.out]
    have hS := (⟨hf4.cell' hS.1 id, hf4.cell' hS.2.1 id, hf4.cell' hS.2.2 id⟩ : Y4.cell? ⟨w.heap.size, 0, none⟩ = some (.slice a0 n c0) ∧ Y4.cell? ⟨w.heap.size, 1, none⟩ = some (.slice a1 m c1) ∧ Y4.cell? ⟨w.heap.size, 2, none⟩ = some (.slice a2 k c2))
    refine hK.out _ _ hS ?_
    clear hK K
    have HF4 := Lib.hid (HF3.out.then1 hf4); clear hf4
    try simp only [Act.put, List.setIfInBounds_toArray, List.set_cons_zero, List.set_cons_succ]
    refine tkG 15 18 rfl rfl (v := ?_) (.inl ⟨by rfl, ?_⟩) ?_
    rotate_left 1
    · (intro w hSw; (try dsimp only at hSw); go_simp; (try with_reducible rfl))
    try simp only [Act.put, List.setIfInBounds_toArray, List.set_cons_zero, List.set_cons_succ]
    refine last_opG (by kernel_rfl) (by kernel_rfl) rfl (fun K hK => ?_)
    go_simp
    refine hK.out _ _ ?_
    clear hK K hS
    go_wp2
    go_ret
    exact ⟨rfl, HF4.out⟩
  · rw [tf_false hc] at HX
    rw [tf_false fun h => hc h.ctx]
    clear hc hr HD HL
    generalize es.length = n at *
    generalize ks.len = m at *
    generalize c.length = k at *
    have hfa : Frm NoS w (w.alloc (.cells #[.slice a0 n c0, .slice a1 m c1, .slice a2 k c2] 32)) := Frm.alloc _ _ _
    go_enter Tryz.func72, Tryz.ntmps72
    go_wp2_with fail
    refine wp_region_G (S := fun w' => w'.cell? ⟨w.heap.size, 0, none⟩ = some (.slice a0 n c0) ∧ w'.cell? ⟨w.heap.size, 1, none⟩ = some (.slice a1 m c1) ∧ w'.cell? ⟨w.heap.size, 2, none⟩ = some (.slice a2 k c2)) 16 (by kernel_rfl) (HBX.out _ (Frm.drew _ _)) ?_
    intro hS
    have HFY := Lib.hid (hfa.drew1)
    generalize (w.alloc (.cells #[.slice a0 n c0, .slice a1 m c1, .slice a2 k c2] 32)).drew = Y at *
    clear hfa
    refine tkG 0 3 rfl rfl (v := ?_) (.inl ⟨by rfl, ?_⟩) ?_
    rotate_left 1
    · (intro w hSw; (try dsimp only at hSw); go_simp; (try with_reducible rfl))
    refine tkG 1 4 rfl rfl (v := ?_) (.inl ⟨by rfl, ?_⟩) ?_
    rotate_left 1
    · (intro w hSw; (try dsimp only at hSw); go_simp; (try with_reducible rfl))
    try simp only [Act.put, List.setIfInBounds_toArray, List.set_cons_zero, List.set_cons_succ]
    refine one_opG (i := 2) (by kernel_rfl) rfl (fun K hK => ?_)
    go_simp
    refine (HT.out _ HFY.out).mono ?_
    rintro e Y1 ⟨rfl, hf1⟩
    have hS := (⟨hf1.cell' hS.1 id, hf1.cell' hS.2.1 id, hf1.cell' hS.2.2 id⟩ : Y1.cell? ⟨w.heap.size, 0, none⟩ = some (.slice a0 n c0) ∧ Y1.cell? ⟨w.heap.size, 1, none⟩ = some (.slice a1 m c1) ∧ Y1.cell? ⟨w.heap.size, 2, none⟩ = some (.slice a2 k c2))
    refine hK.out _ _ hS ?_
    clear hK K
    have HF1 := Lib.hid (HFY.out.then1 hf1); clear hf1
    try simp only [Act.put, List.setIfInBounds_toArray, List.set_cons_zero, List.set_cons_succ]
    refine tkG 3 6 rfl rfl (v := ?_) (.inl ⟨by rfl, ?_⟩) ?_
    rotate_left 1
    · (intro w hSw; (try dsimp only at hSw); go_simp; (try with_reducible rfl))
    refine tkG 4 7 rfl rfl (v := ?_) (.inl ⟨by rfl, ?_⟩) ?_
    rotate_left 1
    · (intro w hSw; (try dsimp only at hSw); go_simp; (try with_reducible rfl))
    try simp only [Act.put, List.setIfInBounds_toArray, List.set_cons_zero, List.set_cons_succ]
    refine tkG 5 8 rfl rfl (v := ?_) (.inl ⟨by rfl, ?_⟩) ?_
    rotate_left 1
    · (intro w hSw; (try dsimp only at hSw); go_simp; (try with_reducible rfl))
    try simp only [Act.put, List.setIfInBounds_toArray, List.set_cons_zero, List.set_cons_succ]
    refine one_opG (i := 6) (by kernel_rfl) rfl (fun K hK => ?_)
    go_simp
    refine (HX.out _ HF1.out).mono ?_
    rintro e Y2 ⟨rfl, hf2⟩
    have hS := (⟨hf2.cell' hS.1 id, hf2.cell' hS.2.1 id, hf2.cell' hS.2.2 id⟩ : Y2.cell? ⟨w.heap.size, 0, none⟩ = some (.slice a0 n c0) ∧ Y2.cell? ⟨w.heap.size, 1, none⟩ = some (.slice a1 m c1) ∧ Y2.cell? ⟨w.heap.size, 2, none⟩ = some (.slice a2 k c2))
    refine hK.out _ _ hS ?_
    clear hK K
    have HF2 := Lib.hid (HF1.out.then1 hf2); clear hf2
    try simp only [Act.put, List.setIfInBounds_toArray, List.set_cons_zero, List.set_cons_succ]
    refine tkG 7 10 rfl rfl (v := ?_) (.inl ⟨by rfl, ?_⟩) ?_
    rotate_left 1
    · (intro w hSw; (try dsimp only at hSw); go_simp; (try with_reducible rfl))
    refine tkG 8 11 rfl rfl (v := ?_) (.inl ⟨by rfl, ?_⟩) ?_
    rotate_left 1
    · (intro w hSw; (try dsimp only at hSw); go_simp; (try with_reducible rfl))
    try simp only [Act.put, List.setIfInBounds_toArray, List.set_cons_zero, List.set_cons_succ]
    refine tkS 9 12 rfl rfl ?_
    refine tkS 10 13 rfl rfl ?_
    try simp only [Act.put, List.setIfInBounds_toArray, List.set_cons_zero, List.set_cons_succ]
    refine tkS 11 14 rfl rfl ?_
    refine tkS 12 15 rfl rfl ?_
    try simp only [Act.put, List.setIfInBounds_toArray, List.set_cons_zero, List.set_cons_succ]
    refine tkS 13 16 rfl rfl ?_
    refine tkS 14 17 rfl rfl ?_
    try simp only [Act.put, List.setIfInBounds_toArray, List.set_cons_zero, List.set_cons_succ]
    refine tkG 15 18 rfl rfl (v := ?_) (.inl ⟨by rfl, ?_⟩) ?_
    rotate_left 1
    · (intro w hSw; (try dsimp only at hSw); go_simp; (try with_reducible rfl))
    try simp only [Act.put, List.setIfInBounds_toArray, List.set_cons_zero, List.set_cons_succ]
    refine last_opG (by kernel_rfl) (by kernel_rfl) rfl (fun K hK => ?_)
    go_simp
    refine hK.out _ _ ?_
    clear hK K hS
    go_wp2
    go_ret
    exact ⟨rfl, HF2.out⟩
theorem r22numbers_any (w : World) (dc af la v0 v1 v2 v3 : Int) (a0 a1 a2 : Option Addr) (n m k c0 c1 c2 : Nat) :
 Calls Tryz.prog 71 #[.agg #[.int .i64 dc, .int .i64 af, .int .i64 la, .int .i64 v0, .int .i64 v1, .int .i64 v2, .int .i64 v3, .slice a0 n c0, .slice a1 m c1, .slice a2 k c2]] w fun e w' => e = .returned (.bool (tf (BunNums dc af la (vecF v0 v1 v2 v3)))) ∧ Frm NoS w w' := by
 obtain ⟨α, hne, K, hK1, hK0, hK2⟩ := worlds (w.alloc (.cells #[.int .i64 dc, .int .i64 af, .int .i64 la, .int .i64 v0, .int .i64 v1, .int .i64 v2, .int .i64 v3, .slice a0 n c0, .slice a1 m c1, .slice a2 k c2] 60))
 have kb := fun s => box10 w _ _ _ _ _ _ _ _ _ _ _ (K s) (hK1 s)
 have k0 := fun s => (kb s).1
 have k1 := fun s => (kb s).2.1
 have k2 := fun s => (kb s).2.2.1
 have k3 := fun s => (kb s).2.2.2.1
 have k4 := fun s => (kb s).2.2.2.2.1
 have k5 := fun s => (kb s).2.2.2.2.2.1
 have k6 := fun s => (kb s).2.2.2.2.2.2.1
 have k7 := fun s => (kb s).2.2.2.2.2.2.2.1
 have k8 := fun s => (kb s).2.2.2.2.2.2.2.2.1
 have k9 := fun s => (kb s).2.2.2.2.2.2.2.2.2
 clear kb
 cases h0 : decide (0 ≤ dc) with
 | false =>
  rw [tf_false (fun h => by obtain ⟨g0, g1, g2, g3, g4, g5, g6⟩ := h; simp at h0; omega)]
  go_enter Tryz.func71, Tryz.ntmps71
  go_wp2_with fail
  refine wp_region_new K (by kernel_rfl) (by kernel_rfl) hK0 ?_
  repeat (go_big_quiet_step (fail))
  refine wpQuiet_nil ?_
  intro w' hw'
  obtain ⟨s, rfl⟩ := hw'
  have hfs := (Frm.alloc NoS w _).then1 (hK1 s)
  go_wp2
  go_ret
  exact ⟨rfl, hfs⟩
 | true =>
  cases h1 : decide (dc < 4) with
  | false =>
   rw [tf_false (fun h => by obtain ⟨g0, g1, g2, g3, g4, g5, g6⟩ := h; simp at h1; omega)]
   go_enter Tryz.func71, Tryz.ntmps71
   go_wp2_with fail
   refine wp_region_new K (by kernel_rfl) (by kernel_rfl) hK0 ?_
   repeat (go_big_quiet_step (fail))
   refine wpQuiet_nil ?_
   intro w' hw'
   obtain ⟨s, rfl⟩ := hw'
   have hfs := (Frm.alloc NoS w _).then1 (hK1 s)
   go_wp2
   go_ret
   exact ⟨rfl, hfs⟩
  | true =>
   cases h2 : decide (0 ≤ af) with
   | false =>
    rw [tf_false (fun h => by obtain ⟨g0, g1, g2, g3, g4, g5, g6⟩ := h; simp at h2; omega)]
    go_enter Tryz.func71, Tryz.ntmps71
    go_wp2_with fail
    refine wp_region_new K (by kernel_rfl) (by kernel_rfl) hK0 ?_
    repeat (go_big_quiet_step (fail))
    refine wpQuiet_nil ?_
    intro w' hw'
    obtain ⟨s, rfl⟩ := hw'
    have hfs := (Frm.alloc NoS w _).then1 (hK1 s)
    go_wp2
    go_ret
    exact ⟨rfl, hfs⟩
   | true =>
    cases h3 : decide (af < la) with
    | false =>
     rw [tf_false (fun h => by obtain ⟨g0, g1, g2, g3, g4, g5, g6⟩ := h; simp at h3; omega)]
     go_enter Tryz.func71, Tryz.ntmps71
     go_wp2_with fail
     refine wp_region_new K (by kernel_rfl) (by kernel_rfl) hK0 ?_
     repeat (go_big_quiet_step (fail))
     refine wpQuiet_nil ?_
     intro w' hw'
     obtain ⟨s, rfl⟩ := hw'
     have hfs := (Frm.alloc NoS w _).then1 (hK1 s)
     go_wp2
     go_ret
     exact ⟨rfl, hfs⟩
    | true =>
     cases h4 : decide (la ≤ 1099511627776) with
     | false =>
      rw [tf_false (fun h => by obtain ⟨g0, g1, g2, g3, g4, g5, g6⟩ := h; simp at h4; omega)]
      go_enter Tryz.func71, Tryz.ntmps71
      go_wp2_with fail
      refine wp_region_new K (by kernel_rfl) (by kernel_rfl) hK0 ?_
      repeat (go_big_quiet_step (fail))
      refine wpQuiet_nil ?_
      intro w' hw'
      obtain ⟨s, rfl⟩ := hw'
      have hfs := (Frm.alloc NoS w _).then1 (hK1 s)
      go_wp2
      go_ret
      exact ⟨rfl, hfs⟩
     | true =>
      obtain ⟨dn, hdn⟩ : ∃ dn : Nat, dc = dn := ⟨dc.toNat, by simp at h0; omega⟩
      subst hdn
      have hd4 : dn < 4 := by simp at h1; omega
      have kd : ∀ s, (K s).cell? ⟨w.heap.size, 3 + dn, none⟩ = some (.int .i64 (vecF v0 v1 v2 v3 dn)) := fun s => by
       rcases (by omega : dn = 0 ∨ dn = 1 ∨ dn = 2 ∨ dn = 3) with rfl | rfl | rfl | rfl
       · exact k3 s
       · exact k4 s
       · exact k5 s
       · exact k6 s
      have hd4i : (dn : Int) < 4 := by omega
      have hd0b : decide ((0 : Int) ≤ (dn : Int)) = true := by simp
      have HMY := Lib.hid (fun W => r7May_any W v0 v1 v2 v3)
      by_cases hm : MayV (vecF v0 v1 v2 v3)
      · rw [tf_true hm] at HMY
        obtain ⟨fd, hfd⟩ : ∃ fd, fd = vecF v0 v1 v2 v3 dn := ⟨_, rfl⟩
        have hy : tf (BunNums dn af la (vecF v0 v1 v2 v3)) = decide (fd ≤ af) := by
         simp at h0 h1 h2 h3 h4
         refine (tf_bool ?_).symm
         rw [decide_eq_true_iff, hfd]
         exact ⟨fun h => ⟨by omega, h1, h2, h3, h4, h, hm⟩, fun h => h.2.2.2.2.2.1⟩
        rw [hy]
        rw [← hfd] at kd
        clear hy hfd hm
        go_enter Tryz.func71, Tryz.ntmps71
        go_wp2_with fail
        refine wp_region_new K (by kernel_rfl) (by kernel_rfl) hK0 ?_
        repeat (go_big_quiet_step ((go_at_call 36; exact Calls.in_class hK2 (HMY.out _))))
        refine wpQuiet_nil ?_
        intro w' hw'
        obtain ⟨s, rfl⟩ := hw'
        have hfs := (Frm.alloc NoS w _).then1 (hK1 s)
        go_wp2
        go_ret
        exact ⟨rfl, hfs⟩
      · rw [tf_false hm] at HMY
        rw [tf_false (fun h => hm h.2.2.2.2.2.2)]
        clear hm
        go_enter Tryz.func71, Tryz.ntmps71
        go_wp2_with fail
        refine wp_region_new K (by kernel_rfl) (by kernel_rfl) hK0 ?_
        repeat (go_big_quiet_step ((go_at_call 36; exact Calls.in_class hK2 (HMY.out _))))
        refine wpQuiet_nil ?_
        intro w' hw'
        obtain ⟨s, rfl⟩ := hw'
        have hfs := (Frm.alloc NoS w _).then1 (hK1 s)
        go_wp2
        go_ret
        exact ⟨rfl, hfs⟩
theorem r22own_ok (w : World) (dc af la v0 v1 v2 v3 : Int) (a0 a1 a2 : Option Addr) (n m k c0 c1 c2 : Nat) (hn : BunNums dc af la (vecF v0 v1 v2 v3)) :
 Calls Tryz.prog 74 #[.agg #[.int .i64 dc, .int .i64 af, .int .i64 la, .int .i64 v0, .int .i64 v1, .int .i64 v2, .int .i64 v3, .slice a0 n c0, .slice a1 m c1, .slice a2 k c2]] w fun e w' => ∃ v', e = .returned v' ∧ CtxAt w' v' [(dc, af + 1, la)] ∧ Frm NoS w w' := by
 have hb : 0 ≤ af ∧ af < la ∧ la ≤ 1099511627776 := ⟨hn.2.2.1, hn.2.2.2.1, hn.2.2.2.2.1⟩
 have hwr : IntKind.i64.wrap (af + 1) = af + 1 := by simp [IntKind.wrap, IntKind.bits, IntKind.signed]; omega
 clear hn
 go_enter Tryz.func74, Tryz.ntmps74
 go_wp2
 go_ret
 have hc := heap_alloc_new (w.alloc (.cells #[.int .i64 dc, .int .i64 af, .int .i64 la, .int .i64 v0, .int .i64 v1, .int .i64 v2, .int .i64 v3, .slice a0 n c0, .slice a1 m c1, .slice a2 k c2] 60)) (.cells #[.int .i64 dc, .int .i64 (af + 1), .int .i64 la] 122)
 refine ⟨_, rfl, .inr ⟨_, 0, 1, rfl, Nat.le_refl _, by simp [maxLen], fun j u hu => ?_⟩, (Frm.alloc NoS _ _).alloc1⟩
 rw [Nat.zero_add]
 have hu2 : ([.int .i64 dc, .int .i64 (af + 1), .int .i64 la] : List Value)[j]? = some u := hu
 have := cell_at' hc j (by simpa using hu2)
 simpa using this
end Go.Proofs.YtcahemkomfaabaaGreat
