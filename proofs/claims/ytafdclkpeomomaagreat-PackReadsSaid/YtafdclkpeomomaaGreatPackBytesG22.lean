/- Words for the law PackBytes: R8e, SmallT, R8c. -/
import Derived.Test.YtafdclkpeomomaaGreatPackBytesG7
import Derived.Test.YtafdclkpeomomaaGreatPackBytesG9
import Derived.Test.YtafdclkpeomomaaGreatPackBytesG13
import Derived.Test.YtafdclkpeomomaaGreatPackBytesG21
set_option linter.unusedSimpArgs false
set_option linter.unusedVariables false
/- tributaryref08: Leaves, Dots: the walks. -/
namespace Go.Proofs.YtafdclkpeomomaaGreat
open Go.RowKit

set_option maxRecDepth 100000 in
theorem r8Leaves_any (Q : Nat → Prop) (es : List Ent) (ks : KidsL) (w : World) (ev kv : Value) (ht : TreeAt Q w ev kv es ks) (hsz : sizeT es ks ≤ 100000) :
    Calls Tryz.prog 104 #[.agg #[ev, kv]] w (BelowPost w es ks) := by
  obtain ⟨ae, ce, rfl⟩ := ht.ents.rd.sl
  obtain ⟨os, hkr, hfor⟩ := ht.kids
  obtain ⟨ak, ck, rfl⟩ := hkr.rd.sl
  have HC := Lib.hid (fun W (f : Frm NoS w W) => r8below_any Q _ es ks W _ _ (.slice none 0 0) [] (Nat.lt_succ_self _) (ht.keep0 f) hsz (.inl ⟨none, rfl, rfl, rfl⟩) (by unfold sizeT at hsz; simp; omega))
  clear hkr hfor ht hsz
  go_enter Tryz.func104, Tryz.ntmps104
  go_wp2_with (go_at_call 136; go_loud (refine (HC.out _ (Frm.alloc _ _ _)).mono ?_); rintro e w3 ⟨v3, l, rfl, ho3, hd3, hone3⟩; obtain ⟨a3, c3, rfl⟩ := ho3.shape; have HO3 := Lib.hid (ho3.base (Frm.alloc NoS w _)); clear ho3; have HD3 := Lib.hid hd3; clear hd3; have HON := Lib.hid hone3; clear hone3)
  go_ret
  exact ⟨_, l, rfl, HO3.out, HD3.out, HON.out⟩
set_option maxHeartbeats 2000000 in
set_option maxRecDepth 100000 in
theorem r8Dots_any (Q : Nat → Prop) (es : List Ent) (ks : KidsL) (w : World) (ev kv : Value) (ht : TreeAt Q w ev kv es ks) (hsz : sizeT es ks ≤ 2000) (hd : DotsOk (dotsT es ks)) :
    Calls Tryz.prog 56 #[.agg #[ev, kv]] w fun e w' => ∃ v' c, e = .returned v' ∧ OwnAt w w' 107 3 v' c.length (spC c) ∧ OfC (dotsT es ks) c ∧ c.length ≤ 8000 := by
  obtain ⟨i0, hi, hz0, hz1, hz2⟩ := info_parts info_dot
  obtain ⟨ae, ce, rfl⟩ := ht.ents.rd.sl
  obtain ⟨os, hkr, hfor⟩ := ht.kids
  obtain ⟨ak, ck, rfl⟩ := hkr.rd.sl
  have HC := Lib.hid (fun W (f : Frm NoS w W) => r8Leaves_any Q es ks W _ _ (ht.keep0 f) (by omega))
  have hdl := dotsT_length_le es ks
  have HDL := Lib.hid (show (dotsT es ks).length ≤ 2000 by omega)
  have HDK := Lib.hid hd; clear hd
  have HFA := Lib.hid (Frm.alloc NoS w (.cells #[.slice ae es.length ce, .slice ak ks.len ck] 25))
  clear hkr hfor ht hsz hdl
  go_enter Tryz.func56, Tryz.ntmps56
  go_wp2_with (go_at_call 104; go_loud (refine (HC.out _ HFA.out).mono ?_); rintro e w3 ⟨v3, l, rfl, ho3, hd3, -⟩; obtain ⟨a3, c3, rfl⟩ := ho3.shape; have HO3 := Lib.hid (ho3.base HFA.out); clear ho3; have HD3 := Lib.hid hd3; clear hd3)
  have hl := HDL.out
  rw [← HD3.out, dotsL_length] at hl
  generalize hn : l.length = n at *
  have HN := Lib.hid hn; clear hn
  go_loopw [3, 10] (fun v i ww => ∃ k : Nat, k ≤ n ∧ i = .int .i64 k ∧ OwnAt w3 ww 134 2 v k (ruC (dotsL (l.take k)))) (fun _ i _ => n - (intOf i).toNat)
  case atStart => exact ⟨0, Nat.zero_le _, rfl, OwnAt.nil (Frm.refl _ _) _ _⟩
  case round =>
    obtain ⟨k, hk, rfl, ho⟩ := hrel
    obtain ⟨av, cv, rfl⟩ := ho.shape
    have HO := Lib.hid ho; clear ho
    by_cases hlt : k < n
    · rcases Rd.shape HO3.out.rd with ⟨ad, he, h0⟩ | ⟨b, off, cc, he, hmax⟩
      · exfalso; omega
      · injection he with e1 e2 e3
        subst e1 e3
        clear e2
        have hlk : k < l.length := by rw [HN.out]; exact hlt
        obtain ⟨p0, p1⟩ := lf_at HO3.out.rd k hlk
        have q0 := HO.out.frm.cell' p0 id
        have q1 := HO.out.frm.cell' p1 id
        clear p0 p1
        have hE := dotsL_take_succ hlk
        generalize l.getD k (.bool true, Ent.zero) = x at *
        have HEE := Lib.hid hE; clear hE
        go_wp2_with (at_builtin; go_loud (refine wpList_appO _ _ [.int .i64 x.2.dc, .int .i64 x.2.n] rfl (.tmp 13) (.tmp 20) 151 rfl 134 i0 _ 2 16 Tryz.underlying151 hi hz0 hz1 hz2 (by decide) (by decide) _ _ _ HO.out 1 1 rfl (by simp [Act.eval]) rfl (by simp [Value.oneCell']) (by simp only [maxLen]; omega) (by omega) ?_); intro ad2 cc2 w2 own2; have OW := Lib.hid own2; clear own2)
        go_roundw
        case rel => exact ⟨k + 1, by omega, by go_num, by rw [HEE.out, ruC_append]; exact OW.out⟩
        case measure => simp [intOf]; omega
    · obtain rfl : n = k := by omega
      rw [List.take_of_length_le (by rw [HN.out]; exact Nat.le_refl _), HD3.out] at HO
      have hnn : n = (dotsT es ks).length := by rw [← HD3.out, dotsL_length]; exact HN.out.symm
      have hrun : RunAt wr (.slice av n cv) (dotsT es ks) := by show Rd wr _ (dotsT es ks).length _; rw [← hnn]; exact HO.out.rd
      have HRUN := Lib.hid hrun; clear hrun hnn
      go_wp2_with (go_at_call 105; go_loud (refine (r7Of_any _ _ (dotsT es ks) HRUN.out HDK.out (by have := HDL.out; omega)).mono ?_); rintro e w5 ⟨v5, c5, rfl, ho5, hof, -⟩; obtain ⟨a5, cc5, rfl⟩ := ho5.shape; have HO5 := Lib.hid ho5; clear ho5; have HOF := Lib.hid hof; clear hof)
      go_ret
      exact ⟨_, c5, rfl, (HO5.out.base HO.out.frm).base HO3.out.frm, HOF.out, by have := HOF.out.length; have := HDL.out; omega⟩
end Go.Proofs.YtafdclkpeomomaaGreat

/- How many entries and kids a tree has, counted down: the plain law. -/
namespace Go.Proofs.YtafdclkpeomomaaGreat

/-- What is left behind kids, whose number is counted already. -/
def roomK : KidsL → Int → Nat → Int
  | .nil, left, _ => left
  | .cons _ es sub rest, left, d => if left < 0 ∨ d = 0 then -1 else roomK rest (roomK sub (left - es.length - sub.len) (d - 1)) d
def roomT (es : List Ent) (ks : KidsL) (left : Int) (d : Nat) : Int := roomK ks (left - es.length - ks.len) d
theorem roomK_cons (key : ByteArray) (es : List Ent) (sub rest : KidsL) (left : Int) (d : Nat) : roomK (.cons key es sub rest) left d = if left < 0 ∨ d = 0 then -1 else roomK rest (roomT es sub left (d - 1)) d := rfl
theorem roomK_ge : ∀ {ks : KidsL} {left : Int} {d : Nat}, 0 ≤ roomK ks left d → 0 ≤ left
  | .nil, _, _, h => h
  | .cons _ es sub rest, left, d, h => by
    rw [roomK_cons] at h
    split at h
    · omega
    · omega
theorem roomK_size : ∀ {ks : KidsL} {left : Int} {d : Nat}, 0 ≤ roomK ks left d → roomK ks left d + sizeK ks = left + ks.len
  | .nil, _, _, _ => by simp [roomK, sizeK, KidsL.len]
  | .cons _ es sub rest, left, d, h => by
    rw [roomK_cons] at h ⊢
    split at h
    · omega
    · rename_i hc
      rw [if_neg hc]
      have h1 := roomK_ge h
      have h2 := roomK_size h
      have h3 := roomK_size (ks := sub) h1
      unfold roomT at h2 h3 ⊢
      simp only [sizeK, KidsL.len]
      omega
/-- Who has room has few entries and kids. -/
theorem roomT_size {es : List Ent} {ks : KidsL} {left : Int} {d : Nat} (h : 0 ≤ roomT es ks left d) : (sizeT es ks : Int) ≤ left := by
  have := roomK_size h
  unfold roomT at h
  unfold sizeT
  omega
theorem roomK_deep : ∀ {ks : KidsL} {left : Int} {d : Nat}, 0 ≤ roomK ks left d → deepK ks ≤ d
  | .nil, _, _, _ => Nat.zero_le _
  | .cons _ es sub rest, left, d, h => by
    rw [roomK_cons] at h
    split at h
    · omega
    · have h1 := roomK_ge h
      have h2 := roomK_deep h
      have h3 := roomK_deep (ks := sub) h1
      simp only [deepK]
      omega
/-- The bounds of what is left. -/
theorem roomK_bd : ∀ {ks : KidsL} {left : Int} {d : Nat}, ks.Ok → left ≤ 1000 → -300000000000000 ≤ left → roomK ks left d ≤ 1000 ∧ -300000000000000 ≤ roomK ks left d
  | .nil, _, _, _, h1, h2 => ⟨h1, h2⟩
  | .cons _ es sub rest, left, d, hk, h1, h2 => by
    rw [roomK_cons]
    split
    · omega
    · obtain ⟨_, he, hs, hok, hr⟩ := hk
      have := he.len
      have h3 := roomK_bd (ks := sub) (left := left - es.length - sub.len) (d := d - 1) hok (by omega) (by omega)
      exact roomK_bd hr h3.1 h3.2
theorem roomK_drop {ks : KidsL} {n : Nat} {key : ByteArray} {es : List Ent} {sub rest : KidsL} (h : ks.drop n = .cons key es sub rest) (left : Int) (d : Nat) :
    roomK (ks.drop n) left d = if left < 0 ∨ d = 0 then -1 else roomK (ks.drop (n + 1)) (roomT es sub left (d - 1)) d := by
  rw [h, KidsL.drop_succ n ks h, roomK_cons]
end Go.Proofs.YtafdclkpeomomaaGreat

/- tributaryref08: room, Small, Right: the walks. -/
namespace Go.Proofs.YtafdclkpeomomaaGreat
open Go.RowKit

set_option maxHeartbeats 2000000 in
set_option maxRecDepth 1000000 in
theorem r8room_any (Q : Nat → Prop) : ∀ (N : Nat) (es : List Ent) (ks : KidsL) (left : Int) (d : Nat) (w : World) (ev kv : Value), sizeK ks < N → TreeAt Q w ev kv es ks → TrOk es ks → left ≤ 1000 → 0 ≤ left → d ≤ 100 →
    Calls Tryz.prog 99 #[.agg #[ev, kv], .int .i64 left, .int .i64 d] w fun e w' => e = .returned (.int .i64 (roomT es ks left d)) ∧ Frm NoS w w' := by
  intro N
  induction N with
  | zero => intros; exfalso; omega
  | succ N IHN =>
    intro es ks left d w ev kv hN ht hok hl1 hl2 hd
    obtain ⟨ae, ce, rfl⟩ := ht.ents.rd.sl
    obtain ⟨os, hkr, hfor⟩ := ht.kids
    obtain ⟨ak, ck, rfl⟩ := hkr.rd.sl
    have HKR := Lib.hid hkr.rd; clear hkr ht
    have HFOR := Lib.hid hfor; clear hfor
    have IH := Lib.hid IHN; clear IHN
    have HWB := Lib.hid (Frm.alloc NoS w (.cells #[.slice ae es.length ce, .slice ak ks.len ck] 25))
    have box1 : (w.alloc (.cells #[.slice ae es.length ce, .slice ak ks.len ck] 25)).cell? ⟨w.heap.size, 1, none⟩ = some (.slice ak ks.len ck) := cell_at' (heap_alloc_new w _) 1 rfl
    have B1 := Lib.hid box1; clear box1
    have hel := hok.es.len
    have hkl0 := hok.len
    have HOK := Lib.hid hok.ks; clear hok
    have HSZ := Lib.hid hN; clear hN
    have hrt : roomT es ks left d = roomK ks (left - es.length - ks.len) d := rfl
    rw [hrt]
    clear hrt
    generalize es.length = n at *
    generalize hkl : ks.len = m at *
    have HM := Lib.hid hkl; clear hkl
    obtain ⟨l0, hl0⟩ : ∃ l0 : Int, l0 = left - n - m := ⟨_, rfl⟩
    have hb0 : l0 ≤ 1000 ∧ -300000000000000 ≤ l0 := by omega
    rw [← hl0]
    go_enter Tryz.func99, Tryz.ntmps99
    go_wp2
    go_loopw [1, 20] (fun lv i ww => ∃ (k : Nat) (x : Int), k ≤ m ∧ i = .int .i64 k ∧ lv = .int .i64 x ∧ x ≤ 1000 ∧ -300000000000000 ≤ x ∧ roomK ks l0 d = roomK (ks.drop k) x d ∧ Frm NoS (w.alloc (.cells #[.slice ae n ce, .slice ak m ck] 25)) ww) (fun _ i _ => m - (intOf i).toNat)
    case atStart => exact ⟨0, l0, Nat.zero_le _, rfl, by rw [hl0], hb0.1, hb0.2, rfl, Frm.refl _ _⟩
    case round =>
      clear hl0
      obtain ⟨k, x, hk, rfl, rfl, hx1, hx2, hr, hw⟩ := hrel
      have HW := Lib.hid hw; clear hw
      have b1 := HW.out.cell' B1.out id
      by_cases hlt : k < m
      · obtain ⟨key, es', sub, rest, hdr⟩ := KidsL.drop_some (n := k) (ks := ks) (by rw [HM.out]; exact hlt)
        rw [roomK_drop hdr] at hr
        by_cases hx0 : x < 0
        · rw [if_pos (.inl hx0)] at hr
          have HR := Lib.hid hr; clear hr
          clear hdr
          go_wp2
          go_ret
          exact ⟨ret_int HR.out.symm, HWB.out.then1 HW.out⟩
        · by_cases hd0 : d = 0
          · subst hd0
            rw [if_pos (.inr rfl)] at hr
            have HR := Lib.hid hr; clear hr
            clear hdr
            go_wp2
            go_ret
            exact ⟨ret_int HR.out.symm, HWB.out.then1 HW.out⟩
          · rw [if_neg (by omega)] at hr
            rcases Rd.shape (HKR.out.keep0 (HWB.out.then1 HW.out)) with ⟨ad, he, h0⟩ | ⟨b, off, cc, he, hmax⟩
            · exfalso; have := HM.out; omega
            · injection he with e1 e2 e3
              subst e1 e3
              clear e2
              obtain ⟨ev', kv', c0, c1, c2, hta⟩ := kid_at (HKR.out.keep0 (HWB.out.then1 HW.out)) (HFOR.out.keep0 (HWB.out.then1 HW.out)) hdr
              obtain ⟨ae', ce', rfl⟩ := hta.ents.rd.sl
              obtain ⟨os', hkr', hfor'⟩ := hta.kids
              obtain ⟨ak', ck', rfl⟩ := hkr'.rd.sl
              clear hkr' hfor'
              have hok' := HOK.out.drop k
              rw [hdr] at hok'
              have hsub : TrOk es' sub := ⟨hok'.2.1, hok'.2.2.1, hok'.2.2.2.1⟩
              have hbd := roomK_bd (ks := sub) (left := x - es'.length - sub.len) (d := d - 1) hsub.ks (by omega) (by have := hsub.es.len; have := hsub.len; omega)
              obtain ⟨y, hy⟩ : ∃ y, y = roomT es' sub x (d - 1) := ⟨_, rfl⟩
              have HBD := Lib.hid (show y ≤ 1000 ∧ -300000000000000 ≤ y by rw [hy]; exact hbd); clear hbd
              have hih := IH.out es' sub x (d - 1) wr _ _ (by have := size_sub k hdr; have := HSZ.out; omega) hta hsub hx1 (by omega) (by omega)
              rw [show ((d - 1 : Nat) : Int) = (d : Int) - 1 by omega] at hih
              rw [← hy] at hih hr
              have HIH := Lib.hid hih; clear hih hta hok' hsub hdr hy
              have HR := Lib.hid hr; clear hr
              generalize es'.length = n' at *
              generalize sub.len = m' at *
              have hd1 : (d : Int) ≤ 100 := by omega
              have hd2 : (1 : Int) ≤ d := by omega
              have hdz : ((d : Int) == 0) = false := by simp; omega
              go_wp2_with (go_at_call 99; refine HIH.out.mono ?_; rintro e w3 ⟨rfl, hw3⟩; have HW3 := Lib.hid hw3; clear hw3)
              go_roundw
              case rel => exact ⟨k + 1, y, by omega, by go_num, rfl, HBD.out.1, HBD.out.2, HR.out, HW.out.then1 HW3.out⟩
              case measure => simp [intOf]; omega
      · obtain rfl : m = k := by omega
        rw [KidsL.drop_none (by rw [HM.out]; exact Nat.le_refl _)] at hr
        have HR := Lib.hid hr; clear hr
        go_wp2
        go_ret
        exact ⟨ret_int HR.out.symm, HWB.out.then1 HW.out⟩
set_option maxRecDepth 100000 in
theorem r8Small_any (Q : Nat → Prop) (es : List Ent) (ks : KidsL) (left : Int) (w : World) (ev kv : Value) (ht : TreeAt Q w ev kv es ks) (hok : TrOk es ks) (h1 : left ≤ 1000) (h2 : 0 ≤ left) :
    Calls Tryz.prog 51 #[.agg #[ev, kv], .int .i64 left] w fun e w' => e = .returned (.bool (decide (0 ≤ roomT es ks left 8))) ∧ Frm NoS w w' := by
  obtain ⟨ae, ce, rfl⟩ := ht.ents.rd.sl
  obtain ⟨os, hkr, hfor⟩ := ht.kids
  obtain ⟨ak, ck, rfl⟩ := hkr.rd.sl
  have hc : ∀ W, Frm NoS w W → Calls Tryz.prog 99 #[.agg #[.slice ae es.length ce, .slice ak ks.len ck], .int .i64 left, .int .i64 8] W fun e w' => e = .returned (.int .i64 (roomT es ks left 8)) ∧ Frm NoS W w' := fun W f => r8room_any Q _ es ks left 8 W _ _ (Nat.lt_succ_self _) (ht.keep0 f) hok h1 h2 (by omega)
  have HC := Lib.hid hc
  clear hkr hfor ht hok hc
  generalize roomT es ks left 8 = y at *
  generalize es.length = n at *
  generalize ks.len = m at *
  go_enter Tryz.func51, Tryz.ntmps51
  go_wp2_with (go_at_call 99; refine (HC.out _ (Frm.alloc _ _ _)).mono ?_; rintro e w3 ⟨rfl, hw3⟩; have HW3 := Lib.hid ((Frm.alloc NoS _ _).then1 hw3); clear hw3)
  go_ret
  exact ⟨rfl, HW3.out⟩
set_option maxRecDepth 100000 in
theorem r8Right_any (Q : Nat → Prop) (es : List Ent) (ks : KidsL) (w : World) (ev kv : Value) (ht : TreeAt Q w ev kv es ks) (hok : TrOk es ks) :
    Calls Tryz.prog 54 #[.agg #[ev, kv]] w fun e w' => e = .returned (.bool (rightT 5 es ks)) ∧ Frm NoS w w' := by
  obtain ⟨ae, ce, rfl⟩ := ht.ents.rd.sl
  obtain ⟨os, hkr, hfor⟩ := ht.kids
  obtain ⟨ak, ck, rfl⟩ := hkr.rd.sl
  have hc : ∀ W, Frm NoS w W → Calls Tryz.prog 103 #[.agg #[.slice ae es.length ce, .slice ak ks.len ck], .int .i64 5] W fun e w' => e = .returned (.bool (rightT 5 es ks)) ∧ Frm NoS W w' := fun W f => r8right_any Q _ es ks 5 W _ _ (Nat.lt_succ_self _) (ht.keep0 f) hok (by omega)
  have HC := Lib.hid hc
  clear hkr hfor ht hok hc
  generalize rightT 5 es ks = y at *
  generalize es.length = n at *
  generalize ks.len = m at *
  go_enter Tryz.func54, Tryz.ntmps54
  go_wp2_with (go_at_call 103; refine (HC.out _ (Frm.alloc _ _ _)).mono ?_; rintro e w3 ⟨rfl, hw3⟩; have HW3 := Lib.hid ((Frm.alloc NoS _ _).then1 hw3); clear hw3)
  go_ret
  exact ⟨rfl, HW3.out⟩
end Go.Proofs.YtafdclkpeomomaaGreat
