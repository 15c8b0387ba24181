/- Words for the law PackPuts: R6By, R7a, R7b. -/
import Derived.Test.YtggfoihfenlckaaGreatPackPutsG3
set_option linter.unusedSimpArgs false
set_option linter.unusedVariables false
/- tributaryref06: By: the walk (printed by wip/r6bygen.py). -/
namespace Go.Proofs.YtggfoihfenlckaaGreat
open Go.RowKit
theorem OwnAt.base {w0 w1 w : World} {e : TypeId} {size : Nat} {v : Value} {n : Nat} {xs : List Value} (h : OwnAt w1 w e size v n xs) (f : Frm NoS w0 w1) : OwnAt w0 w e size v n xs :=
  ⟨h.own, (fun k hk => Nat.le_trans f.size (h.new k hk)), f.then1 h.frm⟩
/-- What By answers. -/
def R6ByC (how : Int) : Prop := ∀ (w : World) (va vb : Value) (a b : RunL) (_ : RunAt w va a) (_ : RunAt w vb b) (_ : RightR a) (_ : RightR b) (_ : a.length ≤ 10000) (_ : b.length ≤ 10000),
    Calls Tryz.prog 160 #[va, vb, .int .i64 how] w fun e w' => ∃ v' out, e = .returned v' ∧ OwnAt w w' 183 2 v' out.length (ruC out) ∧ ByInv a b how out none ∧ out.length ≤ 40000
theorem wrap_nat4 {n : Nat} (h : n + 1 ≤ 1000000) : wrap64 (n : Int) = n := by unfold wrap64; omega
theorem wrap_m1 {m : Int} (h1 : 1 ≤ m) (h2 : m ≤ 1099511627777) : wrap64 (m - 1) = m - 1 := by unfold wrap64; omega
theorem endsL_bd {l : RunL} (h : RightR l) : ∀ x ∈ endsL l, 1 ≤ x ∧ x ≤ 1099511627777 := by
  intro x hx
  obtain ⟨r, hr, h1⟩ := endsL_mem.1 hx
  have := runsFrom_ge h.1 r hr
  have := h.2 r hr
  omega
set_option maxHeartbeats 1000000 in
set_option maxRecDepth 1000000 in
theorem r6By_union : R6ByC 0 := by
  intro w va vb a b ha hb ra rb la lb
  obtain ⟨i0, hi, hz0, hz1, hz2⟩ := info_parts info_run
  obtain ⟨j0, hj, hy0, hy1, hy2⟩ := info_parts info_i64
  obtain ⟨aA, cA, rfl⟩ := ha.sl
  obtain ⟨aB, cB, rfl⟩ := hb.sl
  have hl : (endsL a ++ endsL b).length ≤ 40000 := by rw [List.length_append, endsL_length, endsL_length]; omega
  have hbd : ∀ x ∈ (endsL a ++ endsL b), 1 ≤ x ∧ x ≤ 1099511627777 := fun x hx => (List.mem_append.1 hx).elim (endsL_bd ra x) (endsL_bd rb x)
  have HBD := Lib.hid hbd; clear hbd
  have HINI := Lib.hid (byInv_init 0 ra.1 rb.1)
  have HEA := Lib.hid (r6ends_any w _ a ha ra (by omega))
  have HEB := Lib.hid (fun w' h => r6ends_any w' _ b (Rd.keep0 hb h) rb (by omega))
  have HA := Lib.hid (fun w' x h => r6Has_any w' _ a x (Rd.keep0 ha h))
  have HB := Lib.hid (fun w' x h => r6Has_any w' _ b x (Rd.keep0 hb h))
  have ela : (endsL a).length ≤ 20000 := by rw [endsL_length]; omega
  have elb : (endsL b).length ≤ 20000 := by rw [endsL_length]; omega
  clear ha hb la lb
  go_enter Tryz.func160, Tryz.ntmps160
  go_wp2_with (first
    | (go_at_call_of 182 aA; refine HEA.out.mono ?_; rintro e w1 ⟨v1, rfl, ho1⟩; obtain ⟨a1, c1, rfl⟩ := ho1.shape; have HO1 := Lib.hid ho1; clear ho1)
    | (go_at_call_of 182 aB; refine (HEB.out w1 HO1.out.frm).mono ?_; rintro e w2 ⟨v2, rfl, ho2⟩; obtain ⟨a2, c2, rfl⟩ := ho2.shape; have HO2 := Lib.hid ho2; clear ho2)
    | (at_builtin; go_loud (refine wpList_appR w _ _ rfl (.tmp 17) (.tmp 19) 216 216 rfl 2 2 j0 _ 1 8 Tryz.underlying216 Tryz.underlying216 hj hy0 hy1 hy2 (by decide) (by decide) _ _ _ (HO1.out.keep HO2.out.frm) _ (endsL b).length rfl rfl HO2.out.rd (by simp) (inV_oneCell _) (by simp only [maxLen]; omega) (by omega) ?_); intro a3 c3 w3 own3; have HO3 := Lib.hid own3; clear own3))
  have HW3 := Lib.hid HO3.out.frm
  have HNX := Lib.hid (fun w' x (h : Frm NoS w3 w') => r6next_any w' _ (endsL a ++ endsL b) x (by have := (HO3.out.keep h).rd; rw [← inV_append, ← List.length_append] at this; exact this))
  clear HO1 HO2 HO3 HEA HEB
  rw [← List.length_append]
  have elp : (endsL a ++ endsL b).length = (endsL a).length + (endsL b).length := List.length_append
  generalize hP : (endsL a ++ endsL b) = P at *
  have HP := Lib.hid hP; clear hP
  clear ela elb elp
  refine (HNX.out w3 0 (Frm.refl _ _)).mono ?_
  rintro e w' ⟨rfl, hw⟩
  rw [hw]
  clear hw w'
  go_wp2
  go_loopw [8, 9, 10] (fun v x o ww => ∃ (q : Option Int) (out : RunL), OwnAt w3 ww 183 2 v out.length (ruC out) ∧ ByInv a b 0 out q ∧ out.length + ahead P q ≤ P.length ∧ x = .int .i64 (q.getD 0) ∧ o = .bool q.isSome) (fun _ x o _ => aheadV P x o)
  case atStart => exact ⟨nextL P 0, [], OwnAt.nil (Frm.refl _ _) _ _, HINI.out, by have := ahead_le P (nextL P 0); simpa using this, rfl, rfl⟩
  case round =>
    obtain ⟨q, out, ho, hq, hlen, rfl, rfl⟩ := hrel
    have HQ := Lib.hid hq; clear hq
    have HO := Lib.hid ho; clear ho
    cases q with
    | none =>
      have HLEN := Lib.hid hlen; clear hlen
      have HL := Lib.hid hl; clear hl
      obtain ⟨av, cv, rfl⟩ := HO.out.shape
      go_wp2
      go_ret
      exact ⟨_, out, rfl, HO.out.base HW3.out, HQ.out, Nat.le_trans (Nat.le_trans (Nat.le_add_right _ _) HLEN.out) HL.out⟩
    | some m =>
      obtain ⟨m1, m2, m3, m4⟩ := HQ.out.some_ m rfl
      rw [HP.out] at m2
      obtain ⟨b1, b2⟩ := HBD.out m m2
      have hah := ahead_lt m2
      have HAH := Lib.hid hah; clear hah
      have hole : out.length + 1 ≤ 40000 := by
        have : 0 < ahead P (some m) := List.length_pos_of_mem (List.mem_filter.2 ⟨m2, by simp⟩)
        omega
      have HLEN := Lib.hid hlen
      have HM3 := Lib.hid m3; clear m3
      clear m4 m1 hlen m2
      cases hp : tf (InR a m) with
      | false =>
        cases hq : tf (InR b m) with
        | false =>
          have hin : ¬ ByIn 0 (InR a m) (InR b m) := by
            have h1 := tf_not.1 hp
            have h2 := tf_not.1 hq
            unfold ByIn
            simp [h1, h2]
          have HHA := Lib.hid (fun w' h => HA.out w' m h)
          have HHB := Lib.hid (fun w' h => HB.out w' m h)
          rw [hp] at HHA
          rw [hq] at HHB
          clear hp hq
          have HST := Lib.hid (HP.out ▸ byInv_out HQ.out hin)
          have HNM := Lib.hid (fun w' h => HNX.out w' m h)
          have hlm : ahead P (nextL P m) < ahead P (some m) := HAH.out
          generalize hnx : nextL P m = nx at *
          have HL2 := Lib.hid hlm; clear hlm
          clear hin
          obtain ⟨av, cv, rfl⟩ := HO.out.shape
          go_wp2_with (first
            | (go_at_call 183; refine (HNM.out _ HO.out.frm).mono ?_; rintro e w' ⟨rfl, hw⟩; rw [hw]; clear hw w')
            | (go_at_call_of 184 aA; refine (HHA.out _ (HW3.out.then1 HO.out.frm)).mono ?_; rintro e w' ⟨rfl, hw⟩; rw [hw]; clear hw w')
            | (go_at_call_of 184 aB; refine (HHB.out _ (HW3.out.then1 HO.out.frm)).mono ?_; rintro e w' ⟨rfl, hw⟩; rw [hw]; clear hw w'))
          go_roundw
          case rel =>
            refine ⟨nx, out, HO.out, HST.out, ?_, rfl, rfl⟩
            have := HLEN.out
            have := HL2.out
            omega
          case measure =>
            have := HL2.out
            cases nx with
            | none => exact this
            | some t => exact this
        | true =>
          have hin : ByIn 0 (InR a m) (InR b m) := by
            have h1 := tf_not.1 hp
            have h2 := tf_iff.1 hq
            unfold ByIn
            simp [h1, h2]
          have HHA := Lib.hid (fun w' h => HA.out w' m h)
          have HHB := Lib.hid (fun w' h => HB.out w' m h)
          rw [hp] at HHA
          rw [hq] at HHB
          clear hp hq
          obtain ⟨t, ht⟩ := byInv_some hin
          have hst := byInv_in HQ.out hin ht
          rw [HP.out] at ht
          have HST := Lib.hid hst; clear hst
          have hlm : ahead P (some t) < ahead P (some m) := ht ▸ HAH.out
          have HL2 := Lib.hid hlm; clear hlm
          obtain ⟨t1, t2⟩ := HBD.out t (nextL_some ht).1
          have HNM := Lib.hid (fun w' h => HNX.out w' m h)
          rw [ht] at HNM
          clear hin ht
          have HPL := Lib.hid (pushL_length out m (t - 1))
          rcases List.eq_nil_or_concat out with rfl | ⟨lo, r, rfl⟩
          · rw [pushL_nil] at HST HPL
            obtain ⟨av, cv, rfl⟩ := HO.out.shape
            go_wp2_with (first
              | (go_at_call 183; refine (HNM.out _ HO.out.frm).mono ?_; rintro e w' ⟨rfl, hw⟩; rw [hw]; clear hw w') | (go_at_call_of 184 aA; refine (HHA.out _ (HW3.out.then1 HO.out.frm)).mono ?_; rintro e w' ⟨rfl, hw⟩; rw [hw]; clear hw w') | (go_at_call_of 184 aB; refine (HHB.out _ (HW3.out.then1 HO.out.frm)).mono ?_; rintro e w' ⟨rfl, hw⟩; rw [hw]; clear hw w')
              | (at_builtin; go_loud (refine wpList_appO w3 _ [.int .i64 m, .int .i64 (t - 1)] rfl (.tmp 83) (.tmp 88) 124 rfl 183 i0 _ 2 16 Tryz.underlying124 hi hz0 hz1 hz2 (by decide) (by decide) _ _ _ HO.out 1 1 rfl rfl rfl (by simp [Value.oneCell']) (by simp [maxLen]) (by simp) ?_); intro ad cc w2 own2; have OW := Lib.hid own2; clear own2))
            go_roundw
            case rel => exact ⟨some t, [(m, t - 1)], OW.out, HST.out, by have := HLEN.out; have := HL2.out; simp at *; omega, rfl, rfl⟩
            case measure => exact HL2.out
          · rw [List.concat_eq_append] at *
            rw [pushL_snoc] at HST HPL
            have hln : (lo ++ [r]).length = lo.length + 1 := by simp
            have ho2 := HO.out
            have hlen := HLEN.out
            rw [hln] at ho2 hole hlen HPL
            clear HO HLEN
            have HLEN := Lib.hid hlen; clear hlen
            obtain ⟨g, c2, rfl, hg0, hg, hc2, hcell, hfro, hset⟩ := ho2.row (by simp)
            have cl := hcell _ _ (ruC_last lo r)
            have fl := hfro (lo.length * 2 + 1)
            have hs := hset (lo.length * 2 + 1) (.int .i64 (t - 1))
            rw [ruC_set_last] at hs
            have HO := Lib.hid ho2; clear ho2
            generalize hL : lo.length = L at *
            have HLN := Lib.hid hL; clear hL
            have HS := Lib.hid hs; clear hs
            clear hset hcell hfro hln
            have hwm : wrap64 (L : Int) = L := wrap_nat4 (Nat.le_of_succ_le (Nat.le_trans hole (by decide : 40000 ≤ 1000000)))
            have HOLE := Lib.hid hole; clear hole hc2
            by_cases he : r.2 = m - 1
            · rw [if_pos he] at HST HPL
              have he' : ((r.2 : Int) == m - 1) = true := by simp [he]
              have hw1 : wrap64 (m - 1) = m - 1 := wrap_m1 b1 b2
              have hw2 : wrap64 (t - 1) = t - 1 := wrap_m1 t1 t2
              clear he b1 b2 t1 t2
              go_wp2_with (first
                | (go_at_call 183; refine (HNM.out _ HO.out.frm).mono ?_; rintro e w' ⟨rfl, hw⟩; rw [hw]; clear hw w') | (go_at_call_of 184 aA; refine (HHA.out _ (HW3.out.then1 HO.out.frm)).mono ?_; rintro e w' ⟨rfl, hw⟩; rw [hw]; clear hw w') | (go_at_call_of 184 aB; refine (HHB.out _ (HW3.out.then1 HO.out.frm)).mono ?_; rintro e w' ⟨rfl, hw⟩; rw [hw]; clear hw w'))
              go_roundw
              case rel =>
                refine ⟨some t, lo ++ [(r.1, t - 1)], by rw [List.length_append, HLN.out]; exact HS.out, HST.out, ?_, rfl, rfl⟩
                have := HLEN.out
                have := HL2.out
                have := HLN.out
                rw [List.length_append]
                simp at *
                omega
              case measure => exact HL2.out
            · rw [if_neg he] at HST HPL
              have he' : ((r.2 : Int) == m - 1) = false := by simpa using he
              have hw1 : wrap64 (m - 1) = m - 1 := wrap_m1 b1 b2
              have hw2 : wrap64 (t - 1) = t - 1 := wrap_m1 t1 t2
              clear he b1 b2 t1 t2
              go_wp2_with (first
                | (go_at_call 183; refine (HNM.out _ HO.out.frm).mono ?_; rintro e w' ⟨rfl, hw⟩; rw [hw]; clear hw w') | (go_at_call_of 184 aA; refine (HHA.out _ (HW3.out.then1 HO.out.frm)).mono ?_; rintro e w' ⟨rfl, hw⟩; rw [hw]; clear hw w') | (go_at_call_of 184 aB; refine (HHB.out _ (HW3.out.then1 HO.out.frm)).mono ?_; rintro e w' ⟨rfl, hw⟩; rw [hw]; clear hw w')
                | (at_builtin; go_loud (refine wpList_appO w3 _ [.int .i64 m, .int .i64 (t - 1)] rfl (.tmp 83) (.tmp 88) 124 rfl 183 i0 _ 2 16 Tryz.underlying124 hi hz0 hz1 hz2 (by decide) (by decide) _ _ _ HO.out 1 1 rfl rfl rfl (by simp [Value.oneCell']) (by have := HOLE.out; simp only [maxLen]; omega) (by have := HOLE.out; omega) ?_); intro ad cc w2 own2; have OW := Lib.hid own2; clear own2))
              go_roundw
              case rel =>
                refine ⟨some t, lo ++ [r] ++ [(m, t - 1)], by rw [List.length_append, List.length_append, HLN.out, ruC_append]; exact OW.out, HST.out, ?_, rfl, rfl⟩
                have := HLEN.out
                have := HL2.out
                have := HLN.out
                simp at *
                omega
              case measure => exact HL2.out
      | true =>
        cases hq : tf (InR b m) with
        | false =>
          have hin : ByIn 0 (InR a m) (InR b m) := by
            have h1 := tf_iff.1 hp
            have h2 := tf_not.1 hq
            unfold ByIn
            simp [h1, h2]
          have HHA := Lib.hid (fun w' h => HA.out w' m h)
          have HHB := Lib.hid (fun w' h => HB.out w' m h)
          rw [hp] at HHA
          rw [hq] at HHB
          clear hp hq
          obtain ⟨t, ht⟩ := byInv_some hin
          have hst := byInv_in HQ.out hin ht
          rw [HP.out] at ht
          have HST := Lib.hid hst; clear hst
          have hlm : ahead P (some t) < ahead P (some m) := ht ▸ HAH.out
          have HL2 := Lib.hid hlm; clear hlm
          obtain ⟨t1, t2⟩ := HBD.out t (nextL_some ht).1
          have HNM := Lib.hid (fun w' h => HNX.out w' m h)
          rw [ht] at HNM
          clear hin ht
          have HPL := Lib.hid (pushL_length out m (t - 1))
          rcases List.eq_nil_or_concat out with rfl | ⟨lo, r, rfl⟩
          · rw [pushL_nil] at HST HPL
            obtain ⟨av, cv, rfl⟩ := HO.out.shape
            go_wp2_with (first
              | (go_at_call 183; refine (HNM.out _ HO.out.frm).mono ?_; rintro e w' ⟨rfl, hw⟩; rw [hw]; clear hw w') | (go_at_call_of 184 aA; refine (HHA.out _ (HW3.out.then1 HO.out.frm)).mono ?_; rintro e w' ⟨rfl, hw⟩; rw [hw]; clear hw w') | (go_at_call_of 184 aB; refine (HHB.out _ (HW3.out.then1 HO.out.frm)).mono ?_; rintro e w' ⟨rfl, hw⟩; rw [hw]; clear hw w')
              | (at_builtin; go_loud (refine wpList_appO w3 _ [.int .i64 m, .int .i64 (t - 1)] rfl (.tmp 83) (.tmp 88) 124 rfl 183 i0 _ 2 16 Tryz.underlying124 hi hz0 hz1 hz2 (by decide) (by decide) _ _ _ HO.out 1 1 rfl rfl rfl (by simp [Value.oneCell']) (by simp [maxLen]) (by simp) ?_); intro ad cc w2 own2; have OW := Lib.hid own2; clear own2))
            go_roundw
            case rel => exact ⟨some t, [(m, t - 1)], OW.out, HST.out, by have := HLEN.out; have := HL2.out; simp at *; omega, rfl, rfl⟩
            case measure => exact HL2.out
          · rw [List.concat_eq_append] at *
            rw [pushL_snoc] at HST HPL
            have hln : (lo ++ [r]).length = lo.length + 1 := by simp
            have ho2 := HO.out
            have hlen := HLEN.out
            rw [hln] at ho2 hole hlen HPL
            clear HO HLEN
            have HLEN := Lib.hid hlen; clear hlen
            obtain ⟨g, c2, rfl, hg0, hg, hc2, hcell, hfro, hset⟩ := ho2.row (by simp)
            have cl := hcell _ _ (ruC_last lo r)
            have fl := hfro (lo.length * 2 + 1)
            have hs := hset (lo.length * 2 + 1) (.int .i64 (t - 1))
            rw [ruC_set_last] at hs
            have HO := Lib.hid ho2; clear ho2
            generalize hL : lo.length = L at *
            have HLN := Lib.hid hL; clear hL
            have HS := Lib.hid hs; clear hs
            clear hset hcell hfro hln
            have hwm : wrap64 (L : Int) = L := wrap_nat4 (Nat.le_of_succ_le (Nat.le_trans hole (by decide : 40000 ≤ 1000000)))
            have HOLE := Lib.hid hole; clear hole hc2
            by_cases he : r.2 = m - 1
            · rw [if_pos he] at HST HPL
              have he' : ((r.2 : Int) == m - 1) = true := by simp [he]
              have hw1 : wrap64 (m - 1) = m - 1 := wrap_m1 b1 b2
              have hw2 : wrap64 (t - 1) = t - 1 := wrap_m1 t1 t2
              clear he b1 b2 t1 t2
              go_wp2_with (first
                | (go_at_call 183; refine (HNM.out _ HO.out.frm).mono ?_; rintro e w' ⟨rfl, hw⟩; rw [hw]; clear hw w') | (go_at_call_of 184 aA; refine (HHA.out _ (HW3.out.then1 HO.out.frm)).mono ?_; rintro e w' ⟨rfl, hw⟩; rw [hw]; clear hw w') | (go_at_call_of 184 aB; refine (HHB.out _ (HW3.out.then1 HO.out.frm)).mono ?_; rintro e w' ⟨rfl, hw⟩; rw [hw]; clear hw w'))
              go_roundw
              case rel =>
                refine ⟨some t, lo ++ [(r.1, t - 1)], by rw [List.length_append, HLN.out]; exact HS.out, HST.out, ?_, rfl, rfl⟩
                have := HLEN.out
                have := HL2.out
                have := HLN.out
                rw [List.length_append]
                simp at *
                omega
              case measure => exact HL2.out
            · rw [if_neg he] at HST HPL
              have he' : ((r.2 : Int) == m - 1) = false := by simpa using he
              have hw1 : wrap64 (m - 1) = m - 1 := wrap_m1 b1 b2
              have hw2 : wrap64 (t - 1) = t - 1 := wrap_m1 t1 t2
              clear he b1 b2 t1 t2
              go_wp2_with (first
                | (go_at_call 183; refine (HNM.out _ HO.out.frm).mono ?_; rintro e w' ⟨rfl, hw⟩; rw [hw]; clear hw w') | (go_at_call_of 184 aA; refine (HHA.out _ (HW3.out.then1 HO.out.frm)).mono ?_; rintro e w' ⟨rfl, hw⟩; rw [hw]; clear hw w') | (go_at_call_of 184 aB; refine (HHB.out _ (HW3.out.then1 HO.out.frm)).mono ?_; rintro e w' ⟨rfl, hw⟩; rw [hw]; clear hw w')
                | (at_builtin; go_loud (refine wpList_appO w3 _ [.int .i64 m, .int .i64 (t - 1)] rfl (.tmp 83) (.tmp 88) 124 rfl 183 i0 _ 2 16 Tryz.underlying124 hi hz0 hz1 hz2 (by decide) (by decide) _ _ _ HO.out 1 1 rfl rfl rfl (by simp [Value.oneCell']) (by have := HOLE.out; simp only [maxLen]; omega) (by have := HOLE.out; omega) ?_); intro ad cc w2 own2; have OW := Lib.hid own2; clear own2))
              go_roundw
              case rel =>
                refine ⟨some t, lo ++ [r] ++ [(m, t - 1)], by rw [List.length_append, List.length_append, HLN.out, ruC_append]; exact OW.out, HST.out, ?_, rfl, rfl⟩
                have := HLEN.out
                have := HL2.out
                have := HLN.out
                simp at *
                omega
              case measure => exact HL2.out
        | true =>
          have hin : ByIn 0 (InR a m) (InR b m) := by
            have h1 := tf_iff.1 hp
            have h2 := tf_iff.1 hq
            unfold ByIn
            simp [h1, h2]
          have HHA := Lib.hid (fun w' h => HA.out w' m h)
          have HHB := Lib.hid (fun w' h => HB.out w' m h)
          rw [hp] at HHA
          rw [hq] at HHB
          clear hp hq
          obtain ⟨t, ht⟩ := byInv_some hin
          have hst := byInv_in HQ.out hin ht
          rw [HP.out] at ht
          have HST := Lib.hid hst; clear hst
          have hlm : ahead P (some t) < ahead P (some m) := ht ▸ HAH.out
          have HL2 := Lib.hid hlm; clear hlm
          obtain ⟨t1, t2⟩ := HBD.out t (nextL_some ht).1
          have HNM := Lib.hid (fun w' h => HNX.out w' m h)
          rw [ht] at HNM
          clear hin ht
          have HPL := Lib.hid (pushL_length out m (t - 1))
          rcases List.eq_nil_or_concat out with rfl | ⟨lo, r, rfl⟩
          · rw [pushL_nil] at HST HPL
            obtain ⟨av, cv, rfl⟩ := HO.out.shape
            go_wp2_with (first
              | (go_at_call 183; refine (HNM.out _ HO.out.frm).mono ?_; rintro e w' ⟨rfl, hw⟩; rw [hw]; clear hw w') | (go_at_call_of 184 aA; refine (HHA.out _ (HW3.out.then1 HO.out.frm)).mono ?_; rintro e w' ⟨rfl, hw⟩; rw [hw]; clear hw w') | (go_at_call_of 184 aB; refine (HHB.out _ (HW3.out.then1 HO.out.frm)).mono ?_; rintro e w' ⟨rfl, hw⟩; rw [hw]; clear hw w')
              | (at_builtin; go_loud (refine wpList_appO w3 _ [.int .i64 m, .int .i64 (t - 1)] rfl (.tmp 83) (.tmp 88) 124 rfl 183 i0 _ 2 16 Tryz.underlying124 hi hz0 hz1 hz2 (by decide) (by decide) _ _ _ HO.out 1 1 rfl rfl rfl (by simp [Value.oneCell']) (by simp [maxLen]) (by simp) ?_); intro ad cc w2 own2; have OW := Lib.hid own2; clear own2))
            go_roundw
            case rel => exact ⟨some t, [(m, t - 1)], OW.out, HST.out, by have := HLEN.out; have := HL2.out; simp at *; omega, rfl, rfl⟩
            case measure => exact HL2.out
          · rw [List.concat_eq_append] at *
            rw [pushL_snoc] at HST HPL
            have hln : (lo ++ [r]).length = lo.length + 1 := by simp
            have ho2 := HO.out
            have hlen := HLEN.out
            rw [hln] at ho2 hole hlen HPL
            clear HO HLEN
            have HLEN := Lib.hid hlen; clear hlen
            obtain ⟨g, c2, rfl, hg0, hg, hc2, hcell, hfro, hset⟩ := ho2.row (by simp)
            have cl := hcell _ _ (ruC_last lo r)
            have fl := hfro (lo.length * 2 + 1)
            have hs := hset (lo.length * 2 + 1) (.int .i64 (t - 1))
            rw [ruC_set_last] at hs
            have HO := Lib.hid ho2; clear ho2
            generalize hL : lo.length = L at *
            have HLN := Lib.hid hL; clear hL
            have HS := Lib.hid hs; clear hs
            clear hset hcell hfro hln
            have hwm : wrap64 (L : Int) = L := wrap_nat4 (Nat.le_of_succ_le (Nat.le_trans hole (by decide : 40000 ≤ 1000000)))
            have HOLE := Lib.hid hole; clear hole hc2
            by_cases he : r.2 = m - 1
            · rw [if_pos he] at HST HPL
              have he' : ((r.2 : Int) == m - 1) = true := by simp [he]
              have hw1 : wrap64 (m - 1) = m - 1 := wrap_m1 b1 b2
              have hw2 : wrap64 (t - 1) = t - 1 := wrap_m1 t1 t2
              clear he b1 b2 t1 t2
              go_wp2_with (first
                | (go_at_call 183; refine (HNM.out _ HO.out.frm).mono ?_; rintro e w' ⟨rfl, hw⟩; rw [hw]; clear hw w') | (go_at_call_of 184 aA; refine (HHA.out _ (HW3.out.then1 HO.out.frm)).mono ?_; rintro e w' ⟨rfl, hw⟩; rw [hw]; clear hw w') | (go_at_call_of 184 aB; refine (HHB.out _ (HW3.out.then1 HO.out.frm)).mono ?_; rintro e w' ⟨rfl, hw⟩; rw [hw]; clear hw w'))
              go_roundw
              case rel =>
                refine ⟨some t, lo ++ [(r.1, t - 1)], by rw [List.length_append, HLN.out]; exact HS.out, HST.out, ?_, rfl, rfl⟩
                have := HLEN.out
                have := HL2.out
                have := HLN.out
                rw [List.length_append]
                simp at *
                omega
              case measure => exact HL2.out
            · rw [if_neg he] at HST HPL
              have he' : ((r.2 : Int) == m - 1) = false := by simpa using he
              have hw1 : wrap64 (m - 1) = m - 1 := wrap_m1 b1 b2
              have hw2 : wrap64 (t - 1) = t - 1 := wrap_m1 t1 t2
              clear he b1 b2 t1 t2
              go_wp2_with (first
                | (go_at_call 183; refine (HNM.out _ HO.out.frm).mono ?_; rintro e w' ⟨rfl, hw⟩; rw [hw]; clear hw w') | (go_at_call_of 184 aA; refine (HHA.out _ (HW3.out.then1 HO.out.frm)).mono ?_; rintro e w' ⟨rfl, hw⟩; rw [hw]; clear hw w') | (go_at_call_of 184 aB; refine (HHB.out _ (HW3.out.then1 HO.out.frm)).mono ?_; rintro e w' ⟨rfl, hw⟩; rw [hw]; clear hw w')
                | (at_builtin; go_loud (refine wpList_appO w3 _ [.int .i64 m, .int .i64 (t - 1)] rfl (.tmp 83) (.tmp 88) 124 rfl 183 i0 _ 2 16 Tryz.underlying124 hi hz0 hz1 hz2 (by decide) (by decide) _ _ _ HO.out 1 1 rfl rfl rfl (by simp [Value.oneCell']) (by have := HOLE.out; simp only [maxLen]; omega) (by have := HOLE.out; omega) ?_); intro ad cc w2 own2; have OW := Lib.hid own2; clear own2))
              go_roundw
              case rel =>
                refine ⟨some t, lo ++ [r] ++ [(m, t - 1)], by rw [List.length_append, List.length_append, HLN.out, ruC_append]; exact OW.out, HST.out, ?_, rfl, rfl⟩
                have := HLEN.out
                have := HL2.out
                have := HLN.out
                simp at *
                omega
              case measure => exact HL2.out
set_option maxHeartbeats 1000000 in
set_option maxRecDepth 1000000 in
theorem r6By_minus : R6ByC 2 := by
  intro w va vb a b ha hb ra rb la lb
  obtain ⟨i0, hi, hz0, hz1, hz2⟩ := info_parts info_run
  obtain ⟨j0, hj, hy0, hy1, hy2⟩ := info_parts info_i64
  obtain ⟨aA, cA, rfl⟩ := ha.sl
  obtain ⟨aB, cB, rfl⟩ := hb.sl
  have hl : (endsL a ++ endsL b).length ≤ 40000 := by rw [List.length_append, endsL_length, endsL_length]; omega
  have hbd : ∀ x ∈ (endsL a ++ endsL b), 1 ≤ x ∧ x ≤ 1099511627777 := fun x hx => (List.mem_append.1 hx).elim (endsL_bd ra x) (endsL_bd rb x)
  have HBD := Lib.hid hbd; clear hbd
  have HINI := Lib.hid (byInv_init 2 ra.1 rb.1)
  have HEA := Lib.hid (r6ends_any w _ a ha ra (by omega))
  have HEB := Lib.hid (fun w' h => r6ends_any w' _ b (Rd.keep0 hb h) rb (by omega))
  have HA := Lib.hid (fun w' x h => r6Has_any w' _ a x (Rd.keep0 ha h))
  have HB := Lib.hid (fun w' x h => r6Has_any w' _ b x (Rd.keep0 hb h))
  have ela : (endsL a).length ≤ 20000 := by rw [endsL_length]; omega
  have elb : (endsL b).length ≤ 20000 := by rw [endsL_length]; omega
  clear ha hb la lb
  go_enter Tryz.func160, Tryz.ntmps160
  go_wp2_with (first
    | (go_at_call_of 182 aA; refine HEA.out.mono ?_; rintro e w1 ⟨v1, rfl, ho1⟩; obtain ⟨a1, c1, rfl⟩ := ho1.shape; have HO1 := Lib.hid ho1; clear ho1)
    | (go_at_call_of 182 aB; refine (HEB.out w1 HO1.out.frm).mono ?_; rintro e w2 ⟨v2, rfl, ho2⟩; obtain ⟨a2, c2, rfl⟩ := ho2.shape; have HO2 := Lib.hid ho2; clear ho2)
    | (at_builtin; go_loud (refine wpList_appR w _ _ rfl (.tmp 17) (.tmp 19) 216 216 rfl 2 2 j0 _ 1 8 Tryz.underlying216 Tryz.underlying216 hj hy0 hy1 hy2 (by decide) (by decide) _ _ _ (HO1.out.keep HO2.out.frm) _ (endsL b).length rfl rfl HO2.out.rd (by simp) (inV_oneCell _) (by simp only [maxLen]; omega) (by omega) ?_); intro a3 c3 w3 own3; have HO3 := Lib.hid own3; clear own3))
  have HW3 := Lib.hid HO3.out.frm
  have HNX := Lib.hid (fun w' x (h : Frm NoS w3 w') => r6next_any w' _ (endsL a ++ endsL b) x (by have := (HO3.out.keep h).rd; rw [← inV_append, ← List.length_append] at this; exact this))
  clear HO1 HO2 HO3 HEA HEB
  rw [← List.length_append]
  have elp : (endsL a ++ endsL b).length = (endsL a).length + (endsL b).length := List.length_append
  generalize hP : (endsL a ++ endsL b) = P at *
  have HP := Lib.hid hP; clear hP
  clear ela elb elp
  refine (HNX.out w3 0 (Frm.refl _ _)).mono ?_
  rintro e w' ⟨rfl, hw⟩
  rw [hw]
  clear hw w'
  go_wp2
  go_loopw [8, 9, 10] (fun v x o ww => ∃ (q : Option Int) (out : RunL), OwnAt w3 ww 183 2 v out.length (ruC out) ∧ ByInv a b 2 out q ∧ out.length + ahead P q ≤ P.length ∧ x = .int .i64 (q.getD 0) ∧ o = .bool q.isSome) (fun _ x o _ => aheadV P x o)
  case atStart => exact ⟨nextL P 0, [], OwnAt.nil (Frm.refl _ _) _ _, HINI.out, by have := ahead_le P (nextL P 0); simpa using this, rfl, rfl⟩
  case round =>
    obtain ⟨q, out, ho, hq, hlen, rfl, rfl⟩ := hrel
    have HQ := Lib.hid hq; clear hq
    have HO := Lib.hid ho; clear ho
    cases q with
    | none =>
      have HLEN := Lib.hid hlen; clear hlen
      have HL := Lib.hid hl; clear hl
      obtain ⟨av, cv, rfl⟩ := HO.out.shape
      go_wp2
      go_ret
      exact ⟨_, out, rfl, HO.out.base HW3.out, HQ.out, Nat.le_trans (Nat.le_trans (Nat.le_add_right _ _) HLEN.out) HL.out⟩
    | some m =>
      obtain ⟨m1, m2, m3, m4⟩ := HQ.out.some_ m rfl
      rw [HP.out] at m2
      obtain ⟨b1, b2⟩ := HBD.out m m2
      have hah := ahead_lt m2
      have HAH := Lib.hid hah; clear hah
      have hole : out.length + 1 ≤ 40000 := by
        have : 0 < ahead P (some m) := List.length_pos_of_mem (List.mem_filter.2 ⟨m2, by simp⟩)
        omega
      have HLEN := Lib.hid hlen
      have HM3 := Lib.hid m3; clear m3
      clear m4 m1 hlen m2
      cases hp : tf (InR a m) with
      | false =>
        cases hq : tf (InR b m) with
        | false =>
          have hin : ¬ ByIn 2 (InR a m) (InR b m) := by
            have h1 := tf_not.1 hp
            have h2 := tf_not.1 hq
            unfold ByIn
            simp [h1, h2]
          have HHA := Lib.hid (fun w' h => HA.out w' m h)
          have HHB := Lib.hid (fun w' h => HB.out w' m h)
          rw [hp] at HHA
          rw [hq] at HHB
          clear hp hq
          have HST := Lib.hid (HP.out ▸ byInv_out HQ.out hin)
          have HNM := Lib.hid (fun w' h => HNX.out w' m h)
          have hlm : ahead P (nextL P m) < ahead P (some m) := HAH.out
          generalize hnx : nextL P m = nx at *
          have HL2 := Lib.hid hlm; clear hlm
          clear hin
          obtain ⟨av, cv, rfl⟩ := HO.out.shape
          go_wp2_with (first
            | (go_at_call 183; refine (HNM.out _ HO.out.frm).mono ?_; rintro e w' ⟨rfl, hw⟩; rw [hw]; clear hw w')
            | (go_at_call_of 184 aA; refine (HHA.out _ (HW3.out.then1 HO.out.frm)).mono ?_; rintro e w' ⟨rfl, hw⟩; rw [hw]; clear hw w')
            | (go_at_call_of 184 aB; refine (HHB.out _ (HW3.out.then1 HO.out.frm)).mono ?_; rintro e w' ⟨rfl, hw⟩; rw [hw]; clear hw w'))
          go_roundw
          case rel =>
            refine ⟨nx, out, HO.out, HST.out, ?_, rfl, rfl⟩
            have := HLEN.out
            have := HL2.out
            omega
          case measure =>
            have := HL2.out
            cases nx with
            | none => exact this
            | some t => exact this
        | true =>
          have hin : ¬ ByIn 2 (InR a m) (InR b m) := by
            have h1 := tf_not.1 hp
            have h2 := tf_iff.1 hq
            unfold ByIn
            simp [h1, h2]
          have HHA := Lib.hid (fun w' h => HA.out w' m h)
          have HHB := Lib.hid (fun w' h => HB.out w' m h)
          rw [hp] at HHA
          rw [hq] at HHB
          clear hp hq
          have HST := Lib.hid (HP.out ▸ byInv_out HQ.out hin)
          have HNM := Lib.hid (fun w' h => HNX.out w' m h)
          have hlm : ahead P (nextL P m) < ahead P (some m) := HAH.out
          generalize hnx : nextL P m = nx at *
          have HL2 := Lib.hid hlm; clear hlm
          clear hin
          obtain ⟨av, cv, rfl⟩ := HO.out.shape
          go_wp2_with (first
            | (go_at_call 183; refine (HNM.out _ HO.out.frm).mono ?_; rintro e w' ⟨rfl, hw⟩; rw [hw]; clear hw w')
            | (go_at_call_of 184 aA; refine (HHA.out _ (HW3.out.then1 HO.out.frm)).mono ?_; rintro e w' ⟨rfl, hw⟩; rw [hw]; clear hw w')
            | (go_at_call_of 184 aB; refine (HHB.out _ (HW3.out.then1 HO.out.frm)).mono ?_; rintro e w' ⟨rfl, hw⟩; rw [hw]; clear hw w'))
          go_roundw
          case rel =>
            refine ⟨nx, out, HO.out, HST.out, ?_, rfl, rfl⟩
            have := HLEN.out
            have := HL2.out
            omega
          case measure =>
            have := HL2.out
            cases nx with
            | none => exact this
            | some t => exact this
      | true =>
        cases hq : tf (InR b m) with
        | false =>
          have hin : ByIn 2 (InR a m) (InR b m) := by
            have h1 := tf_iff.1 hp
            have h2 := tf_not.1 hq
            unfold ByIn
            simp [h1, h2]
          have HHA := Lib.hid (fun w' h => HA.out w' m h)
          have HHB := Lib.hid (fun w' h => HB.out w' m h)
          rw [hp] at HHA
          rw [hq] at HHB
          clear hp hq
          obtain ⟨t, ht⟩ := byInv_some hin
          have hst := byInv_in HQ.out hin ht
          rw [HP.out] at ht
          have HST := Lib.hid hst; clear hst
          have hlm : ahead P (some t) < ahead P (some m) := ht ▸ HAH.out
          have HL2 := Lib.hid hlm; clear hlm
          obtain ⟨t1, t2⟩ := HBD.out t (nextL_some ht).1
          have HNM := Lib.hid (fun w' h => HNX.out w' m h)
          rw [ht] at HNM
          clear hin ht
          have HPL := Lib.hid (pushL_length out m (t - 1))
          rcases List.eq_nil_or_concat out with rfl | ⟨lo, r, rfl⟩
          · rw [pushL_nil] at HST HPL
            obtain ⟨av, cv, rfl⟩ := HO.out.shape
            go_wp2_with (first
              | (go_at_call 183; refine (HNM.out _ HO.out.frm).mono ?_; rintro e w' ⟨rfl, hw⟩; rw [hw]; clear hw w') | (go_at_call_of 184 aA; refine (HHA.out _ (HW3.out.then1 HO.out.frm)).mono ?_; rintro e w' ⟨rfl, hw⟩; rw [hw]; clear hw w') | (go_at_call_of 184 aB; refine (HHB.out _ (HW3.out.then1 HO.out.frm)).mono ?_; rintro e w' ⟨rfl, hw⟩; rw [hw]; clear hw w')
              | (at_builtin; go_loud (refine wpList_appO w3 _ [.int .i64 m, .int .i64 (t - 1)] rfl (.tmp 83) (.tmp 88) 124 rfl 183 i0 _ 2 16 Tryz.underlying124 hi hz0 hz1 hz2 (by decide) (by decide) _ _ _ HO.out 1 1 rfl rfl rfl (by simp [Value.oneCell']) (by simp [maxLen]) (by simp) ?_); intro ad cc w2 own2; have OW := Lib.hid own2; clear own2))
            go_roundw
            case rel => exact ⟨some t, [(m, t - 1)], OW.out, HST.out, by have := HLEN.out; have := HL2.out; simp at *; omega, rfl, rfl⟩
            case measure => exact HL2.out
          · rw [List.concat_eq_append] at *
            rw [pushL_snoc] at HST HPL
            have hln : (lo ++ [r]).length = lo.length + 1 := by simp
            have ho2 := HO.out
            have hlen := HLEN.out
            rw [hln] at ho2 hole hlen HPL
            clear HO HLEN
            have HLEN := Lib.hid hlen; clear hlen
            obtain ⟨g, c2, rfl, hg0, hg, hc2, hcell, hfro, hset⟩ := ho2.row (by simp)
            have cl := hcell _ _ (ruC_last lo r)
            have fl := hfro (lo.length * 2 + 1)
            have hs := hset (lo.length * 2 + 1) (.int .i64 (t - 1))
            rw [ruC_set_last] at hs
            have HO := Lib.hid ho2; clear ho2
            generalize hL : lo.length = L at *
            have HLN := Lib.hid hL; clear hL
            have HS := Lib.hid hs; clear hs
            clear hset hcell hfro hln
            have hwm : wrap64 (L : Int) = L := wrap_nat4 (Nat.le_of_succ_le (Nat.le_trans hole (by decide : 40000 ≤ 1000000)))
            have HOLE := Lib.hid hole; clear hole hc2
            by_cases he : r.2 = m - 1
            · rw [if_pos he] at HST HPL
              have he' : ((r.2 : Int) == m - 1) = true := by simp [he]
              have hw1 : wrap64 (m - 1) = m - 1 := wrap_m1 b1 b2
              have hw2 : wrap64 (t - 1) = t - 1 := wrap_m1 t1 t2
              clear he b1 b2 t1 t2
              go_wp2_with (first
                | (go_at_call 183; refine (HNM.out _ HO.out.frm).mono ?_; rintro e w' ⟨rfl, hw⟩; rw [hw]; clear hw w') | (go_at_call_of 184 aA; refine (HHA.out _ (HW3.out.then1 HO.out.frm)).mono ?_; rintro e w' ⟨rfl, hw⟩; rw [hw]; clear hw w') | (go_at_call_of 184 aB; refine (HHB.out _ (HW3.out.then1 HO.out.frm)).mono ?_; rintro e w' ⟨rfl, hw⟩; rw [hw]; clear hw w'))
              go_roundw
              case rel =>
                refine ⟨some t, lo ++ [(r.1, t - 1)], by rw [List.length_append, HLN.out]; exact HS.out, HST.out, ?_, rfl, rfl⟩
                have := HLEN.out
                have := HL2.out
                have := HLN.out
                rw [List.length_append]
                simp at *
                omega
              case measure => exact HL2.out
            · rw [if_neg he] at HST HPL
              have he' : ((r.2 : Int) == m - 1) = false := by simpa using he
              have hw1 : wrap64 (m - 1) = m - 1 := wrap_m1 b1 b2
              have hw2 : wrap64 (t - 1) = t - 1 := wrap_m1 t1 t2
              clear he b1 b2 t1 t2
              go_wp2_with (first
                | (go_at_call 183; refine (HNM.out _ HO.out.frm).mono ?_; rintro e w' ⟨rfl, hw⟩; rw [hw]; clear hw w') | (go_at_call_of 184 aA; refine (HHA.out _ (HW3.out.then1 HO.out.frm)).mono ?_; rintro e w' ⟨rfl, hw⟩; rw [hw]; clear hw w') | (go_at_call_of 184 aB; refine (HHB.out _ (HW3.out.then1 HO.out.frm)).mono ?_; rintro e w' ⟨rfl, hw⟩; rw [hw]; clear hw w')
                | (at_builtin; go_loud (refine wpList_appO w3 _ [.int .i64 m, .int .i64 (t - 1)] rfl (.tmp 83) (.tmp 88) 124 rfl 183 i0 _ 2 16 Tryz.underlying124 hi hz0 hz1 hz2 (by decide) (by decide) _ _ _ HO.out 1 1 rfl rfl rfl (by simp [Value.oneCell']) (by have := HOLE.out; simp only [maxLen]; omega) (by have := HOLE.out; omega) ?_); intro ad cc w2 own2; have OW := Lib.hid own2; clear own2))
              go_roundw
              case rel =>
                refine ⟨some t, lo ++ [r] ++ [(m, t - 1)], by rw [List.length_append, List.length_append, HLN.out, ruC_append]; exact OW.out, HST.out, ?_, rfl, rfl⟩
                have := HLEN.out
                have := HL2.out
                have := HLN.out
                simp at *
                omega
              case measure => exact HL2.out
        | true =>
          have hin : ¬ ByIn 2 (InR a m) (InR b m) := by
            have h1 := tf_iff.1 hp
            have h2 := tf_iff.1 hq
            unfold ByIn
            simp [h1, h2]
          have HHA := Lib.hid (fun w' h => HA.out w' m h)
          have HHB := Lib.hid (fun w' h => HB.out w' m h)
          rw [hp] at HHA
          rw [hq] at HHB
          clear hp hq
          have HST := Lib.hid (HP.out ▸ byInv_out HQ.out hin)
          have HNM := Lib.hid (fun w' h => HNX.out w' m h)
          have hlm : ahead P (nextL P m) < ahead P (some m) := HAH.out
          generalize hnx : nextL P m = nx at *
          have HL2 := Lib.hid hlm; clear hlm
          clear hin
          obtain ⟨av, cv, rfl⟩ := HO.out.shape
          go_wp2_with (first
            | (go_at_call 183; refine (HNM.out _ HO.out.frm).mono ?_; rintro e w' ⟨rfl, hw⟩; rw [hw]; clear hw w')
            | (go_at_call_of 184 aA; refine (HHA.out _ (HW3.out.then1 HO.out.frm)).mono ?_; rintro e w' ⟨rfl, hw⟩; rw [hw]; clear hw w')
            | (go_at_call_of 184 aB; refine (HHB.out _ (HW3.out.then1 HO.out.frm)).mono ?_; rintro e w' ⟨rfl, hw⟩; rw [hw]; clear hw w'))
          go_roundw
          case rel =>
            refine ⟨nx, out, HO.out, HST.out, ?_, rfl, rfl⟩
            have := HLEN.out
            have := HL2.out
            omega
          case measure =>
            have := HL2.out
            cases nx with
            | none => exact this
            | some t => exact this
end Go.Proofs.YtggfoihfenlckaaGreat
/- tributaryref07: Part, spans: the walks. -/
namespace Go.Proofs.YtggfoihfenlckaaGreat
open Go.RowKit
theorem info_span : (Tryz.prog.info? 122).map (fun i => (i.zero, i.size, i.bytes)) = some (some (.agg #[.int .i64 0, .int .i64 0, .int .i64 0]), 3, 24) := by kernel_rfl
theorem partL_take_succ {c : CtxL} {k : Nat} (d : Int) (hk : k < c.length) : partL (c.take (k + 1)) d = partL (c.take k) d ++ (if (c.getD k (0, 0, 0)).1 = d then [(c.getD k (0, 0, 0)).2] else []) := by
  rw [take_succ (0, 0, 0) hk, partL_append]
  congr 1
  split
  · rename_i h; subst h; rw [partL_cons_eq]; rfl
  · rename_i h; rw [partL_cons_ne _ _ h]; rfl
theorem partL_length_le (c : CtxL) (d : Int) : (partL c d).length ≤ c.length := by
  unfold partL; rw [List.length_map]; exact List.length_filter_le _ _
set_option maxHeartbeats 1000000 in
set_option maxRecDepth 1000000 in
theorem r7Part_any (w : World) (v : Value) (c : CtxL) (d : Int) (hv : CtxAt w v c) (hl : c.length ≤ 100000) :
    Calls Tryz.prog 68 #[v, .int .i64 d] w fun e w' => ∃ v', e = .returned v' ∧ OwnAt w w' 183 2 v' (partL c d).length (ruC (partL c d)) := by
  obtain ⟨i0, hi, hz0, hz1, hz2⟩ := info_parts info_run
  rcases Rd.shape hv with ⟨ad, rfl, h0⟩ | ⟨b, off, cc0, rfl, hmax⟩
  · obtain rfl : c = [] := List.eq_nil_of_length_eq_zero h0
    clear hv
    go_enter Tryz.func68, Tryz.ntmps68
    go_wp2
    go_loop [5, 9] (fun v i => v = .slice none 0 0 ∧ i = .int .i64 0) (fun _ _ => 0)
    case atStart => exact ⟨rfl, rfl⟩
    case round =>
      obtain ⟨rfl, rfl⟩ := hrel
      go_wp2
      go_ret
      exact ⟨_, rfl, OwnAt.nil (Frm.refl _ _) _ _⟩
  · have HH := Lib.hid hv; clear hv
    generalize hn : c.length = n at *
    have HN := Lib.hid hn; clear hn
    have HLL := Lib.hid hl; clear hl
    go_enter Tryz.func68, Tryz.ntmps68
    go_wp2
    go_loopw [5, 9] (fun v i ww => ∃ (k m : Nat), k ≤ n ∧ m ≤ k ∧ i = .int .i64 k ∧ m = (partL (c.take k) d).length ∧ OwnAt w ww 183 2 v m (ruC (partL (c.take k) d))) (fun _ i _ => n - (intOf i).toNat)
    case atStart => exact ⟨0, 0, Nat.zero_le _, Nat.le_refl _, rfl, rfl, OwnAt.nil (Frm.refl _ _) _ _⟩
    case round =>
      obtain ⟨k, m, hk, hmk, rfl, hm, ho⟩ := hrel
      obtain ⟨av, cv, rfl⟩ := ho.shape
      have HO := Lib.hid ho; clear ho
      have HM := Lib.hid hm; clear hm
      have HMK := Lib.hid hmk; clear hmk
      by_cases hlt : k < n
      · obtain ⟨p0, p1, p2⟩ := spn_at HH.out HN.out.symm k (by rw [HN.out]; exact hlt)
        have q0 := HO.out.frm.cell' p0 id
        have q1 := HO.out.frm.cell' p1 id
        have q2 := HO.out.frm.cell' p2 id
        have hbl := World.block_lt_of_cell? _ _ q1
        have hbl : b < wr.heap.size := hbl
        have hE := partL_take_succ (c := c) (k := k) d (by rw [HN.out]; exact hlt)
        generalize c.getD k (0, 0, 0) = s at *
        have P1 := Lib.hid p1; clear p1
        have P2 := Lib.hid p2; clear p2
        clear p0
        by_cases he : s.1 = d
        · rw [if_pos he] at hE
          have he' : ((s.1 : Int) == d) = true := by simp [he]
          have HE := Lib.hid hE; clear hE
          clear he
          go_wp2_with fail
          go_region_held3 (fun w' => w'.cell? ⟨b, off + k * 3 + 1, none⟩ = some (.int .i64 s.2.1) ∧ w'.cell? ⟨b, off + k * 3 + 2, none⟩ = some (.int .i64 s.2.2))
            (first | exact ⟨q1, q2⟩ | exact ⟨(Frm.alloc1 (Frm.drew NoS _)).cell' q1 id, (Frm.alloc1 (Frm.drew NoS _)).cell' q2 id⟩ | exact ⟨own2.frm.cell' P1.out id, own2.frm.cell' P2.out id⟩)
            (first | (refine step_appO w wr.drew [.int .i64 s.2.1, .int .i64 s.2.2] rfl (.tmp 19) (.tmp 31) 124 rfl 183 i0 _ 2 16 Tryz.underlying124 hi hz0 hz1 hz2 (by decide) (by decide) (.slice av m cv) m _ (HO.out.keep (Frm.drew _ _)) 1 1 (by simp [Act.eval]) (by simp [Act.eval]) rfl (by simp [Value.oneCell']) (by have := HLL.out; have := HMK.out; simp only [maxLen]; omega) (by have := HLL.out; have := HMK.out; omega) ?_; intro ad cc w2 own2))
          have OW := Lib.hid own2; clear own2
          go_wp2
          go_roundw
          case rel =>
            refine ⟨k + 1, m + 1, by omega, by have := HMK.out; omega, by go_num, by rw [HE.out, List.length_append, ← HM.out]; rfl, ?_⟩
            rw [HE.out, ruC_append]
            exact OW.out
          case measure => simp [intOf]; omega
        · rw [if_neg he, List.append_nil] at hE
          have he' : ((s.1 : Int) == d) = false := by simpa using he
          have HE := Lib.hid hE; clear hE
          clear he
          go_wp2
          go_roundw
          case rel => exact ⟨k + 1, m, by omega, by have := HMK.out; omega, by go_num, by rw [HE.out]; exact HM.out, by rw [HE.out]; exact HO.out⟩
          case measure => simp [intOf]; omega
      · obtain rfl : k = n := by omega
        go_wp2
        go_ret
        rw [List.take_of_length_le (by rw [HN.out]; exact Nat.le_refl _)] at HO HM
        exact ⟨_, rfl, by rw [← HM.out]; exact HO.out⟩
theorem spansL_take_succ {l : RunL} {k : Nat} (d : Int) (hk : k < l.length) : spansL d (l.take (k + 1)) = spansL d (l.take k) ++ [(d, (l.getD k (0, 0)).1, (l.getD k (0, 0)).2)] := by
  rw [take_succ (0, 0) hk]; simp [spansL]
set_option maxHeartbeats 1000000 in
set_option maxRecDepth 1000000 in
theorem r7spans_any (w : World) (v : Value) (l : RunL) (d : Int) (hv : RunAt w v l) (hl : l.length ≤ 100000) :
    Calls Tryz.prog 159 #[.int .i64 d, v] w fun e w' => ∃ v', e = .returned v' ∧ OwnAt w w' 122 3 v' l.length (spC (spansL d l)) := by
  obtain ⟨i0, hi, hz0, hz1, hz2⟩ := info_parts info_span
  rcases Rd.shape hv with ⟨ad, rfl, h0⟩ | ⟨b, off, cc0, rfl, hmax⟩
  · obtain rfl : l = [] := List.eq_nil_of_length_eq_zero h0
    clear hv
    go_enter Tryz.func159, Tryz.ntmps159
    go_wp2
    go_loop [5, 9] (fun v i => v = .slice none 0 0 ∧ i = .int .i64 0) (fun _ _ => 0)
    case atStart => exact ⟨rfl, rfl⟩
    case round =>
      obtain ⟨rfl, rfl⟩ := hrel
      go_wp2
      go_ret
      exact ⟨_, rfl, OwnAt.nil (Frm.refl _ _) _ _⟩
  · have HH := Lib.hid hv; clear hv
    generalize hn : l.length = n at *
    have HN := Lib.hid hn; clear hn
    have HLL := Lib.hid hl; clear hl
    go_enter Tryz.func159, Tryz.ntmps159
    go_wp2
    go_loopw [5, 9] (fun v i ww => ∃ (k : Nat), k ≤ n ∧ i = .int .i64 k ∧ OwnAt w ww 122 3 v k (spC (spansL d (l.take k)))) (fun _ i _ => n - (intOf i).toNat)
    case atStart => exact ⟨0, Nat.zero_le _, rfl, OwnAt.nil (Frm.refl _ _) _ _⟩
    case round =>
      obtain ⟨k, hk, rfl, ho⟩ := hrel
      obtain ⟨av, cv, rfl⟩ := ho.shape
      have HO := Lib.hid ho; clear ho
      by_cases hlt : k < n
      · obtain ⟨p1, p2⟩ := run_at HH.out HN.out.symm k (by rw [HN.out]; exact hlt)
        have q1 := HO.out.frm.cell' p1 id
        have q2 := HO.out.frm.cell' p2 id
        have hbl := World.block_lt_of_cell? _ _ q1
        have hbl : b < wr.heap.size := hbl
        have HE := Lib.hid (spansL_take_succ (l := l) (k := k) d (by rw [HN.out]; exact hlt))
        generalize l.getD k (0, 0) = s at *
        have P1 := Lib.hid p1; clear p1
        have P2 := Lib.hid p2; clear p2
        go_wp2_with fail
        go_region_held3 (fun w' => w'.cell? ⟨b, off + k * 2, none⟩ = some (.int .i64 s.1) ∧ w'.cell? ⟨b, off + k * 2 + 1, none⟩ = some (.int .i64 s.2))
          (first | exact ⟨q1, q2⟩ | exact ⟨(Frm.alloc1 (Frm.drew NoS _)).cell' q1 id, (Frm.alloc1 (Frm.drew NoS _)).cell' q2 id⟩ | exact ⟨own2.frm.cell' P1.out id, own2.frm.cell' P2.out id⟩)
          (first | (refine step_appO w wr.drew [.int .i64 d, .int .i64 s.1, .int .i64 s.2] rfl (.tmp 12) (.tmp 25) 31 rfl 122 i0 _ 3 24 Tryz.underlying31 hi hz0 hz1 hz2 (by decide) (by decide) (.slice av k cv) k _ (HO.out.keep (Frm.drew _ _)) 1 1 (by simp [Act.eval]) (by simp [Act.eval]) rfl (by simp [Value.oneCell']) (by have := HLL.out; simp only [maxLen]; omega) (by have := HLL.out; omega) ?_; intro ad cc w2 own2))
        have OW := Lib.hid own2; clear own2
        go_wp2
        go_roundw
        case rel =>
          refine ⟨k + 1, by omega, by go_num, ?_⟩
          rw [HE.out, spC_append]
          exact OW.out
        case measure => simp [intOf]; omega
      · obtain rfl : k = n := by omega
        go_wp2
        go_ret
        rw [List.take_of_length_le (by rw [HN.out]; exact Nat.le_refl _)] at HO
        exact ⟨_, rfl, HO.out⟩
end Go.Proofs.YtggfoihfenlckaaGreat
/- tributaryref07: By, Leq: the walks. -/
namespace Go.Proofs.YtggfoihfenlckaaGreat
open Go.RowKit
theorem dcFrom_append : ∀ {a b : CtxL} {lo k : Int}, DcFrom lo a → (∀ s ∈ a, s.1 ≤ k) → DcFrom k b → lo ≤ k → DcFrom lo (a ++ b)
  | [], _, _, _, _, _, hb, hl => hb.mono hl
  | s :: a, b, lo, k, ha, hk, hb, _ => ⟨ha.1, ha.2.1, dcFrom_append ha.2.2 (fun x hx => hk x (List.mem_cons_of_mem _ hx)) hb (hk s List.mem_cons_self)⟩
theorem partL_none {c : CtxL} {d : Int} (h : ∀ s ∈ c, s.1 ≠ d) : partL c d = [] := by
  unfold partL
  rw [List.filter_eq_nil_iff.2 (by intro s hs; simpa using h s hs)]
  rfl
/-- The centers below k are put together. -/
structure UpTo (R : Int → RunL → Prop) (k : Int) (c : CtxL) : Prop where
  rise : DcFrom 0 c
  below : ∀ s ∈ c, s.1 < k
  parts : ∀ d, 0 ≤ d → d < k → R d (partL c d)
theorem UpTo.zero (R : Int → RunL → Prop) : UpTo R 0 [] := ⟨trivial, (fun s hs => by cases hs), fun d h0 h1 => by omega⟩
theorem UpTo.step {R : Int → RunL → Prop} {k : Int} {c : CtxL} (h : UpTo R k c) (h0 : 0 ≤ k) (h4 : k < 4) {o : RunL} (ho : R k o) : UpTo R (k + 1) (c ++ spansL k o) := by
  have hs : DcFrom k (spansL k o) := by
    have := dcFrom_spans (lo := k) (d := k) (Int.le_refl _) h4 o (c := []) trivial
    rwa [List.append_nil] at this
  refine ⟨dcFrom_append h.rise (fun s hs => Int.le_of_lt (h.below s hs)) hs h0, fun s hs => ?_, fun d hd hdk => ?_⟩
  · rcases List.mem_append.1 hs with hs | hs
    · have := h.below s hs; omega
    · simp only [spansL, List.mem_map] at hs
      obtain ⟨r, _, rfl⟩ := hs
      show k < k + 1
      omega
  · rw [partL_append]
    by_cases he : d = k
    · subst he
      rw [partL_none (fun s hs => by have := h.below s hs; omega), partL_spans_eq]
      exact ho
    · rw [partL_spans_ne _ (fun e => he e.symm), List.append_nil]
      exact h.parts d hd (by omega)
def ByR (how : Int) (a b : CtxL) (d : Int) (o : RunL) : Prop := RightR o ∧ ∀ n, InR o n ↔ ByIn how (InC a d n) (InC b d n)
theorem UpTo.byC {how : Int} {a b c : CtxL} (h : UpTo (ByR how a b) 4 c) : ByC how a b c :=
  ⟨⟨h.rise, fun d h0 h4 => (h.parts d h0 h4).1⟩, fun d n h0 h4 => (h.parts d h0 h4).2 n⟩
theorem ByIn.or {how : Int} {p q : Prop} (h : ByIn how p q) : p ∨ q := by
  unfold ByIn at h
  split at h
  · exact .inl h.1
  · split at h
    · exact .inl h.1
    · exact h
theorem ByInv.byR {how : Int} {a b : CtxL} {d : Int} {o : RunL} (h : ByInv (partL a d) (partL b d) how o none) (ha : RightR (partL a d)) (hb : RightR (partL b d)) : ByR how a b d o :=
  ⟨RightR.of h.from_ (fun n hn => (ByIn.or ((h.none_ rfl n).1 hn)).elim (fun h => (ha.in_ h).2) fun h => (hb.in_ h).2), h.none_ rfl⟩
theorem spC_spans_len (d : Int) (l : RunL) : (spansL d l).length = l.length := by simp [spansL]
theorem upto_len {c : CtxL} {k j : Nat} {d : Int} {l : RunL} (h : c.length ≤ 40000 * k) (hk : k ≤ 4) (hl : l.length ≤ 40000) : (c ++ spansL d l).length ≤ 40000 * (k + 1) ∧ c.length + l.length ≤ 1000000 := by
  rw [List.length_append, spC_spans_len]; omega
/-- What By of contexts answers. -/
def R7ByC (how : Int) : Prop := ∀ (w : World) (va vb : Value) (a b : CtxL) (_ : CtxAt w va a) (_ : CtxAt w vb b) (_ : RightC a) (_ : RightC b) (_ : a.length ≤ 10000) (_ : b.length ≤ 10000),
    Calls Tryz.prog 123 #[va, vb, .int .i64 how] w fun e w' => ∃ v' c, e = .returned v' ∧ OwnAt w w' 122 3 v' c.length (spC c) ∧ ByC how a b c ∧ c.length ≤ 160000
set_option maxHeartbeats 1000000 in
set_option maxRecDepth 1000000 in
theorem r7By_any (how : Int) (HBY : R6ByC how) : R7ByC how := by
  intro w va vb a b ha hb ra rb la lb
  obtain ⟨i0, hi, hz0, hz1, hz2⟩ := info_parts info_span
  obtain ⟨aA, cA, rfl⟩ := ha.sl
  obtain ⟨aB, cB, rfl⟩ := hb.sl
  have RA := Lib.hid ra; clear ra
  have RB := Lib.hid rb; clear rb
  have HPA := Lib.hid (fun w' d h => r7Part_any w' _ a d (Rd.keep0 ha h) (by omega))
  have HPB := Lib.hid (fun w' d h => r7Part_any w' _ b d (Rd.keep0 hb h) (by omega))
  have LA := Lib.hid (fun d => Nat.le_trans (partL_length_le a d) la)
  have LB := Lib.hid (fun d => Nat.le_trans (partL_length_le b d) lb)
  have HBY := Lib.hid HBY
  clear ha hb la lb
  go_enter Tryz.func123, Tryz.ntmps123
  go_wp2
  go_loopw [7, 9] (fun v i ww => ∃ (k : Nat) (c : CtxL), k ≤ 4 ∧ i = .int .i64 k ∧ OwnAt w ww 122 3 v c.length (spC c) ∧ UpTo (ByR how a b) k c ∧ c.length ≤ 40000 * k) (fun _ i _ => 4 - (intOf i).toNat)
  case atStart => exact ⟨0, [], by omega, rfl, OwnAt.nil (Frm.refl _ _) _ _, UpTo.zero _, Nat.zero_le _⟩
  case round =>
    obtain ⟨k, c, hk, rfl, ho, hu, hlen⟩ := hrel
    obtain ⟨av, cv, rfl⟩ := ho.shape
    have HO := Lib.hid ho; clear ho
    have HU := Lib.hid hu; clear hu
    have HLEN := Lib.hid hlen; clear hlen
    by_cases hlt : k < 4
    · have hra := Lib.hid (RA.out.2 (k : Int) (by omega) (by omega))
      have hrb := Lib.hid (RB.out.2 (k : Int) (by omega) (by omega))
      go_wp2_with (first
        | (go_at_call_of 68 aA; refine (HPA.out _ k HO.out.frm).mono ?_; rintro e w1 ⟨v1, rfl, ho1⟩; obtain ⟨a1, c1, rfl⟩ := ho1.shape; have HO1 := Lib.hid ho1; clear ho1)
        | (go_at_call_of 68 aB; refine (HPB.out _ k (HO.out.frm.then1 HO1.out.frm)).mono ?_; rintro e w2 ⟨v2, rfl, ho2⟩; obtain ⟨a2, c2, rfl⟩ := ho2.shape; have HO2 := Lib.hid ho2; clear ho2)
        | (go_at_call 160; refine (HBY.out _ _ _ _ _ (HO1.out.rd.keep0 HO2.out.frm) HO2.out.rd hra.out hrb.out (LA.out k) (LB.out k)).mono ?_; rintro e w3 ⟨v3, o, rfl, ho3, hby, hol⟩; obtain ⟨a3, c3, rfl⟩ := ho3.shape; have HO3 := Lib.hid ho3; clear ho3; have HB3 := Lib.hid hby; clear hby; have HOL := Lib.hid hol; clear hol)
        | (go_at_call 159; refine (r7spans_any _ _ o k HO3.out.rd (Nat.le_trans HOL.out (by decide))).mono ?_; rintro e w4 ⟨v4, rfl, ho4⟩; obtain ⟨a4, c4, rfl⟩ := ho4.shape; have HO4 := Lib.hid ho4; clear ho4; have HKK := Lib.hid (HO.out.keep (HO1.out.frm.then1 (HO2.out.frm.then1 (HO3.out.frm.then1 HO4.out.frm)))))
        | (at_builtin; go_loud (refine wpList_appR w _ _ rfl (.tmp 12) (.tmp 22) 31 31 rfl 122 122 i0 _ 3 24 Tryz.underlying31 Tryz.underlying31 hi hz0 hz1 hz2 (by decide) (by decide) _ _ _ HKK.out _ o.length rfl rfl HO4.out.rd (by rw [spC_length, spC_spans_len]) (spC_oneCell _) (by have := (upto_len (j := 0) (d := k) HLEN.out (Nat.le_of_lt hlt) HOL.out).2; simp only [maxLen]; omega) (by have := (upto_len (j := 0) (d := k) HLEN.out (Nat.le_of_lt hlt) HOL.out).2; omega) ?_); intro ad cc w5 own5; have OW := Lib.hid own5; clear own5))
      go_roundw
      case rel =>
        refine ⟨k + 1, c ++ spansL k o, by omega, by go_num, ?_, ?_, (upto_len (j := 0) HLEN.out (Nat.le_of_lt hlt) HOL.out).1⟩
        · rw [List.length_append, spC_spans_len, spC_append]; exact OW.out
        · have := HU.out.step (by omega) (by omega) (HB3.out.byR hra.out hrb.out)
          exact this
      case measure => simp [intOf]; omega
    · obtain rfl : k = 4 := by omega
      go_wp2
      go_ret
      exact ⟨_, c, rfl, HO.out, HU.out.byC, HLEN.out⟩
theorem r7By_minus : R7ByC 2 := r7By_any 2 r6By_minus
set_option maxRecDepth 1000000 in
theorem r7Leq_any (w : World) (va vb : Value) (a b : CtxL) (ha : CtxAt w va a) (hb : CtxAt w vb b) (ra : RightC a) (rb : RightC b) (la : a.length ≤ 10000) (lb : b.length ≤ 10000) :
    Calls Tryz.prog 70 #[va, vb] w fun e w' => e = .returned (.bool (tf (LeqC a b))) ∧ Frm NoS w w' := by
  have HC := Lib.hid (r7By_minus w va vb a b ha hb ra rb la lb)
  clear ha hb ra rb la lb
  go_enter Tryz.func70, Tryz.ntmps70
  go_wp2_with (go_at_call 123; refine HC.out.mono ?_; rintro e w1 ⟨v1, c, rfl, ho1, hby, hol⟩; obtain ⟨a1, c1, rfl⟩ := ho1.shape; have HO1 := Lib.hid ho1; clear ho1; have HB := Lib.hid hby; clear hby; clear hol)
  go_ret
  refine ⟨ret_bool ?_, HO1.out.frm⟩
  refine tf_bool ?_
  rw [← HB.out.minus_nil]
  simp
end Go.Proofs.YtggfoihfenlckaaGreat