/- Words for the law BundleGets: R6By. -/
import Derived.Test.YtafdclkpeomomaaGreatBundleGetsG3
set_option linter.unusedSimpArgs false
set_option linter.unusedVariables false
/- tributaryref06: By: the walk (printed by wip/r6bygen.py). -/
namespace Go.Proofs.YtafdclkpeomomaaGreat
open Go.RowKit

theorem OwnAt.base {w0 w1 w : World} {e : TypeId} {size : Nat} {v : Value} {n : Nat} {xs : List Value} (h : OwnAt w1 w e size v n xs) (f : Frm NoS w0 w1) : OwnAt w0 w e size v n xs :=
  ⟨h.own, (fun k hk => Nat.le_trans f.size (h.new k hk)), f.then1 h.frm⟩
def ByRel (w : World) (a b : RunL) (how : Int) (v x o : Value) (ww : World) : Prop :=
  ∃ (q : Option Int) (out : RunL), OwnAt w ww 176 2 v out.length (ruC out) ∧ ByInv a b how out q ∧ out.length + ahead (endsL a ++ endsL b) q ≤ (endsL a ++ endsL b).length ∧ x = .int .i64 (q.getD 0) ∧ o = .bool q.isSome
/-- What By answers. -/
def R6ByC (how : Int) : Prop := ∀ (w : World) (va vb : Value) (a b : RunL) (_ : RunAt w va a) (_ : RunAt w vb b) (_ : RightR a) (_ : RightR b) (_ : a.length ≤ 10000) (_ : b.length ≤ 10000),
    Calls Tryz.prog 126 #[va, vb, .int .i64 how] w fun e w' => ∃ v' out, e = .returned v' ∧ OwnAt w w' 176 2 v' out.length (ruC out) ∧ ByInv a b how out none ∧ out.length ≤ 40000
theorem wrap_nat4 {n : Nat} (h : n + 1 ≤ 1000000) : wrap64 (n : Int) = n := by unfold wrap64; omega
theorem wrap_m1 {m : Int} (h1 : 1 ≤ m) (h2 : m ≤ 1099511627777) : wrap64 (m - 1) = m - 1 := by unfold wrap64; omega
theorem endsL_bd {l : RunL} (h : RightR l) : ∀ x ∈ endsL l, 1 ≤ x ∧ x ≤ 1099511627777 := by
  intro x hx
  obtain ⟨r, hr, h1⟩ := endsL_mem.1 hx
  have := runsFrom_ge h.1 r hr
  have := h.2 r hr
  omega
theorem ahead_step {l : List Int} {m : Int} {q : Option Int} {n n' : Nat} (h : ahead l (nextL l m) < ahead l (some m)) (hq : nextL l m = q) (h1 : n + ahead l (some m) ≤ l.length) (h2 : n' ≤ n + 1) : n' + ahead l q ≤ l.length := by
  subst hq; omega

set_option maxHeartbeats 1000000 in
set_option maxRecDepth 1000000 in
theorem r6By_union : R6ByC 0 := by
  intro w va vb a b ha hb ra rb la lb
  obtain ⟨i0, hi, hz0, hz1, hz2⟩ := info_parts info_run
  obtain ⟨j0, hj, hy0, hy1, hy2⟩ := info_parts info_i64
  obtain ⟨aA, cA, rfl⟩ := ha.sl
  obtain ⟨aB, cB, rfl⟩ := hb.sl
  have hl : (endsL a ++ endsL b).length ≤ 40000 := by rw [List.length_append, endsL_length, endsL_length]; omega
  have hbd : ∀ x ∈ (endsL a ++ endsL b), 1 ≤ x ∧ x ≤ 1099511627777 := fun x hx => (List.mem_append.1 hx).elim (endsL_bd ra x) (endsL_bd rb x)
  have HBD := Lib.hid hbd; clear hbd
  have HINI := Lib.hid (byInv_init 0 ra.1 rb.1)
  have HEA := Lib.hid (r6ends_any w _ a ha ra (by omega))
  have HEB := Lib.hid (fun w' h => r6ends_any w' _ b (Rd.keep0 hb h) rb (by omega))
  have HA := Lib.hid (fun w' x h => r6Has_any w' _ a x (Rd.keep0 ha h))
  have HB := Lib.hid (fun w' x h => r6Has_any w' _ b x (Rd.keep0 hb h))
  have ela : (endsL a).length ≤ 20000 := by rw [endsL_length]; omega
  have elb : (endsL b).length ≤ 20000 := by rw [endsL_length]; omega
  clear ha hb la lb
  go_enter Tryz.func126, Tryz.ntmps126
  go_wp2_with (first
    | (go_at_call_of 151 aA; refine HEA.out.mono ?_; rintro e w1 ⟨v1, rfl, ho1⟩; obtain ⟨a1, c1, rfl⟩ := ho1.shape; have HO1 := Lib.hid ho1; clear ho1)
    | (go_at_call_of 151 aB; refine (HEB.out w1 HO1.out.frm).mono ?_; rintro e w2 ⟨v2, rfl, ho2⟩; obtain ⟨a2, c2, rfl⟩ := ho2.shape; have HO2 := Lib.hid ho2; clear ho2)
    | (at_builtin; go_loud (refine wpList_appR w _ _ rfl (.tmp 17) (.tmp 19) 192 192 rfl 2 2 j0 _ 1 8 Tryz.underlying192 Tryz.underlying192 hj hy0 hy1 hy2 (by decide) (by decide) _ _ _ (HO1.out.keep HO2.out.frm) _ (endsL b).length rfl rfl HO2.out.rd (by simp) (inV_oneCell _) (by simp only [maxLen]; omega) (by omega) ?_); intro a3 c3 w3 own3; have HO3 := Lib.hid own3; clear own3))
  have HW3 := Lib.hid HO3.out.frm
  have HNX := Lib.hid (fun w' x (h : Frm NoS w3 w') => r6next_any w' _ (endsL a ++ endsL b) x (by have := (HO3.out.keep h).rd; rw [← inV_append, ← List.length_append] at this; exact this))
  clear HO1 HO2 HO3 HEA HEB
  rw [← List.length_append]
  have elp : (endsL a ++ endsL b).length = (endsL a).length + (endsL b).length := List.length_append
  generalize hP : (endsL a ++ endsL b) = P at *
  have HP := Lib.hid hP; clear hP
  clear ela elb elp
  refine (HNX.out w3 0 (Frm.refl _ _)).mono ?_
  rintro e w' ⟨rfl, hw⟩
  rw [hw]
  clear hw w'
  go_wp2
  go_loopw [8, 9, 10] (fun v x o ww => ∃ (q : Option Int) (out : RunL), OwnAt w3 ww 176 2 v out.length (ruC out) ∧ ByInv a b 0 out q ∧ out.length + ahead P q ≤ P.length ∧ x = .int .i64 (q.getD 0) ∧ o = .bool q.isSome) (fun _ x o _ => aheadV P x o)
  case atStart => exact ⟨nextL P 0, [], OwnAt.nil (Frm.refl _ _) _ _, HINI.out, by have := ahead_le P (nextL P 0); simpa using this, rfl, rfl⟩
  case round =>
    obtain ⟨q, out, ho, hq, hlen, rfl, rfl⟩ := hrel
    have HQ := Lib.hid hq; clear hq
    have HO := Lib.hid ho; clear ho
    cases q with
    | none =>
      have HLEN := Lib.hid hlen; clear hlen
      have HL := Lib.hid hl; clear hl
      obtain ⟨av, cv, rfl⟩ := HO.out.shape
      go_wp2
      go_ret
      exact ⟨_, out, rfl, HO.out.base HW3.out, HQ.out, Nat.le_trans (Nat.le_trans (Nat.le_add_right _ _) HLEN.out) HL.out⟩
    | some m =>
      obtain ⟨m1, m2, m3, m4⟩ := HQ.out.some_ m rfl
      rw [HP.out] at m2
      obtain ⟨b1, b2⟩ := HBD.out m m2
      have hah := ahead_lt m2
      have HAH := Lib.hid hah; clear hah
      have hole : out.length + 1 ≤ 40000 := by
        have : 0 < ahead P (some m) := List.length_pos_of_mem (List.mem_filter.2 ⟨m2, by simp⟩)
        omega
      have HLEN := Lib.hid hlen
      have HM3 := Lib.hid m3; clear m3
      clear m4 m1 hlen m2
      cases hp : tf (InR a m) with
      | false =>
        cases hq : tf (InR b m) with
        | false =>
          have hin : ¬ ByIn 0 (InR a m) (InR b m) := by
            have h1 := tf_not.1 hp
            have h2 := tf_not.1 hq
            unfold ByIn
            simp [h1, h2]
          have HHA := Lib.hid (fun w' h => HA.out w' m h)
          have HHB := Lib.hid (fun w' h => HB.out w' m h)
          rw [hp] at HHA
          rw [hq] at HHB
          clear hp hq
          have HST := Lib.hid (HP.out ▸ byInv_out HQ.out hin)
          have HNM := Lib.hid (fun w' h => HNX.out w' m h)
          have hlm : ahead P (nextL P m) < ahead P (some m) := HAH.out
          generalize hnx : nextL P m = nx at *
          have HL2 := Lib.hid hlm; clear hlm
          clear hin
          obtain ⟨av, cv, rfl⟩ := HO.out.shape
          go_wp2_with (first
            | (go_at_call 152; refine (HNM.out _ HO.out.frm).mono ?_; rintro e w' ⟨rfl, hw⟩; rw [hw]; clear hw w')
            | (go_at_call_of 153 aA; refine (HHA.out _ (HW3.out.then1 HO.out.frm)).mono ?_; rintro e w' ⟨rfl, hw⟩; rw [hw]; clear hw w')
            | (go_at_call_of 153 aB; refine (HHB.out _ (HW3.out.then1 HO.out.frm)).mono ?_; rintro e w' ⟨rfl, hw⟩; rw [hw]; clear hw w'))
          go_roundw
          case rel =>
            refine ⟨nx, out, HO.out, HST.out, ?_, rfl, rfl⟩
            have := HLEN.out
            have := HL2.out
            omega
          case measure =>
            have := HL2.out
            cases nx with
            | none => exact this
            | some t => exact this
        | true =>
          have hin : ByIn 0 (InR a m) (InR b m) := by
            have h1 := tf_not.1 hp
            have h2 := tf_iff.1 hq
            unfold ByIn
            simp [h1, h2]
          have HHA := Lib.hid (fun w' h => HA.out w' m h)
          have HHB := Lib.hid (fun w' h => HB.out w' m h)
          rw [hp] at HHA
          rw [hq] at HHB
          clear hp hq
          obtain ⟨t, ht⟩ := byInv_some hin
          have hst := byInv_in HQ.out hin ht
          rw [HP.out] at ht
          have HST := Lib.hid hst; clear hst
          have hlm : ahead P (some t) < ahead P (some m) := ht ▸ HAH.out
          have HL2 := Lib.hid hlm; clear hlm
          obtain ⟨t1, t2⟩ := HBD.out t (nextL_some ht).1
          have HNM := Lib.hid (fun w' h => HNX.out w' m h)
          rw [ht] at HNM
          clear hin ht
          have HPL := Lib.hid (pushL_length out m (t - 1))
          rcases List.eq_nil_or_concat out with rfl | ⟨lo, r, rfl⟩
          · rw [pushL_nil] at HST HPL
            obtain ⟨av, cv, rfl⟩ := HO.out.shape
            go_wp2_with (first
              | (go_at_call 152; refine (HNM.out _ HO.out.frm).mono ?_; rintro e w' ⟨rfl, hw⟩; rw [hw]; clear hw w') | (go_at_call_of 153 aA; refine (HHA.out _ (HW3.out.then1 HO.out.frm)).mono ?_; rintro e w' ⟨rfl, hw⟩; rw [hw]; clear hw w') | (go_at_call_of 153 aB; refine (HHB.out _ (HW3.out.then1 HO.out.frm)).mono ?_; rintro e w' ⟨rfl, hw⟩; rw [hw]; clear hw w')
              | (at_builtin; go_loud (refine wpList_appO w3 _ [.int .i64 m, .int .i64 (t - 1)] rfl (.tmp 83) (.tmp 88) 126 rfl 176 i0 _ 2 16 Tryz.underlying126 hi hz0 hz1 hz2 (by decide) (by decide) _ _ _ HO.out 1 1 rfl rfl rfl (by simp [Value.oneCell']) (by simp [maxLen]) (by simp) ?_); intro ad cc w2 own2; have OW := Lib.hid own2; clear own2))
            go_roundw
            case rel => exact ⟨some t, [(m, t - 1)], OW.out, HST.out, by have := HLEN.out; have := HL2.out; simp at *; omega, rfl, rfl⟩
            case measure => exact HL2.out
          · rw [List.concat_eq_append] at *
            rw [pushL_snoc] at HST HPL
            have hln : (lo ++ [r]).length = lo.length + 1 := by simp
            have ho2 := HO.out
            have hlen := HLEN.out
            rw [hln] at ho2 hole hlen HPL
            clear HO HLEN
            have HLEN := Lib.hid hlen; clear hlen
            obtain ⟨g, c2, rfl, hg0, hg, hc2, hcell, hfro, hset⟩ := ho2.row (by simp)
            have cl := hcell _ _ (ruC_last lo r)
            have fl := hfro (lo.length * 2 + 1)
            have hs := hset (lo.length * 2 + 1) (.int .i64 (t - 1))
            rw [ruC_set_last] at hs
            have HO := Lib.hid ho2; clear ho2
            generalize hL : lo.length = L at *
            have HLN := Lib.hid hL; clear hL
            have HS := Lib.hid hs; clear hs
            clear hset hcell hfro hln
            have hwm : wrap64 (L : Int) = L := wrap_nat4 (Nat.le_of_succ_le (Nat.le_trans hole (by decide : 40000 ≤ 1000000)))
            have HOLE := Lib.hid hole; clear hole hc2
            by_cases he : r.2 = m - 1
            · rw [if_pos he] at HST HPL
              have he' : ((r.2 : Int) == m - 1) = true := by simp [he]
              have hw1 : wrap64 (m - 1) = m - 1 := wrap_m1 b1 b2
              have hw2 : wrap64 (t - 1) = t - 1 := wrap_m1 t1 t2
              clear he b1 b2 t1 t2
              go_wp2_with (first
                | (go_at_call 152; refine (HNM.out _ HO.out.frm).mono ?_; rintro e w' ⟨rfl, hw⟩; rw [hw]; clear hw w') | (go_at_call_of 153 aA; refine (HHA.out _ (HW3.out.then1 HO.out.frm)).mono ?_; rintro e w' ⟨rfl, hw⟩; rw [hw]; clear hw w') | (go_at_call_of 153 aB; refine (HHB.out _ (HW3.out.then1 HO.out.frm)).mono ?_; rintro e w' ⟨rfl, hw⟩; rw [hw]; clear hw w'))
              go_roundw
              case rel =>
                refine ⟨some t, lo ++ [(r.1, t - 1)], by rw [List.length_append, HLN.out]; exact HS.out, HST.out, ?_, rfl, rfl⟩
                have := HLEN.out
                have := HL2.out
                have := HLN.out
                rw [List.length_append]
                simp at *
                omega
              case measure => exact HL2.out
            · rw [if_neg he] at HST HPL
              have he' : ((r.2 : Int) == m - 1) = false := by simpa using he
              have hw1 : wrap64 (m - 1) = m - 1 := wrap_m1 b1 b2
              have hw2 : wrap64 (t - 1) = t - 1 := wrap_m1 t1 t2
              clear he b1 b2 t1 t2
              go_wp2_with (first
                | (go_at_call 152; refine (HNM.out _ HO.out.frm).mono ?_; rintro e w' ⟨rfl, hw⟩; rw [hw]; clear hw w') | (go_at_call_of 153 aA; refine (HHA.out _ (HW3.out.then1 HO.out.frm)).mono ?_; rintro e w' ⟨rfl, hw⟩; rw [hw]; clear hw w') | (go_at_call_of 153 aB; refine (HHB.out _ (HW3.out.then1 HO.out.frm)).mono ?_; rintro e w' ⟨rfl, hw⟩; rw [hw]; clear hw w')
                | (at_builtin; go_loud (refine wpList_appO w3 _ [.int .i64 m, .int .i64 (t - 1)] rfl (.tmp 83) (.tmp 88) 126 rfl 176 i0 _ 2 16 Tryz.underlying126 hi hz0 hz1 hz2 (by decide) (by decide) _ _ _ HO.out 1 1 rfl rfl rfl (by simp [Value.oneCell']) (by have := HOLE.out; simp only [maxLen]; omega) (by have := HOLE.out; omega) ?_); intro ad cc w2 own2; have OW := Lib.hid own2; clear own2))
              go_roundw
              case rel =>
                refine ⟨some t, lo ++ [r] ++ [(m, t - 1)], by rw [List.length_append, List.length_append, HLN.out, ruC_append]; exact OW.out, HST.out, ?_, rfl, rfl⟩
                have := HLEN.out
                have := HL2.out
                have := HLN.out
                simp at *
                omega
              case measure => exact HL2.out
      | true =>
        cases hq : tf (InR b m) with
        | false =>
          have hin : ByIn 0 (InR a m) (InR b m) := by
            have h1 := tf_iff.1 hp
            have h2 := tf_not.1 hq
            unfold ByIn
            simp [h1, h2]
          have HHA := Lib.hid (fun w' h => HA.out w' m h)
          have HHB := Lib.hid (fun w' h => HB.out w' m h)
          rw [hp] at HHA
          rw [hq] at HHB
          clear hp hq
          obtain ⟨t, ht⟩ := byInv_some hin
          have hst := byInv_in HQ.out hin ht
          rw [HP.out] at ht
          have HST := Lib.hid hst; clear hst
          have hlm : ahead P (some t) < ahead P (some m) := ht ▸ HAH.out
          have HL2 := Lib.hid hlm; clear hlm
          obtain ⟨t1, t2⟩ := HBD.out t (nextL_some ht).1
          have HNM := Lib.hid (fun w' h => HNX.out w' m h)
          rw [ht] at HNM
          clear hin ht
          have HPL := Lib.hid (pushL_length out m (t - 1))
          rcases List.eq_nil_or_concat out with rfl | ⟨lo, r, rfl⟩
          · rw [pushL_nil] at HST HPL
            obtain ⟨av, cv, rfl⟩ := HO.out.shape
            go_wp2_with (first
              | (go_at_call 152; refine (HNM.out _ HO.out.frm).mono ?_; rintro e w' ⟨rfl, hw⟩; rw [hw]; clear hw w') | (go_at_call_of 153 aA; refine (HHA.out _ (HW3.out.then1 HO.out.frm)).mono ?_; rintro e w' ⟨rfl, hw⟩; rw [hw]; clear hw w') | (go_at_call_of 153 aB; refine (HHB.out _ (HW3.out.then1 HO.out.frm)).mono ?_; rintro e w' ⟨rfl, hw⟩; rw [hw]; clear hw w')
              | (at_builtin; go_loud (refine wpList_appO w3 _ [.int .i64 m, .int .i64 (t - 1)] rfl (.tmp 83) (.tmp 88) 126 rfl 176 i0 _ 2 16 Tryz.underlying126 hi hz0 hz1 hz2 (by decide) (by decide) _ _ _ HO.out 1 1 rfl rfl rfl (by simp [Value.oneCell']) (by simp [maxLen]) (by simp) ?_); intro ad cc w2 own2; have OW := Lib.hid own2; clear own2))
            go_roundw
            case rel => exact ⟨some t, [(m, t - 1)], OW.out, HST.out, by have := HLEN.out; have := HL2.out; simp at *; omega, rfl, rfl⟩
            case measure => exact HL2.out
          · rw [List.concat_eq_append] at *
            rw [pushL_snoc] at HST HPL
            have hln : (lo ++ [r]).length = lo.length + 1 := by simp
            have ho2 := HO.out
            have hlen := HLEN.out
            rw [hln] at ho2 hole hlen HPL
            clear HO HLEN
            have HLEN := Lib.hid hlen; clear hlen
            obtain ⟨g, c2, rfl, hg0, hg, hc2, hcell, hfro, hset⟩ := ho2.row (by simp)
            have cl := hcell _ _ (ruC_last lo r)
            have fl := hfro (lo.length * 2 + 1)
            have hs := hset (lo.length * 2 + 1) (.int .i64 (t - 1))
            rw [ruC_set_last] at hs
            have HO := Lib.hid ho2; clear ho2
            generalize hL : lo.length = L at *
            have HLN := Lib.hid hL; clear hL
            have HS := Lib.hid hs; clear hs
            clear hset hcell hfro hln
            have hwm : wrap64 (L : Int) = L := wrap_nat4 (Nat.le_of_succ_le (Nat.le_trans hole (by decide : 40000 ≤ 1000000)))
            have HOLE := Lib.hid hole; clear hole hc2
            by_cases he : r.2 = m - 1
            · rw [if_pos he] at HST HPL
              have he' : ((r.2 : Int) == m - 1) = true := by simp [he]
              have hw1 : wrap64 (m - 1) = m - 1 := wrap_m1 b1 b2
              have hw2 : wrap64 (t - 1) = t - 1 := wrap_m1 t1 t2
              clear he b1 b2 t1 t2
              go_wp2_with (first
                | (go_at_call 152; refine (HNM.out _ HO.out.frm).mono ?_; rintro e w' ⟨rfl, hw⟩; rw [hw]; clear hw w') | (go_at_call_of 153 aA; refine (HHA.out _ (HW3.out.then1 HO.out.frm)).mono ?_; rintro e w' ⟨rfl, hw⟩; rw [hw]; clear hw w') | (go_at_call_of 153 aB; refine (HHB.out _ (HW3.out.then1 HO.out.frm)).mono ?_; rintro e w' ⟨rfl, hw⟩; rw [hw]; clear hw w'))
              go_roundw
              case rel =>
                refine ⟨some t, lo ++ [(r.1, t - 1)], by rw [List.length_append, HLN.out]; exact HS.out, HST.out, ?_, rfl, rfl⟩
                have := HLEN.out
                have := HL2.out
                have := HLN.out
                rw [List.length_append]
                simp at *
                omega
              case measure => exact HL2.out
            · rw [if_neg he] at HST HPL
              have he' : ((r.2 : Int) == m - 1) = false := by simpa using he
              have hw1 : wrap64 (m - 1) = m - 1 := wrap_m1 b1 b2
              have hw2 : wrap64 (t - 1) = t - 1 := wrap_m1 t1 t2
              clear he b1 b2 t1 t2
              go_wp2_with (first
                | (go_at_call 152; refine (HNM.out _ HO.out.frm).mono ?_; rintro e w' ⟨rfl, hw⟩; rw [hw]; clear hw w') | (go_at_call_of 153 aA; refine (HHA.out _ (HW3.out.then1 HO.out.frm)).mono ?_; rintro e w' ⟨rfl, hw⟩; rw [hw]; clear hw w') | (go_at_call_of 153 aB; refine (HHB.out _ (HW3.out.then1 HO.out.frm)).mono ?_; rintro e w' ⟨rfl, hw⟩; rw [hw]; clear hw w')
                | (at_builtin; go_loud (refine wpList_appO w3 _ [.int .i64 m, .int .i64 (t - 1)] rfl (.tmp 83) (.tmp 88) 126 rfl 176 i0 _ 2 16 Tryz.underlying126 hi hz0 hz1 hz2 (by decide) (by decide) _ _ _ HO.out 1 1 rfl rfl rfl (by simp [Value.oneCell']) (by have := HOLE.out; simp only [maxLen]; omega) (by have := HOLE.out; omega) ?_); intro ad cc w2 own2; have OW := Lib.hid own2; clear own2))
              go_roundw
              case rel =>
                refine ⟨some t, lo ++ [r] ++ [(m, t - 1)], by rw [List.length_append, List.length_append, HLN.out, ruC_append]; exact OW.out, HST.out, ?_, rfl, rfl⟩
                have := HLEN.out
                have := HL2.out
                have := HLN.out
                simp at *
                omega
              case measure => exact HL2.out
        | true =>
          have hin : ByIn 0 (InR a m) (InR b m) := by
            have h1 := tf_iff.1 hp
            have h2 := tf_iff.1 hq
            unfold ByIn
            simp [h1, h2]
          have HHA := Lib.hid (fun w' h => HA.out w' m h)
          have HHB := Lib.hid (fun w' h => HB.out w' m h)
          rw [hp] at HHA
          rw [hq] at HHB
          clear hp hq
          obtain ⟨t, ht⟩ := byInv_some hin
          have hst := byInv_in HQ.out hin ht
          rw [HP.out] at ht
          have HST := Lib.hid hst; clear hst
          have hlm : ahead P (some t) < ahead P (some m) := ht ▸ HAH.out
          have HL2 := Lib.hid hlm; clear hlm
          obtain ⟨t1, t2⟩ := HBD.out t (nextL_some ht).1
          have HNM := Lib.hid (fun w' h => HNX.out w' m h)
          rw [ht] at HNM
          clear hin ht
          have HPL := Lib.hid (pushL_length out m (t - 1))
          rcases List.eq_nil_or_concat out with rfl | ⟨lo, r, rfl⟩
          · rw [pushL_nil] at HST HPL
            obtain ⟨av, cv, rfl⟩ := HO.out.shape
            go_wp2_with (first
              | (go_at_call 152; refine (HNM.out _ HO.out.frm).mono ?_; rintro e w' ⟨rfl, hw⟩; rw [hw]; clear hw w') | (go_at_call_of 153 aA; refine (HHA.out _ (HW3.out.then1 HO.out.frm)).mono ?_; rintro e w' ⟨rfl, hw⟩; rw [hw]; clear hw w') | (go_at_call_of 153 aB; refine (HHB.out _ (HW3.out.then1 HO.out.frm)).mono ?_; rintro e w' ⟨rfl, hw⟩; rw [hw]; clear hw w')
              | (at_builtin; go_loud (refine wpList_appO w3 _ [.int .i64 m, .int .i64 (t - 1)] rfl (.tmp 83) (.tmp 88) 126 rfl 176 i0 _ 2 16 Tryz.underlying126 hi hz0 hz1 hz2 (by decide) (by decide) _ _ _ HO.out 1 1 rfl rfl rfl (by simp [Value.oneCell']) (by simp [maxLen]) (by simp) ?_); intro ad cc w2 own2; have OW := Lib.hid own2; clear own2))
            go_roundw
            case rel => exact ⟨some t, [(m, t - 1)], OW.out, HST.out, by have := HLEN.out; have := HL2.out; simp at *; omega, rfl, rfl⟩
            case measure => exact HL2.out
          · rw [List.concat_eq_append] at *
            rw [pushL_snoc] at HST HPL
            have hln : (lo ++ [r]).length = lo.length + 1 := by simp
            have ho2 := HO.out
            have hlen := HLEN.out
            rw [hln] at ho2 hole hlen HPL
            clear HO HLEN
            have HLEN := Lib.hid hlen; clear hlen
            obtain ⟨g, c2, rfl, hg0, hg, hc2, hcell, hfro, hset⟩ := ho2.row (by simp)
            have cl := hcell _ _ (ruC_last lo r)
            have fl := hfro (lo.length * 2 + 1)
            have hs := hset (lo.length * 2 + 1) (.int .i64 (t - 1))
            rw [ruC_set_last] at hs
            have HO := Lib.hid ho2; clear ho2
            generalize hL : lo.length = L at *
            have HLN := Lib.hid hL; clear hL
            have HS := Lib.hid hs; clear hs
            clear hset hcell hfro hln
            have hwm : wrap64 (L : Int) = L := wrap_nat4 (Nat.le_of_succ_le (Nat.le_trans hole (by decide : 40000 ≤ 1000000)))
            have HOLE := Lib.hid hole; clear hole hc2
            by_cases he : r.2 = m - 1
            · rw [if_pos he] at HST HPL
              have he' : ((r.2 : Int) == m - 1) = true := by simp [he]
              have hw1 : wrap64 (m - 1) = m - 1 := wrap_m1 b1 b2
              have hw2 : wrap64 (t - 1) = t - 1 := wrap_m1 t1 t2
              clear he b1 b2 t1 t2
              go_wp2_with (first
                | (go_at_call 152; refine (HNM.out _ HO.out.frm).mono ?_; rintro e w' ⟨rfl, hw⟩; rw [hw]; clear hw w') | (go_at_call_of 153 aA; refine (HHA.out _ (HW3.out.then1 HO.out.frm)).mono ?_; rintro e w' ⟨rfl, hw⟩; rw [hw]; clear hw w') | (go_at_call_of 153 aB; refine (HHB.out _ (HW3.out.then1 HO.out.frm)).mono ?_; rintro e w' ⟨rfl, hw⟩; rw [hw]; clear hw w'))
              go_roundw
              case rel =>
                refine ⟨some t, lo ++ [(r.1, t - 1)], by rw [List.length_append, HLN.out]; exact HS.out, HST.out, ?_, rfl, rfl⟩
                have := HLEN.out
                have := HL2.out
                have := HLN.out
                rw [List.length_append]
                simp at *
                omega
              case measure => exact HL2.out
            · rw [if_neg he] at HST HPL
              have he' : ((r.2 : Int) == m - 1) = false := by simpa using he
              have hw1 : wrap64 (m - 1) = m - 1 := wrap_m1 b1 b2
              have hw2 : wrap64 (t - 1) = t - 1 := wrap_m1 t1 t2
              clear he b1 b2 t1 t2
              go_wp2_with (first
                | (go_at_call 152; refine (HNM.out _ HO.out.frm).mono ?_; rintro e w' ⟨rfl, hw⟩; rw [hw]; clear hw w') | (go_at_call_of 153 aA; refine (HHA.out _ (HW3.out.then1 HO.out.frm)).mono ?_; rintro e w' ⟨rfl, hw⟩; rw [hw]; clear hw w') | (go_at_call_of 153 aB; refine (HHB.out _ (HW3.out.then1 HO.out.frm)).mono ?_; rintro e w' ⟨rfl, hw⟩; rw [hw]; clear hw w')
                | (at_builtin; go_loud (refine wpList_appO w3 _ [.int .i64 m, .int .i64 (t - 1)] rfl (.tmp 83) (.tmp 88) 126 rfl 176 i0 _ 2 16 Tryz.underlying126 hi hz0 hz1 hz2 (by decide) (by decide) _ _ _ HO.out 1 1 rfl rfl rfl (by simp [Value.oneCell']) (by have := HOLE.out; simp only [maxLen]; omega) (by have := HOLE.out; omega) ?_); intro ad cc w2 own2; have OW := Lib.hid own2; clear own2))
              go_roundw
              case rel =>
                refine ⟨some t, lo ++ [r] ++ [(m, t - 1)], by rw [List.length_append, List.length_append, HLN.out, ruC_append]; exact OW.out, HST.out, ?_, rfl, rfl⟩
                have := HLEN.out
                have := HL2.out
                have := HLN.out
                simp at *
                omega
              case measure => exact HL2.out

set_option maxHeartbeats 1000000 in
set_option maxRecDepth 1000000 in
theorem r6By_minus : R6ByC 2 := by
  intro w va vb a b ha hb ra rb la lb
  obtain ⟨i0, hi, hz0, hz1, hz2⟩ := info_parts info_run
  obtain ⟨j0, hj, hy0, hy1, hy2⟩ := info_parts info_i64
  obtain ⟨aA, cA, rfl⟩ := ha.sl
  obtain ⟨aB, cB, rfl⟩ := hb.sl
  have hl : (endsL a ++ endsL b).length ≤ 40000 := by rw [List.length_append, endsL_length, endsL_length]; omega
  have hbd : ∀ x ∈ (endsL a ++ endsL b), 1 ≤ x ∧ x ≤ 1099511627777 := fun x hx => (List.mem_append.1 hx).elim (endsL_bd ra x) (endsL_bd rb x)
  have HBD := Lib.hid hbd; clear hbd
  have HINI := Lib.hid (byInv_init 2 ra.1 rb.1)
  have HEA := Lib.hid (r6ends_any w _ a ha ra (by omega))
  have HEB := Lib.hid (fun w' h => r6ends_any w' _ b (Rd.keep0 hb h) rb (by omega))
  have HA := Lib.hid (fun w' x h => r6Has_any w' _ a x (Rd.keep0 ha h))
  have HB := Lib.hid (fun w' x h => r6Has_any w' _ b x (Rd.keep0 hb h))
  have ela : (endsL a).length ≤ 20000 := by rw [endsL_length]; omega
  have elb : (endsL b).length ≤ 20000 := by rw [endsL_length]; omega
  clear ha hb la lb
  go_enter Tryz.func126, Tryz.ntmps126
  go_wp2_with (first
    | (go_at_call_of 151 aA; refine HEA.out.mono ?_; rintro e w1 ⟨v1, rfl, ho1⟩; obtain ⟨a1, c1, rfl⟩ := ho1.shape; have HO1 := Lib.hid ho1; clear ho1)
    | (go_at_call_of 151 aB; refine (HEB.out w1 HO1.out.frm).mono ?_; rintro e w2 ⟨v2, rfl, ho2⟩; obtain ⟨a2, c2, rfl⟩ := ho2.shape; have HO2 := Lib.hid ho2; clear ho2)
    | (at_builtin; go_loud (refine wpList_appR w _ _ rfl (.tmp 17) (.tmp 19) 192 192 rfl 2 2 j0 _ 1 8 Tryz.underlying192 Tryz.underlying192 hj hy0 hy1 hy2 (by decide) (by decide) _ _ _ (HO1.out.keep HO2.out.frm) _ (endsL b).length rfl rfl HO2.out.rd (by simp) (inV_oneCell _) (by simp only [maxLen]; omega) (by omega) ?_); intro a3 c3 w3 own3; have HO3 := Lib.hid own3; clear own3))
  have HW3 := Lib.hid HO3.out.frm
  have HNX := Lib.hid (fun w' x (h : Frm NoS w3 w') => r6next_any w' _ (endsL a ++ endsL b) x (by have := (HO3.out.keep h).rd; rw [← inV_append, ← List.length_append] at this; exact this))
  clear HO1 HO2 HO3 HEA HEB
  rw [← List.length_append]
  have elp : (endsL a ++ endsL b).length = (endsL a).length + (endsL b).length := List.length_append
  generalize hP : (endsL a ++ endsL b) = P at *
  have HP := Lib.hid hP; clear hP
  clear ela elb elp
  refine (HNX.out w3 0 (Frm.refl _ _)).mono ?_
  rintro e w' ⟨rfl, hw⟩
  rw [hw]
  clear hw w'
  go_wp2
  go_loopw [8, 9, 10] (fun v x o ww => ∃ (q : Option Int) (out : RunL), OwnAt w3 ww 176 2 v out.length (ruC out) ∧ ByInv a b 2 out q ∧ out.length + ahead P q ≤ P.length ∧ x = .int .i64 (q.getD 0) ∧ o = .bool q.isSome) (fun _ x o _ => aheadV P x o)
  case atStart => exact ⟨nextL P 0, [], OwnAt.nil (Frm.refl _ _) _ _, HINI.out, by have := ahead_le P (nextL P 0); simpa using this, rfl, rfl⟩
  case round =>
    obtain ⟨q, out, ho, hq, hlen, rfl, rfl⟩ := hrel
    have HQ := Lib.hid hq; clear hq
    have HO := Lib.hid ho; clear ho
    cases q with
    | none =>
      have HLEN := Lib.hid hlen; clear hlen
      have HL := Lib.hid hl; clear hl
      obtain ⟨av, cv, rfl⟩ := HO.out.shape
      go_wp2
      go_ret
      exact ⟨_, out, rfl, HO.out.base HW3.out, HQ.out, Nat.le_trans (Nat.le_trans (Nat.le_add_right _ _) HLEN.out) HL.out⟩
    | some m =>
      obtain ⟨m1, m2, m3, m4⟩ := HQ.out.some_ m rfl
      rw [HP.out] at m2
      obtain ⟨b1, b2⟩ := HBD.out m m2
      have hah := ahead_lt m2
      have HAH := Lib.hid hah; clear hah
      have hole : out.length + 1 ≤ 40000 := by
        have : 0 < ahead P (some m) := List.length_pos_of_mem (List.mem_filter.2 ⟨m2, by simp⟩)
        omega
      have HLEN := Lib.hid hlen
      have HM3 := Lib.hid m3; clear m3
      clear m4 m1 hlen m2
      cases hp : tf (InR a m) with
      | false =>
        cases hq : tf (InR b m) with
        | false =>
          have hin : ¬ ByIn 2 (InR a m) (InR b m) := by
            have h1 := tf_not.1 hp
            have h2 := tf_not.1 hq
            unfold ByIn
            simp [h1, h2]
          have HHA := Lib.hid (fun w' h => HA.out w' m h)
          have HHB := Lib.hid (fun w' h => HB.out w' m h)
          rw [hp] at HHA
          rw [hq] at HHB
          clear hp hq
          have HST := Lib.hid (HP.out ▸ byInv_out HQ.out hin)
          have HNM := Lib.hid (fun w' h => HNX.out w' m h)
          have hlm : ahead P (nextL P m) < ahead P (some m) := HAH.out
          generalize hnx : nextL P m = nx at *
          have HL2 := Lib.hid hlm; clear hlm
          clear hin
          obtain ⟨av, cv, rfl⟩ := HO.out.shape
          go_wp2_with (first
            | (go_at_call 152; refine (HNM.out _ HO.out.frm).mono ?_; rintro e w' ⟨rfl, hw⟩; rw [hw]; clear hw w')
            | (go_at_call_of 153 aA; refine (HHA.out _ (HW3.out.then1 HO.out.frm)).mono ?_; rintro e w' ⟨rfl, hw⟩; rw [hw]; clear hw w')
            | (go_at_call_of 153 aB; refine (HHB.out _ (HW3.out.then1 HO.out.frm)).mono ?_; rintro e w' ⟨rfl, hw⟩; rw [hw]; clear hw w'))
          go_roundw
          case rel =>
            refine ⟨nx, out, HO.out, HST.out, ?_, rfl, rfl⟩
            have := HLEN.out
            have := HL2.out
            omega
          case measure =>
            have := HL2.out
            cases nx with
            | none => exact this
            | some t => exact this
        | true =>
          have hin : ¬ ByIn 2 (InR a m) (InR b m) := by
            have h1 := tf_not.1 hp
            have h2 := tf_iff.1 hq
            unfold ByIn
            simp [h1, h2]
          have HHA := Lib.hid (fun w' h => HA.out w' m h)
          have HHB := Lib.hid (fun w' h => HB.out w' m h)
          rw [hp] at HHA
          rw [hq] at HHB
          clear hp hq
          have HST := Lib.hid (HP.out ▸ byInv_out HQ.out hin)
          have HNM := Lib.hid (fun w' h => HNX.out w' m h)
          have hlm : ahead P (nextL P m) < ahead P (some m) := HAH.out
          generalize hnx : nextL P m = nx at *
          have HL2 := Lib.hid hlm; clear hlm
          clear hin
          obtain ⟨av, cv, rfl⟩ := HO.out.shape
          go_wp2_with (first
            | (go_at_call 152; refine (HNM.out _ HO.out.frm).mono ?_; rintro e w' ⟨rfl, hw⟩; rw [hw]; clear hw w')
            | (go_at_call_of 153 aA; refine (HHA.out _ (HW3.out.then1 HO.out.frm)).mono ?_; rintro e w' ⟨rfl, hw⟩; rw [hw]; clear hw w')
            | (go_at_call_of 153 aB; refine (HHB.out _ (HW3.out.then1 HO.out.frm)).mono ?_; rintro e w' ⟨rfl, hw⟩; rw [hw]; clear hw w'))
          go_roundw
          case rel =>
            refine ⟨nx, out, HO.out, HST.out, ?_, rfl, rfl⟩
            have := HLEN.out
            have := HL2.out
            omega
          case measure =>
            have := HL2.out
            cases nx with
            | none => exact this
            | some t => exact this
      | true =>
        cases hq : tf (InR b m) with
        | false =>
          have hin : ByIn 2 (InR a m) (InR b m) := by
            have h1 := tf_iff.1 hp
            have h2 := tf_not.1 hq
            unfold ByIn
            simp [h1, h2]
          have HHA := Lib.hid (fun w' h => HA.out w' m h)
          have HHB := Lib.hid (fun w' h => HB.out w' m h)
          rw [hp] at HHA
          rw [hq] at HHB
          clear hp hq
          obtain ⟨t, ht⟩ := byInv_some hin
          have hst := byInv_in HQ.out hin ht
          rw [HP.out] at ht
          have HST := Lib.hid hst; clear hst
          have hlm : ahead P (some t) < ahead P (some m) := ht ▸ HAH.out
          have HL2 := Lib.hid hlm; clear hlm
          obtain ⟨t1, t2⟩ := HBD.out t (nextL_some ht).1
          have HNM := Lib.hid (fun w' h => HNX.out w' m h)
          rw [ht] at HNM
          clear hin ht
          have HPL := Lib.hid (pushL_length out m (t - 1))
          rcases List.eq_nil_or_concat out with rfl | ⟨lo, r, rfl⟩
          · rw [pushL_nil] at HST HPL
            obtain ⟨av, cv, rfl⟩ := HO.out.shape
            go_wp2_with (first
              | (go_at_call 152; refine (HNM.out _ HO.out.frm).mono ?_; rintro e w' ⟨rfl, hw⟩; rw [hw]; clear hw w') | (go_at_call_of 153 aA; refine (HHA.out _ (HW3.out.then1 HO.out.frm)).mono ?_; rintro e w' ⟨rfl, hw⟩; rw [hw]; clear hw w') | (go_at_call_of 153 aB; refine (HHB.out _ (HW3.out.then1 HO.out.frm)).mono ?_; rintro e w' ⟨rfl, hw⟩; rw [hw]; clear hw w')
              | (at_builtin; go_loud (refine wpList_appO w3 _ [.int .i64 m, .int .i64 (t - 1)] rfl (.tmp 83) (.tmp 88) 126 rfl 176 i0 _ 2 16 Tryz.underlying126 hi hz0 hz1 hz2 (by decide) (by decide) _ _ _ HO.out 1 1 rfl rfl rfl (by simp [Value.oneCell']) (by simp [maxLen]) (by simp) ?_); intro ad cc w2 own2; have OW := Lib.hid own2; clear own2))
            go_roundw
            case rel => exact ⟨some t, [(m, t - 1)], OW.out, HST.out, by have := HLEN.out; have := HL2.out; simp at *; omega, rfl, rfl⟩
            case measure => exact HL2.out
          · rw [List.concat_eq_append] at *
            rw [pushL_snoc] at HST HPL
            have hln : (lo ++ [r]).length = lo.length + 1 := by simp
            have ho2 := HO.out
            have hlen := HLEN.out
            rw [hln] at ho2 hole hlen HPL
            clear HO HLEN
            have HLEN := Lib.hid hlen; clear hlen
            obtain ⟨g, c2, rfl, hg0, hg, hc2, hcell, hfro, hset⟩ := ho2.row (by simp)
            have cl := hcell _ _ (ruC_last lo r)
            have fl := hfro (lo.length * 2 + 1)
            have hs := hset (lo.length * 2 + 1) (.int .i64 (t - 1))
            rw [ruC_set_last] at hs
            have HO := Lib.hid ho2; clear ho2
            generalize hL : lo.length = L at *
            have HLN := Lib.hid hL; clear hL
            have HS := Lib.hid hs; clear hs
            clear hset hcell hfro hln
            have hwm : wrap64 (L : Int) = L := wrap_nat4 (Nat.le_of_succ_le (Nat.le_trans hole (by decide : 40000 ≤ 1000000)))
            have HOLE := Lib.hid hole; clear hole hc2
            by_cases he : r.2 = m - 1
            · rw [if_pos he] at HST HPL
              have he' : ((r.2 : Int) == m - 1) = true := by simp [he]
              have hw1 : wrap64 (m - 1) = m - 1 := wrap_m1 b1 b2
              have hw2 : wrap64 (t - 1) = t - 1 := wrap_m1 t1 t2
              clear he b1 b2 t1 t2
              go_wp2_with (first
                | (go_at_call 152; refine (HNM.out _ HO.out.frm).mono ?_; rintro e w' ⟨rfl, hw⟩; rw [hw]; clear hw w') | (go_at_call_of 153 aA; refine (HHA.out _ (HW3.out.then1 HO.out.frm)).mono ?_; rintro e w' ⟨rfl, hw⟩; rw [hw]; clear hw w') | (go_at_call_of 153 aB; refine (HHB.out _ (HW3.out.then1 HO.out.frm)).mono ?_; rintro e w' ⟨rfl, hw⟩; rw [hw]; clear hw w'))
              go_roundw
              case rel =>
                refine ⟨some t, lo ++ [(r.1, t - 1)], by rw [List.length_append, HLN.out]; exact HS.out, HST.out, ?_, rfl, rfl⟩
                have := HLEN.out
                have := HL2.out
                have := HLN.out
                rw [List.length_append]
                simp at *
                omega
              case measure => exact HL2.out
            · rw [if_neg he] at HST HPL
              have he' : ((r.2 : Int) == m - 1) = false := by simpa using he
              have hw1 : wrap64 (m - 1) = m - 1 := wrap_m1 b1 b2
              have hw2 : wrap64 (t - 1) = t - 1 := wrap_m1 t1 t2
              clear he b1 b2 t1 t2
              go_wp2_with (first
                | (go_at_call 152; refine (HNM.out _ HO.out.frm).mono ?_; rintro e w' ⟨rfl, hw⟩; rw [hw]; clear hw w') | (go_at_call_of 153 aA; refine (HHA.out _ (HW3.out.then1 HO.out.frm)).mono ?_; rintro e w' ⟨rfl, hw⟩; rw [hw]; clear hw w') | (go_at_call_of 153 aB; refine (HHB.out _ (HW3.out.then1 HO.out.frm)).mono ?_; rintro e w' ⟨rfl, hw⟩; rw [hw]; clear hw w')
                | (at_builtin; go_loud (refine wpList_appO w3 _ [.int .i64 m, .int .i64 (t - 1)] rfl (.tmp 83) (.tmp 88) 126 rfl 176 i0 _ 2 16 Tryz.underlying126 hi hz0 hz1 hz2 (by decide) (by decide) _ _ _ HO.out 1 1 rfl rfl rfl (by simp [Value.oneCell']) (by have := HOLE.out; simp only [maxLen]; omega) (by have := HOLE.out; omega) ?_); intro ad cc w2 own2; have OW := Lib.hid own2; clear own2))
              go_roundw
              case rel =>
                refine ⟨some t, lo ++ [r] ++ [(m, t - 1)], by rw [List.length_append, List.length_append, HLN.out, ruC_append]; exact OW.out, HST.out, ?_, rfl, rfl⟩
                have := HLEN.out
                have := HL2.out
                have := HLN.out
                simp at *
                omega
              case measure => exact HL2.out
        | true =>
          have hin : ¬ ByIn 2 (InR a m) (InR b m) := by
            have h1 := tf_iff.1 hp
            have h2 := tf_iff.1 hq
            unfold ByIn
            simp [h1, h2]
          have HHA := Lib.hid (fun w' h => HA.out w' m h)
          have HHB := Lib.hid (fun w' h => HB.out w' m h)
          rw [hp] at HHA
          rw [hq] at HHB
          clear hp hq
          have HST := Lib.hid (HP.out ▸ byInv_out HQ.out hin)
          have HNM := Lib.hid (fun w' h => HNX.out w' m h)
          have hlm : ahead P (nextL P m) < ahead P (some m) := HAH.out
          generalize hnx : nextL P m = nx at *
          have HL2 := Lib.hid hlm; clear hlm
          clear hin
          obtain ⟨av, cv, rfl⟩ := HO.out.shape
          go_wp2_with (first
            | (go_at_call 152; refine (HNM.out _ HO.out.frm).mono ?_; rintro e w' ⟨rfl, hw⟩; rw [hw]; clear hw w')
            | (go_at_call_of 153 aA; refine (HHA.out _ (HW3.out.then1 HO.out.frm)).mono ?_; rintro e w' ⟨rfl, hw⟩; rw [hw]; clear hw w')
            | (go_at_call_of 153 aB; refine (HHB.out _ (HW3.out.then1 HO.out.frm)).mono ?_; rintro e w' ⟨rfl, hw⟩; rw [hw]; clear hw w'))
          go_roundw
          case rel =>
            refine ⟨nx, out, HO.out, HST.out, ?_, rfl, rfl⟩
            have := HLEN.out
            have := HL2.out
            omega
          case measure =>
            have := HL2.out
            cases nx with
            | none => exact this
            | some t => exact this
end Go.Proofs.YtafdclkpeomomaaGreat
