/- Words for the law PackLong: TRight. -/
import Derived.Test.YtafdclkpeomomaaPackLongG9
import Derived.Test.YtafdclkpeomomaaPackLongG11
set_option linter.unusedSimpArgs false
set_option linter.unusedVariables false
/- tree: right: the walk (printed by wip/treegen3.py). -/
namespace Go.Proofs.Ytafdclkpeomomaa
open Go.RowKit

theorem rightKs_step {ks : KidsL} {d : Nat} {es : List Ent} (he : rightEs none es = true) : rightT (d + 1) es ks = rightKs ks d none := by
  rw [rightT, Nat.add_sub_cancel, he]; simp
set_option maxHeartbeats 4000000 in
set_option maxRecDepth 1000000 in
theorem tright_any (Q : Nat → Prop) : ∀ (N : Nat) (es : List Ent) (ks : KidsL) (d : Nat) (w : World) (ev kv : Value), sizeK ks < N → TreeAt Q w ev kv es ks → TrOk es ks → d ≤ 100 →
    Calls Try.prog 41 #[.agg #[ev, kv], .int .i64 d] w fun e w' => e = .returned (.bool (rightT d es ks)) ∧ Frm NoS w w' := by
  intro N
  induction N with
  | zero => intros; exfalso; omega
  | succ N IHN =>
    intro es ks d w ev kv hN ht hok hd
    obtain ⟨ae, ce, rfl⟩ := ht.ents.rd.sl
    obtain ⟨os, hkr, hfor⟩ := ht.kids
    obtain ⟨ak, ck, rfl⟩ := hkr.rd.sl
    have HT := Lib.hid ht; clear ht
    have HKR := Lib.hid hkr.rd; clear hkr
    have HFOR := Lib.hid hfor; clear hfor
    have IH := Lib.hid IHN; clear IHN
    have HWB := Lib.hid (Frm.alloc NoS w (.cells #[.slice ae es.length ce, .slice ak ks.len ck] 27))
    have box0 : (w.alloc (.cells #[.slice ae es.length ce, .slice ak ks.len ck] 27)).cell? ⟨w.heap.size, 0, none⟩ = some (.slice ae es.length ce) := cell_at' (heap_alloc_new w _) 0 rfl
    have box1 : (w.alloc (.cells #[.slice ae es.length ce, .slice ak ks.len ck] 27)).cell? ⟨w.heap.size, 1, none⟩ = some (.slice ak ks.len ck) := cell_at' (heap_alloc_new w _) 1 rfl
    have B0 := Lib.hid box0; clear box0
    have B1 := Lib.hid box1; clear box1
    have HEL := Lib.hid hok.es.len
    have HKL := Lib.hid hok.len
    have HOK := Lib.hid hok; clear hok
    have HSZ := Lib.hid hN; clear hN
    cases d with
    | zero =>
      go_enter Try.func41, Try.ntmps41
      go_wp2
      go_ret
      exact ⟨ret_bool (by simp [rightT]), HWB.out⟩
    | succ d =>
      generalize hes : es.length = n at *
      have HN := Lib.hid hes; clear hes
      generalize hkl : ks.len = m at *
      have HM := Lib.hid hkl; clear hkl
      have hd9 : (d : Int) ≤ 100 := by omega
      have hd1 : ¬ (((d + 1 : Nat) : Int) < 1) := by omega
      have HD := Lib.hid hd; clear hd
      cases hre : rightEs none es with
      | false =>
        have HENT := Lib.hid (fun W (h : Frm NoS (w.alloc (.cells #[.slice ae n ce, .slice ak m ck] 27)) W) => tentries_any W (.slice ae n ce) es (by have := (HT.out.keep0 HWB.out).ents.rd; rw [HN.out] at this ⊢; exact this.keep0 h) HOK.out.es)
        rw [hre] at HENT
        have b0 := B0.out
        go_enter Try.func41, Try.ntmps41
        go_wp2_with (go_at_call 54; refine (HENT.out _ (Frm.refl _ _)).mono ?_; rintro e w1 ⟨rfl, hw1⟩; have HW1 := Lib.hid hw1; clear hw1)
        go_ret
        exact ⟨ret_bool (by rw [rightT, hre]; simp), HWB.out.then1 HW1.out⟩
      | true =>
        have HENT := Lib.hid (fun W (h : Frm NoS (w.alloc (.cells #[.slice ae n ce, .slice ak m ck] 27)) W) => tentries_any W (.slice ae n ce) es (by have := (HT.out.keep0 HWB.out).ents.rd; rw [HN.out] at this ⊢; exact this.keep0 h) HOK.out.es)
        rw [hre] at HENT
        have HRE := Lib.hid hre; clear hre
        have b0 := B0.out
        go_enter Try.func41, Try.ntmps41
        go_wp2_with (go_at_call 54; refine (HENT.out _ (Frm.refl _ _)).mono ?_; rintro e w1 ⟨rfl, hw1⟩; have HW := Lib.hid hw1; clear hw1; have b1 := HW.out.cell' B1.out id)
        clear b0 b1
        go_loopw [18] (fun i ww => ∃ (k : Nat) (p : Option ByteArray), k ≤ m ∧ i = .int .i64 k ∧ PrevK ks k p ∧ rightKs ks d none = rightKs (ks.drop k) d p ∧ Frm NoS (w.alloc (.cells #[.slice ae n ce, .slice ak m ck] 27)) ww) (fun i _ => m - (intOf i).toNat)
        case atStart => exact ⟨0, none, Nat.zero_le _, rfl, .inl ⟨rfl, rfl⟩, rfl, HW.out⟩
        case round =>
          obtain ⟨k, p, hk, rfl, hp, hr, hw⟩ := hrel
          have HWK := Lib.hid hw; clear hw
          have HP := Lib.hid hp; clear hp
          have b1 := HWK.out.cell' B1.out id
          by_cases hlt : k < m
          · obtain ⟨key, es', sub, rest, hdr⟩ := KidsL.drop_some (n := k) (ks := ks) (by rw [HM.out]; exact hlt)
            have hmm : (m : Int) ≤ 9223372036854775807 := by have := HKL.out; omega
            rcases Rd.shape (HKR.out.keep0 (HWB.out.then1 HWK.out)) with ⟨ad, he, h0⟩ | ⟨b, off, cc, he, hmax⟩
            · exfalso; have := HM.out; omega
            · injection he with e1 e2 e3
              subst e1 e3
              clear e2 hmax
              obtain ⟨ev', kv', c0, c1, c2, hta⟩ := kid_at (HKR.out.keep0 (HWB.out.then1 HWK.out)) (HFOR.out.keep0 (HWB.out.then1 HWK.out)) hdr
              obtain ⟨ae', ce', rfl⟩ := hta.ents.rd.sl
              obtain ⟨os', hkr', hfor'⟩ := hta.kids
              obtain ⟨ak', ck', rfl⟩ := hkr'.rd.sl
              clear hkr' hfor'
              have hok' := HOK.out.ks.drop k
              rw [hdr] at hok'
              have hkz := hok'.1
              have hsub : TrOk es' sub := ⟨hok'.2.1, hok'.2.2.1, hok'.2.2.2.1⟩
              have l1 : ((es'.length : Nat) : Int) ≤ 140737488351232 := by have := hsub.es.len; omega
              have l2 : ((sub.len : Nat) : Int) ≤ 140737488351232 := by have := hsub.len; omega
              have HSUB := Lib.hid hsub; clear hsub hok'
              have HSS := Lib.hid (size_sub k hdr)
              rw [rightKs_drop hdr] at hr
              have HDR := Lib.hid hdr; clear hdr
              have hbf : Frm NoS wr (wr.alloc (.cells #[.string key, .slice ae' es'.length ce', .slice ak' sub.len ck'] 72)) := Frm.alloc _ _ _
              have n0 : (wr.alloc (.cells #[.string key, .slice ae' es'.length ce', .slice ak' sub.len ck'] 72)).cell? ⟨wr.heap.size, 0, none⟩ = some (.string key) := cell_at' (heap_alloc_new wr _) 0 rfl
              have n1 : (wr.alloc (.cells #[.string key, .slice ae' es'.length ce', .slice ak' sub.len ck'] 72)).cell? ⟨wr.heap.size, 1, none⟩ = some (.slice ae' es'.length ce') := cell_at' (heap_alloc_new wr _) 1 rfl
              have n2 : (wr.alloc (.cells #[.string key, .slice ae' es'.length ce', .slice ak' sub.len ck'] 72)).cell? ⟨wr.heap.size, 2, none⟩ = some (.slice ak' sub.len ck') := cell_at' (heap_alloc_new wr _) 2 rfl
              have HTA := Lib.hid (hta.keep0 hbf); clear hta
              have HWK0 := HWK; clear HWK
              have HWK := Lib.hid (HWK0.out.then1 hbf)
              have kk : ∀ j key0 es0 sub0 rest0, ks.drop j = .cons key0 es0 sub0 rest0 → wr.cell? ⟨b, off + j * 3, none⟩ = some (.string key0) := fun j key0 es0 sub0 rest0 h => by
                obtain ⟨_, _, h0, _⟩ := kid_at (HKR.out.keep0 (HWB.out.then1 HWK0.out)) (HFOR.out.keep0 (HWB.out.then1 HWK0.out)) h
                exact h0
              have KK := Lib.hid kk; clear kk
              have HIH := Lib.hid (fun w' (h : Frm NoS (wr.alloc (.cells #[.string key, .slice ae' es'.length ce', .slice ak' sub.len ck'] 72)) w') => IH.out es' sub d w' _ _ (by have := HSS.out; have := HSZ.out; omega) (HTA.out.keep0 h) HSUB.out (by have := HD.out; omega))
              have hem : ∀ W, Calls Try.prog 56 #[.agg #[.slice ae' es'.length ce', .slice ak' sub.len ck']] W fun e w' => e = .returned (.bool (isNil es' sub)) ∧ Frm NoS W w' := fun W => empty_any ae' ak' es'.length sub.len ce' ck' W
              have HEM := Lib.hid hem; clear hem
              generalize es'.length = n' at *
              generalize sub.len = m' at *
              obtain ⟨α, hne, K, hK3, hK0, hK2⟩ := worlds (wr.alloc (.cells #[.string key, .slice ae' n' ce', .slice ak' m' ck'] 72))
              have hK1 := hK3
              have kb1 := fun s => (hK1 s).cell' (hbf.cell' b1 id) id
              have kn0 := fun s => (hK1 s).cell' n0 id
              have kn1 := fun s => (hK1 s).cell' n1 id
              have kn2 := fun s => (hK1 s).cell' n2 id
              clear n0 n1 n2
              have hge := geq_str
              rcases HP.out with ⟨rfl, rfl⟩ | ⟨j, key0, es0, sub0, rest0, rfl, hdj, rfl⟩
              · simp only [Nat.zero_mul, Nat.add_zero] at c0 c1 c2
                cases g1 : keyB key with
                | false =>
                  rw [g1] at hr
                  simp only [Bool.false_and] at hr
                  have hst : rightT (d + 1) es ks = false := by rw [rightT, Nat.add_sub_cancel, hr]; simp
                  have HST := Lib.hid hst; clear hst hr
                  go_wp2_with fail
                  refine wp_region_new K (by kernel_rfl) (by kernel_rfl) hK0 ?_
                  repeat (go_big_quiet_step ((first | (go_at_call 55; exact Calls.in_class hK2 (Calls.frm_of_same (tkey_any key _ hkz))) | (go_at_call 56; exact Calls.in_class hK2 (HEM.out _)) | (go_at_call 41; exact Calls.in_class hK2 (HIH.out _ (hK3 _))))))
                  refine wpQuiet_nil ?_
                  intro w' hw'
                  obtain ⟨s, rfl⟩ := hw'
                  have hfs := hK1 s
                  go_wp2
                  go_ret
                  exact ⟨ret_bool HST.out.symm, HWB.out.then1 (HWK.out.then1 hfs)⟩
                | true =>
                  cases g3 : isNil es' sub with
                  | true =>
                    rw [g1, g3] at hr
                    rw [g3] at HEM
                    simp only [Bool.not_true, Bool.and_false, Bool.false_and] at hr
                    have hst : rightT (d + 1) es ks = false := by rw [rightT, Nat.add_sub_cancel, hr]; simp
                    have HST := Lib.hid hst; clear hst hr
                    go_wp2_with fail
                    refine wp_region_new K (by kernel_rfl) (by kernel_rfl) hK0 ?_
                    repeat (go_big_quiet_step ((first | (go_at_call 55; exact Calls.in_class hK2 (Calls.frm_of_same (tkey_any key _ hkz))) | (go_at_call 56; exact Calls.in_class hK2 (HEM.out _)) | (go_at_call 41; exact Calls.in_class hK2 (HIH.out _ (hK3 _))))))
                    refine wpQuiet_nil ?_
                    intro w' hw'
                    obtain ⟨s, rfl⟩ := hw'
                    have hfs := hK1 s
                    go_wp2
                    go_ret
                    exact ⟨ret_bool HST.out.symm, HWB.out.then1 (HWK.out.then1 hfs)⟩
                  | false =>
                    rw [g3] at HEM
                    cases g4 : rightT d es' sub with
                    | false =>
                      rw [g1, g3, g4] at hr
                      rw [g4] at HIH
                      simp only [Bool.and_false, Bool.false_and] at hr
                      have hst : rightT (d + 1) es ks = false := by rw [rightT, Nat.add_sub_cancel, hr]; simp
                      have HST := Lib.hid hst; clear hst hr
                      go_wp2_with fail
                      refine wp_region_new K (by kernel_rfl) (by kernel_rfl) hK0 ?_
                      repeat (go_big_quiet_step ((first | (go_at_call 55; exact Calls.in_class hK2 (Calls.frm_of_same (tkey_any key _ hkz))) | (go_at_call 56; exact Calls.in_class hK2 (HEM.out _)) | (go_at_call 41; exact Calls.in_class hK2 (HIH.out _ (hK3 _))))))
                      refine wpQuiet_nil ?_
                      intro w' hw'
                      obtain ⟨s, rfl⟩ := hw'
                      have hfs := hK1 s
                      go_wp2
                      go_ret
                      exact ⟨ret_bool HST.out.symm, HWB.out.then1 (HWK.out.then1 hfs)⟩
                    | true =>
                      rw [g1, g3, g4] at hr
                      rw [g4] at HIH
                      simp only [ltK, Bool.not_false, Bool.and_true, Bool.true_and] at hr
                      have HST := Lib.hid hr; clear hr
                      go_wp2_with fail
                      refine wp_region_new K (by kernel_rfl) (by kernel_rfl) hK0 ?_
                      repeat (go_big_quiet_step ((first | (go_at_call 55; exact Calls.in_class hK2 (Calls.frm_of_same (tkey_any key _ hkz))) | (go_at_call 56; exact Calls.in_class hK2 (HEM.out _)) | (go_at_call 41; exact Calls.in_class hK2 (HIH.out _ (hK3 _))))))
                      refine wpQuiet_nil ?_
                      intro w' hw'
                      obtain ⟨s, rfl⟩ := hw'
                      have hfs := hK1 s
                      go_wp2
                      go_roundw
                      case rel => exact ⟨0 + 1, some key, by omega, by go_num, .inr ⟨0, key, es', sub, rest, rfl, HDR.out, rfl⟩, HST.out, HWK.out.then1 hfs⟩
                      case measure => simp [intOf]; omega
              · have pk := KK.out j key0 es0 sub0 rest0 hdj
                clear hdj
                have kpk := (fun s => (hK1 s).cell' (hbf.cell' pk id) id)
                clear pk
                cases g1 : keyB key with
                | false =>
                  rw [g1] at hr
                  simp only [Bool.false_and] at hr
                  have hst : rightT (d + 1) es ks = false := by rw [rightT, Nat.add_sub_cancel, hr]; simp
                  have HST := Lib.hid hst; clear hst hr
                  go_wp2_with fail
                  refine wp_region_new K (by kernel_rfl) (by kernel_rfl) hK0 ?_
                  repeat (go_big_quiet_step ((first | (go_at_call 55; exact Calls.in_class hK2 (Calls.frm_of_same (tkey_any key _ hkz))) | (go_at_call 56; exact Calls.in_class hK2 (HEM.out _)) | (go_at_call 41; exact Calls.in_class hK2 (HIH.out _ (hK3 _))))))
                  refine wpQuiet_nil ?_
                  intro w' hw'
                  obtain ⟨s, rfl⟩ := hw'
                  have hfs := hK1 s
                  go_wp2
                  go_ret
                  exact ⟨ret_bool HST.out.symm, HWB.out.then1 (HWK.out.then1 hfs)⟩
                | true =>
                  cases g2 : Op.bytesLess key0.toList key.toList with
                  | false =>
                    rw [show ltK (some key0) key = false from g2] at hr
                    simp only [Bool.and_false, Bool.false_and] at hr
                    have hst : rightT (d + 1) es ks = false := by rw [rightT, Nat.add_sub_cancel, hr]; simp
                    have HST := Lib.hid hst; clear hst hr
                    go_wp2_with fail
                    refine wp_region_new K (by kernel_rfl) (by kernel_rfl) hK0 ?_
                    repeat (go_big_quiet_step ((first | (go_at_call 55; exact Calls.in_class hK2 (Calls.frm_of_same (tkey_any key _ hkz))) | (go_at_call 56; exact Calls.in_class hK2 (HEM.out _)) | (go_at_call 41; exact Calls.in_class hK2 (HIH.out _ (hK3 _))))))
                    refine wpQuiet_nil ?_
                    intro w' hw'
                    obtain ⟨s, rfl⟩ := hw'
                    have hfs := hK1 s
                    go_wp2
                    go_ret
                    exact ⟨ret_bool HST.out.symm, HWB.out.then1 (HWK.out.then1 hfs)⟩
                  | true =>
                    cases g3 : isNil es' sub with
                    | true =>
                      rw [g3] at hr
                      rw [g3] at HEM
                      simp only [Bool.not_true, Bool.and_false, Bool.false_and] at hr
                      have hst : rightT (d + 1) es ks = false := by rw [rightT, Nat.add_sub_cancel, hr]; simp
                      have HST := Lib.hid hst; clear hst hr
                      go_wp2_with fail
                      refine wp_region_new K (by kernel_rfl) (by kernel_rfl) hK0 ?_
                      repeat (go_big_quiet_step ((first | (go_at_call 55; exact Calls.in_class hK2 (Calls.frm_of_same (tkey_any key _ hkz))) | (go_at_call 56; exact Calls.in_class hK2 (HEM.out _)) | (go_at_call 41; exact Calls.in_class hK2 (HIH.out _ (hK3 _))))))
                      refine wpQuiet_nil ?_
                      intro w' hw'
                      obtain ⟨s, rfl⟩ := hw'
                      have hfs := hK1 s
                      go_wp2
                      go_ret
                      exact ⟨ret_bool HST.out.symm, HWB.out.then1 (HWK.out.then1 hfs)⟩
                    | false =>
                      rw [g3] at HEM
                      cases g4 : rightT d es' sub with
                      | false =>
                        rw [g4] at hr
                        rw [g4] at HIH
                        simp only [Bool.and_false, Bool.false_and] at hr
                        have hst : rightT (d + 1) es ks = false := by rw [rightT, Nat.add_sub_cancel, hr]; simp
                        have HST := Lib.hid hst; clear hst hr
                        go_wp2_with fail
                        refine wp_region_new K (by kernel_rfl) (by kernel_rfl) hK0 ?_
                        repeat (go_big_quiet_step ((first | (go_at_call 55; exact Calls.in_class hK2 (Calls.frm_of_same (tkey_any key _ hkz))) | (go_at_call 56; exact Calls.in_class hK2 (HEM.out _)) | (go_at_call 41; exact Calls.in_class hK2 (HIH.out _ (hK3 _))))))
                        refine wpQuiet_nil ?_
                        intro w' hw'
                        obtain ⟨s, rfl⟩ := hw'
                        have hfs := hK1 s
                        go_wp2
                        go_ret
                        exact ⟨ret_bool HST.out.symm, HWB.out.then1 (HWK.out.then1 hfs)⟩
                      | true =>
                        rw [g1, g3, g4, show ltK (some key0) key = true from g2] at hr
                        rw [g4] at HIH
                        simp only [Bool.not_false, Bool.and_true, Bool.true_and] at hr
                        have HST := Lib.hid hr; clear hr
                        go_wp2_with fail
                        refine wp_region_new K (by kernel_rfl) (by kernel_rfl) hK0 ?_
                        repeat (go_big_quiet_step ((first | (go_at_call 55; exact Calls.in_class hK2 (Calls.frm_of_same (tkey_any key _ hkz))) | (go_at_call 56; exact Calls.in_class hK2 (HEM.out _)) | (go_at_call 41; exact Calls.in_class hK2 (HIH.out _ (hK3 _))))))
                        refine wpQuiet_nil ?_
                        intro w' hw'
                        obtain ⟨s, rfl⟩ := hw'
                        have hfs := hK1 s
                        go_wp2
                        go_roundw
                        case rel => exact ⟨(j + 1) + 1, some key, by omega, by go_num, .inr ⟨(j + 1), key, es', sub, rest, rfl, HDR.out, rfl⟩, HST.out, HWK.out.then1 hfs⟩
                        case measure => simp [intOf]; omega
          · obtain rfl : m = k := by omega
            rw [KidsL.drop_none (by rw [HM.out]; exact Nat.le_refl _)] at hr
            have HRR := Lib.hid hr; clear hr
            go_wp2
            go_ret
            exact ⟨ret_bool (by rw [rightKs_step HRE.out, HRR.out]; simp [rightKs]), HWB.out.then1 HWK.out⟩
end Go.Proofs.Ytafdclkpeomomaa
