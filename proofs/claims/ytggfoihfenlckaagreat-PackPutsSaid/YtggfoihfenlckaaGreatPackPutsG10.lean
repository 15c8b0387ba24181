/- Words for the law PackPuts: TRight, TClone, TClone2, TClone3, Res, TDots. -/
import Derived.Test.YtggfoihfenlckaaGreatPackPutsG5
import Derived.Test.YtggfoihfenlckaaGreatPackPutsG6
import Derived.Test.YtggfoihfenlckaaGreatPackPutsG8
import Derived.Test.YtggfoihfenlckaaGreatPackPutsG9
set_option linter.unusedSimpArgs false
set_option linter.unusedVariables false
/- tree: right: the walk (printed by wip/treegen3.py). -/
namespace Go.Proofs.YtggfoihfenlckaaGreat
open Go.RowKit
theorem rightKs_step {ks : KidsL} {d : Nat} {es : List Ent} (he : rightEs none es = true) : rightT (d + 1) es ks = rightKs ks d none := by
  rw [rightT, Nat.add_sub_cancel, he]; simp
set_option maxHeartbeats 4000000 in
set_option maxRecDepth 1000000 in
theorem tright_any (Q : Nat → Prop) : ∀ (N : Nat) (es : List Ent) (ks : KidsL) (d : Nat) (w : World) (ev kv : Value), sizeK ks < N → TreeAt Q w ev kv es ks → TrOk es ks → d ≤ 100 →
    Calls Tryz.prog 128 #[.agg #[ev, kv], .int .i64 d] w fun e w' => e = .returned (.bool (rightT d es ks)) ∧ Frm NoS w w' := by
  intro N
  induction N with
  | zero => intros; exfalso; omega
  | succ N IHN =>
    intro es ks d w ev kv hN ht hok hd
    obtain ⟨ae, ce, rfl⟩ := ht.ents.rd.sl
    obtain ⟨os, hkr, hfor⟩ := ht.kids
    obtain ⟨ak, ck, rfl⟩ := hkr.rd.sl
    have HT := Lib.hid ht; clear ht
    have HKR := Lib.hid hkr.rd; clear hkr
    have HFOR := Lib.hid hfor; clear hfor
    have IH := Lib.hid IHN; clear IHN
    have HWB := Lib.hid (Frm.alloc NoS w (.cells #[.slice ae es.length ce, .slice ak ks.len ck] 35))
    have box0 : (w.alloc (.cells #[.slice ae es.length ce, .slice ak ks.len ck] 35)).cell? ⟨w.heap.size, 0, none⟩ = some (.slice ae es.length ce) := cell_at' (heap_alloc_new w _) 0 rfl
    have box1 : (w.alloc (.cells #[.slice ae es.length ce, .slice ak ks.len ck] 35)).cell? ⟨w.heap.size, 1, none⟩ = some (.slice ak ks.len ck) := cell_at' (heap_alloc_new w _) 1 rfl
    have B0 := Lib.hid box0; clear box0
    have B1 := Lib.hid box1; clear box1
    have HEL := Lib.hid hok.es.len
    have HKL := Lib.hid hok.len
    have HOK := Lib.hid hok; clear hok
    have HSZ := Lib.hid hN; clear hN
    cases d with
    | zero =>
      go_enter Tryz.func128, Tryz.ntmps128
      go_wp2
      go_ret
      exact ⟨ret_bool (by simp [rightT]), HWB.out⟩
    | succ d =>
      generalize hes : es.length = n at *
      have HN := Lib.hid hes; clear hes
      generalize hkl : ks.len = m at *
      have HM := Lib.hid hkl; clear hkl
      have hd9 : (d : Int) ≤ 100 := by omega
      have hd1 : ¬ (((d + 1 : Nat) : Int) < 1) := by omega
      have HD := Lib.hid hd; clear hd
      cases hre : rightEs none es with
      | false =>
        have HENT := Lib.hid (fun W (h : Frm NoS (w.alloc (.cells #[.slice ae n ce, .slice ak m ck] 35)) W) => tentries_any W (.slice ae n ce) es (by have := (HT.out.keep0 HWB.out).ents.rd; rw [HN.out] at this ⊢; exact this.keep0 h) HOK.out.es)
        rw [hre] at HENT
        have b0 := B0.out
        go_enter Tryz.func128, Tryz.ntmps128
        go_wp2_with (go_at_call 164; refine (HENT.out _ (Frm.refl _ _)).mono ?_; rintro e w1 ⟨rfl, hw1⟩; have HW1 := Lib.hid hw1; clear hw1)
        go_ret
        exact ⟨ret_bool (by rw [rightT, hre]; simp), HWB.out.then1 HW1.out⟩
      | true =>
        have HENT := Lib.hid (fun W (h : Frm NoS (w.alloc (.cells #[.slice ae n ce, .slice ak m ck] 35)) W) => tentries_any W (.slice ae n ce) es (by have := (HT.out.keep0 HWB.out).ents.rd; rw [HN.out] at this ⊢; exact this.keep0 h) HOK.out.es)
        rw [hre] at HENT
        have HRE := Lib.hid hre; clear hre
        have b0 := B0.out
        go_enter Tryz.func128, Tryz.ntmps128
        go_wp2_with (go_at_call 164; refine (HENT.out _ (Frm.refl _ _)).mono ?_; rintro e w1 ⟨rfl, hw1⟩; have HW := Lib.hid hw1; clear hw1; have b1 := HW.out.cell' B1.out id)
        clear b0 b1
        go_loopw [18] (fun i ww => ∃ (k : Nat) (p : Option ByteArray), k ≤ m ∧ i = .int .i64 k ∧ PrevK ks k p ∧ rightKs ks d none = rightKs (ks.drop k) d p ∧ Frm NoS (w.alloc (.cells #[.slice ae n ce, .slice ak m ck] 35)) ww) (fun i _ => m - (intOf i).toNat)
        case atStart => exact ⟨0, none, Nat.zero_le _, rfl, .inl ⟨rfl, rfl⟩, rfl, HW.out⟩
        case round =>
          obtain ⟨k, p, hk, rfl, hp, hr, hw⟩ := hrel
          have HWK := Lib.hid hw; clear hw
          have HP := Lib.hid hp; clear hp
          have b1 := HWK.out.cell' B1.out id
          by_cases hlt : k < m
          · obtain ⟨key, es', sub, rest, hdr⟩ := KidsL.drop_some (n := k) (ks := ks) (by rw [HM.out]; exact hlt)
            have hmm : (m : Int) ≤ 9223372036854775807 := by have := HKL.out; omega
            rcases Rd.shape (HKR.out.keep0 (HWB.out.then1 HWK.out)) with ⟨ad, he, h0⟩ | ⟨b, off, cc, he, hmax⟩
            · exfalso; have := HM.out; omega
            · injection he with e1 e2 e3
              subst e1 e3
              clear e2 hmax
              obtain ⟨ev', kv', c0, c1, c2, hta⟩ := kid_at (HKR.out.keep0 (HWB.out.then1 HWK.out)) (HFOR.out.keep0 (HWB.out.then1 HWK.out)) hdr
              obtain ⟨ae', ce', rfl⟩ := hta.ents.rd.sl
              obtain ⟨os', hkr', hfor'⟩ := hta.kids
              obtain ⟨ak', ck', rfl⟩ := hkr'.rd.sl
              clear hkr' hfor'
              have hok' := HOK.out.ks.drop k
              rw [hdr] at hok'
              have hkz := hok'.1
              have hsub : TrOk es' sub := ⟨hok'.2.1, hok'.2.2.1, hok'.2.2.2.1⟩
              have l1 : ((es'.length : Nat) : Int) ≤ 140737488351232 := by have := hsub.es.len; omega
              have l2 : ((sub.len : Nat) : Int) ≤ 140737488351232 := by have := hsub.len; omega
              have HSUB := Lib.hid hsub; clear hsub hok'
              have HSS := Lib.hid (size_sub k hdr)
              rw [rightKs_drop hdr] at hr
              have HDR := Lib.hid hdr; clear hdr
              have hbf : Frm NoS wr (wr.alloc (.cells #[.string key, .slice ae' es'.length ce', .slice ak' sub.len ck'] 139)) := Frm.alloc _ _ _
              have n0 : (wr.alloc (.cells #[.string key, .slice ae' es'.length ce', .slice ak' sub.len ck'] 139)).cell? ⟨wr.heap.size, 0, none⟩ = some (.string key) := cell_at' (heap_alloc_new wr _) 0 rfl
              have n1 : (wr.alloc (.cells #[.string key, .slice ae' es'.length ce', .slice ak' sub.len ck'] 139)).cell? ⟨wr.heap.size, 1, none⟩ = some (.slice ae' es'.length ce') := cell_at' (heap_alloc_new wr _) 1 rfl
              have n2 : (wr.alloc (.cells #[.string key, .slice ae' es'.length ce', .slice ak' sub.len ck'] 139)).cell? ⟨wr.heap.size, 2, none⟩ = some (.slice ak' sub.len ck') := cell_at' (heap_alloc_new wr _) 2 rfl
              have HTA := Lib.hid (hta.keep0 hbf); clear hta
              have HWK0 := HWK; clear HWK
              have HWK := Lib.hid (HWK0.out.then1 hbf)
              have kk : ∀ j key0 es0 sub0 rest0, ks.drop j = .cons key0 es0 sub0 rest0 → wr.cell? ⟨b, off + j * 3, none⟩ = some (.string key0) := fun j key0 es0 sub0 rest0 h => by
                obtain ⟨_, _, h0, _⟩ := kid_at (HKR.out.keep0 (HWB.out.then1 HWK0.out)) (HFOR.out.keep0 (HWB.out.then1 HWK0.out)) h
                exact h0
              have KK := Lib.hid kk; clear kk
              have HIH := Lib.hid (fun w' (h : Frm NoS (wr.alloc (.cells #[.string key, .slice ae' es'.length ce', .slice ak' sub.len ck'] 139)) w') => IH.out es' sub d w' _ _ (by have := HSS.out; have := HSZ.out; omega) (HTA.out.keep0 h) HSUB.out (by have := HD.out; omega))
              have hem : ∀ W, Calls Tryz.prog 166 #[.agg #[.slice ae' es'.length ce', .slice ak' sub.len ck']] W fun e w' => e = .returned (.bool (isNil es' sub)) ∧ Frm NoS W w' := fun W => empty_any ae' ak' es'.length sub.len ce' ck' W
              have HEM := Lib.hid hem; clear hem
              generalize es'.length = n' at *
              generalize sub.len = m' at *
              obtain ⟨α, hne, K, hK3, hK0, hK2⟩ := worlds (wr.alloc (.cells #[.string key, .slice ae' n' ce', .slice ak' m' ck'] 139))
              have hK1 := hK3
              have kb1 := fun s => (hK1 s).cell' (hbf.cell' b1 id) id
              have kn0 := fun s => (hK1 s).cell' n0 id
              have kn1 := fun s => (hK1 s).cell' n1 id
              have kn2 := fun s => (hK1 s).cell' n2 id
              clear n0 n1 n2
              have hge := geq_str
              rcases HP.out with ⟨rfl, rfl⟩ | ⟨j, key0, es0, sub0, rest0, rfl, hdj, rfl⟩
              · simp only [Nat.zero_mul, Nat.add_zero] at c0 c1 c2
                cases g1 : keyB key with
                | false =>
                  rw [g1] at hr
                  simp only [Bool.false_and] at hr
                  have hst : rightT (d + 1) es ks = false := by rw [rightT, Nat.add_sub_cancel, hr]; simp
                  have HST := Lib.hid hst; clear hst hr
                  go_wp2_with fail
                  refine wp_region_new K (by kernel_rfl) (by kernel_rfl) hK0 ?_
                  repeat (go_big_quiet_step ((first | (go_at_call 165; exact Calls.in_class hK2 (Calls.frm_of_same (tkey_any key _ hkz))) | (go_at_call 166; exact Calls.in_class hK2 (HEM.out _)) | (go_at_call 128; exact Calls.in_class hK2 (HIH.out _ (hK3 _))))))
                  refine wpQuiet_nil ?_
                  intro w' hw'
                  obtain ⟨s, rfl⟩ := hw'
                  have hfs := hK1 s
                  go_wp2
                  go_ret
                  exact ⟨ret_bool HST.out.symm, HWB.out.then1 (HWK.out.then1 hfs)⟩
                | true =>
                  cases g3 : isNil es' sub with
                  | true =>
                    rw [g1, g3] at hr
                    rw [g3] at HEM
                    simp only [Bool.not_true, Bool.and_false, Bool.false_and] at hr
                    have hst : rightT (d + 1) es ks = false := by rw [rightT, Nat.add_sub_cancel, hr]; simp
                    have HST := Lib.hid hst; clear hst hr
                    go_wp2_with fail
                    refine wp_region_new K (by kernel_rfl) (by kernel_rfl) hK0 ?_
                    repeat (go_big_quiet_step ((first | (go_at_call 165; exact Calls.in_class hK2 (Calls.frm_of_same (tkey_any key _ hkz))) | (go_at_call 166; exact Calls.in_class hK2 (HEM.out _)) | (go_at_call 128; exact Calls.in_class hK2 (HIH.out _ (hK3 _))))))
                    refine wpQuiet_nil ?_
                    intro w' hw'
                    obtain ⟨s, rfl⟩ := hw'
                    have hfs := hK1 s
                    go_wp2
                    go_ret
                    exact ⟨ret_bool HST.out.symm, HWB.out.then1 (HWK.out.then1 hfs)⟩
                  | false =>
                    rw [g3] at HEM
                    cases g4 : rightT d es' sub with
                    | false =>
                      rw [g1, g3, g4] at hr
                      rw [g4] at HIH
                      simp only [Bool.and_false, Bool.false_and] at hr
                      have hst : rightT (d + 1) es ks = false := by rw [rightT, Nat.add_sub_cancel, hr]; simp
                      have HST := Lib.hid hst; clear hst hr
                      go_wp2_with fail
                      refine wp_region_new K (by kernel_rfl) (by kernel_rfl) hK0 ?_
                      repeat (go_big_quiet_step ((first | (go_at_call 165; exact Calls.in_class hK2 (Calls.frm_of_same (tkey_any key _ hkz))) | (go_at_call 166; exact Calls.in_class hK2 (HEM.out _)) | (go_at_call 128; exact Calls.in_class hK2 (HIH.out _ (hK3 _))))))
                      refine wpQuiet_nil ?_
                      intro w' hw'
                      obtain ⟨s, rfl⟩ := hw'
                      have hfs := hK1 s
                      go_wp2
                      go_ret
                      exact ⟨ret_bool HST.out.symm, HWB.out.then1 (HWK.out.then1 hfs)⟩
                    | true =>
                      rw [g1, g3, g4] at hr
                      rw [g4] at HIH
                      simp only [ltK, Bool.not_false, Bool.and_true, Bool.true_and] at hr
                      have HST := Lib.hid hr; clear hr
                      go_wp2_with fail
                      refine wp_region_new K (by kernel_rfl) (by kernel_rfl) hK0 ?_
                      repeat (go_big_quiet_step ((first | (go_at_call 165; exact Calls.in_class hK2 (Calls.frm_of_same (tkey_any key _ hkz))) | (go_at_call 166; exact Calls.in_class hK2 (HEM.out _)) | (go_at_call 128; exact Calls.in_class hK2 (HIH.out _ (hK3 _))))))
                      refine wpQuiet_nil ?_
                      intro w' hw'
                      obtain ⟨s, rfl⟩ := hw'
                      have hfs := hK1 s
                      go_wp2
                      go_roundw
                      case rel => exact ⟨0 + 1, some key, by omega, by go_num, .inr ⟨0, key, es', sub, rest, rfl, HDR.out, rfl⟩, HST.out, HWK.out.then1 hfs⟩
                      case measure => simp [intOf]; omega
              · have pk := KK.out j key0 es0 sub0 rest0 hdj
                clear hdj
                have kpk := (fun s => (hK1 s).cell' (hbf.cell' pk id) id)
                clear pk
                cases g1 : keyB key with
                | false =>
                  rw [g1] at hr
                  simp only [Bool.false_and] at hr
                  have hst : rightT (d + 1) es ks = false := by rw [rightT, Nat.add_sub_cancel, hr]; simp
                  have HST := Lib.hid hst; clear hst hr
                  go_wp2_with fail
                  refine wp_region_new K (by kernel_rfl) (by kernel_rfl) hK0 ?_
                  repeat (go_big_quiet_step ((first | (go_at_call 165; exact Calls.in_class hK2 (Calls.frm_of_same (tkey_any key _ hkz))) | (go_at_call 166; exact Calls.in_class hK2 (HEM.out _)) | (go_at_call 128; exact Calls.in_class hK2 (HIH.out _ (hK3 _))))))
                  refine wpQuiet_nil ?_
                  intro w' hw'
                  obtain ⟨s, rfl⟩ := hw'
                  have hfs := hK1 s
                  go_wp2
                  go_ret
                  exact ⟨ret_bool HST.out.symm, HWB.out.then1 (HWK.out.then1 hfs)⟩
                | true =>
                  cases g2 : Op.bytesLess key0.toList key.toList with
                  | false =>
                    rw [show ltK (some key0) key = false from g2] at hr
                    simp only [Bool.and_false, Bool.false_and] at hr
                    have hst : rightT (d + 1) es ks = false := by rw [rightT, Nat.add_sub_cancel, hr]; simp
                    have HST := Lib.hid hst; clear hst hr
                    go_wp2_with fail
                    refine wp_region_new K (by kernel_rfl) (by kernel_rfl) hK0 ?_
                    repeat (go_big_quiet_step ((first | (go_at_call 165; exact Calls.in_class hK2 (Calls.frm_of_same (tkey_any key _ hkz))) | (go_at_call 166; exact Calls.in_class hK2 (HEM.out _)) | (go_at_call 128; exact Calls.in_class hK2 (HIH.out _ (hK3 _))))))
                    refine wpQuiet_nil ?_
                    intro w' hw'
                    obtain ⟨s, rfl⟩ := hw'
                    have hfs := hK1 s
                    go_wp2
                    go_ret
                    exact ⟨ret_bool HST.out.symm, HWB.out.then1 (HWK.out.then1 hfs)⟩
                  | true =>
                    cases g3 : isNil es' sub with
                    | true =>
                      rw [g3] at hr
                      rw [g3] at HEM
                      simp only [Bool.not_true, Bool.and_false, Bool.false_and] at hr
                      have hst : rightT (d + 1) es ks = false := by rw [rightT, Nat.add_sub_cancel, hr]; simp
                      have HST := Lib.hid hst; clear hst hr
                      go_wp2_with fail
                      refine wp_region_new K (by kernel_rfl) (by kernel_rfl) hK0 ?_
                      repeat (go_big_quiet_step ((first | (go_at_call 165; exact Calls.in_class hK2 (Calls.frm_of_same (tkey_any key _ hkz))) | (go_at_call 166; exact Calls.in_class hK2 (HEM.out _)) | (go_at_call 128; exact Calls.in_class hK2 (HIH.out _ (hK3 _))))))
                      refine wpQuiet_nil ?_
                      intro w' hw'
                      obtain ⟨s, rfl⟩ := hw'
                      have hfs := hK1 s
                      go_wp2
                      go_ret
                      exact ⟨ret_bool HST.out.symm, HWB.out.then1 (HWK.out.then1 hfs)⟩
                    | false =>
                      rw [g3] at HEM
                      cases g4 : rightT d es' sub with
                      | false =>
                        rw [g4] at hr
                        rw [g4] at HIH
                        simp only [Bool.and_false, Bool.false_and] at hr
                        have hst : rightT (d + 1) es ks = false := by rw [rightT, Nat.add_sub_cancel, hr]; simp
                        have HST := Lib.hid hst; clear hst hr
                        go_wp2_with fail
                        refine wp_region_new K (by kernel_rfl) (by kernel_rfl) hK0 ?_
                        repeat (go_big_quiet_step ((first | (go_at_call 165; exact Calls.in_class hK2 (Calls.frm_of_same (tkey_any key _ hkz))) | (go_at_call 166; exact Calls.in_class hK2 (HEM.out _)) | (go_at_call 128; exact Calls.in_class hK2 (HIH.out _ (hK3 _))))))
                        refine wpQuiet_nil ?_
                        intro w' hw'
                        obtain ⟨s, rfl⟩ := hw'
                        have hfs := hK1 s
                        go_wp2
                        go_ret
                        exact ⟨ret_bool HST.out.symm, HWB.out.then1 (HWK.out.then1 hfs)⟩
                      | true =>
                        rw [g1, g3, g4, show ltK (some key0) key = true from g2] at hr
                        rw [g4] at HIH
                        simp only [Bool.not_false, Bool.and_true, Bool.true_and] at hr
                        have HST := Lib.hid hr; clear hr
                        go_wp2_with fail
                        refine wp_region_new K (by kernel_rfl) (by kernel_rfl) hK0 ?_
                        repeat (go_big_quiet_step ((first | (go_at_call 165; exact Calls.in_class hK2 (Calls.frm_of_same (tkey_any key _ hkz))) | (go_at_call 166; exact Calls.in_class hK2 (HEM.out _)) | (go_at_call 128; exact Calls.in_class hK2 (HIH.out _ (hK3 _))))))
                        refine wpQuiet_nil ?_
                        intro w' hw'
                        obtain ⟨s, rfl⟩ := hw'
                        have hfs := hK1 s
                        go_wp2
                        go_roundw
                        case rel => exact ⟨(j + 1) + 1, some key, by omega, by go_num, .inr ⟨(j + 1), key, es', sub, rest, rfl, HDR.out, rfl⟩, HST.out, HWK.out.then1 hfs⟩
                        case measure => simp [intOf]; omega
          · obtain rfl : m = k := by omega
            rw [KidsL.drop_none (by rw [HM.out]; exact Nat.le_refl _)] at hr
            have HRR := Lib.hid hr; clear hr
            go_wp2
            go_ret
            exact ⟨ret_bool (by rw [rightKs_step HRE.out, HRR.out]; simp [rightKs]), HWB.out.then1 HWK.out⟩
end Go.Proofs.YtggfoihfenlckaaGreat
/- slices.Clone of entries and of spans: the walks. -/
namespace Go.Proofs.YtggfoihfenlckaaGreat
open Go.RowKit
theorem info_entry : (Tryz.prog.info? 137).map (fun i => (i.zero, i.size, i.bytes)) = some (some (.agg #[.int .i64 0, .int .i64 0, .string ByteArray.empty, .int .i64 0]), 4, 40) := by kernel_rfl
theorem OwnAt.empty {w0 w : World} (f : Frm NoS w0 w) (e : TypeId) (size : Nat) : OwnAt w0 (w.alloc (.cells #[] e)) e size (.slice (some ⟨w.heap.size, 0, none⟩) 0 0) 0 [] :=
  ⟨⟨by simp, .inr ⟨w.heap.size, 0, #[], rfl, Nat.zero_le _, heap_alloc_new w _, Nat.le_refl _, Nat.zero_le _, by simp, by simp⟩⟩, fun k hk => by
    simp [Value.ownBlock] at hk
    have := f.size
    omega, f.trans (Frm.alloc _ _ _) fun _ _ h => h⟩
set_option maxRecDepth 100000 in
theorem enClone_any (w : World) (v : Value) (es : List Ent) (hv : Rd w v es.length (entC es)) (hl : es.length ≤ 100000) :
    Calls Tryz.prog 180 #[v] w fun e w' => ∃ v', e = .returned v' ∧ OwnAt w w' 137 4 v' es.length (entC es) := by
  obtain ⟨i0, hi, hz0, hz1, hz2⟩ := info_parts info_entry
  obtain ⟨aA, cA, rfl⟩ := hv.sl
  have HH := Lib.hid hv; clear hv
  generalize hn : es.length = n at *
  have HN := Lib.hid hn; clear hn
  by_cases hnil : aA = none
  · subst hnil
    rcases HH.out with ⟨ad, he, h0, hx⟩ | ⟨b, off, cc, he, _⟩
    · injection he with e1 e2 e3
      subst e1 e2 e3
      have hx0 : entC es = [] := hx
      rw [hx0]
      have hq := Lib.run_eql_slice_nil (P := Tryz.prog) w 32 137 none 0 0 0 0 Tryz.underlying32
      go_enter Tryz.func180, Tryz.ntmps180
      go_wp2
      go_ret
      exact ⟨_, rfl, OwnAt.nil (Frm.refl _ _) _ _⟩
    · injection he with e1 e2 e3
      cases e1
  · obtain ⟨ad, rfl⟩ := Option.ne_none_iff_exists'.1 hnil
    clear hnil
    have hq := Lib.run_eql_slice_nil (P := Tryz.prog) w 32 137 (some ad) n cA 0 0 Tryz.underlying32
    go_enter Tryz.func180, Tryz.ntmps180
    go_wp2_with (at_builtin; go_loud (refine wpList_appR w _ _ rfl (.tmp 5) (.tmp 6) 32 32 rfl 137 137 i0 _ 4 40 Tryz.underlying32 Tryz.underlying32 hi hz0 hz1 hz2 (by decide) (by decide) _ _ _ (OwnAt.empty (Frm.refl _ _) 137 4) _ n rfl rfl (HH.out.keep0 (Frm.alloc _ _ _)) (by rw [entC_length, HN.out]) (entC_oneCell _) (by simp only [maxLen]; omega) (by omega) ?_); intro ad cc w5 own5; have OW := Lib.hid own5; clear own5)
    go_ret
    exact ⟨_, rfl, by have := OW.out; simpa using this⟩
set_option maxRecDepth 100000 in
theorem spClone_any (w : World) (v : Value) (c : CtxL) (hv : CtxAt w v c) (hl : c.length ≤ 100000) :
    Calls Tryz.prog 156 #[v] w fun e w' => ∃ v', e = .returned v' ∧ OwnAt w w' 122 3 v' c.length (spC c) := by
  obtain ⟨i0, hi, hz0, hz1, hz2⟩ := info_parts info_span
  obtain ⟨aA, cA, rfl⟩ := hv.sl
  have HH := Lib.hid hv; clear hv
  generalize hn : c.length = n at *
  have HN := Lib.hid hn; clear hn
  by_cases hnil : aA = none
  · subst hnil
    rcases HH.out with ⟨ad, he, h0, hx⟩ | ⟨b, off, cc, he, _⟩
    · injection he with e1 e2 e3
      subst e1 e3
      have hx0 : spC c = [] := hx
      have hn0 : n = 0 := by rw [← HN.out]; exact h0
      subst hn0
      rw [hx0]
      have hq := Lib.run_eql_slice_nil (P := Tryz.prog) w 31 122 none 0 0 0 0 Tryz.underlying31
      go_enter Tryz.func156, Tryz.ntmps156
      go_wp2
      go_ret
      exact ⟨_, rfl, OwnAt.nil (Frm.refl _ _) _ _⟩
    · injection he with e1 e2 e3
      cases e1
  · obtain ⟨ad, rfl⟩ := Option.ne_none_iff_exists'.1 hnil
    clear hnil
    have hq := Lib.run_eql_slice_nil (P := Tryz.prog) w 31 122 (some ad) n cA 0 0 Tryz.underlying31
    go_enter Tryz.func156, Tryz.ntmps156
    go_wp2_with (at_builtin; go_loud (refine wpList_appR w _ _ rfl (.tmp 5) (.tmp 6) 31 31 rfl 122 122 i0 _ 3 24 Tryz.underlying31 Tryz.underlying31 hi hz0 hz1 hz2 (by decide) (by decide) _ _ _ (OwnAt.empty (Frm.refl _ _) 122 3) _ n rfl rfl (HN.out ▸ HH.out.keep0 (Frm.alloc _ _ _)) (by rw [spC_length, HN.out]) (spC_oneCell _) (by simp only [maxLen]; omega) (by omega) ?_); intro ad cc w5 own5; have OW := Lib.hid own5; clear own5)
    go_ret
    exact ⟨_, rfl, by have := OW.out; simpa using this⟩
end Go.Proofs.YtggfoihfenlckaaGreat
/- tree: clone: the walk. -/
namespace Go.Proofs.YtggfoihfenlckaaGreat
open Go.RowKit
theorem info_kid : (Tryz.prog.info? 139).map (fun i => (i.zero, i.size, i.bytes)) = some (some (.agg #[.string ByteArray.empty, .slice none 0 0, .slice none 0 0]), 3, 64) := by kernel_rfl
/-- The blocks of the copy so far, but for those of its parts that are still turned. -/
def ClnQ (w : World) (h2 h3 : Nat) (v : Value) (b : Nat) : Prop := w.heap.size ≤ b ∧ b ≠ h2 ∧ b ≠ h3 ∧ v.ownBlock ≠ some b
/-- What of a tree is copied. -/
structure ClnAt (w ww : World) (h2 h3 : Nat) (n : Nat) (ev kv : Value) (es : List Ent) (ks : KidsL) (k : Nat) (l : List KidQ) : Prop where
  frm : Frm NoS w ww
  b2 : ww.heap[h2]? = some (.cells #[.slice none 0 0, .slice none 0 0] 35 (0, 0))
  b3 : ww.heap[h3]? = some (.cells #[ev, kv] 35 (0, 0))
  new2 : w.heap.size ≤ h2
  new3 : w.heap.size ≤ h3
  ne : h2 ≠ h3
  own : OwnBut (fun b => b = h2 ∨ b = h3) w ww 139 3 kv k (l.flatMap KidQ.cells)
  ents : RdQ (ClnQ w h2 h3 kv) ww ev n (entC es)
  kids : ∀ q ∈ l, TreeAt (ClnQ w h2 h3 kv) ww q.ev q.kv q.es q.sub
  len : l.length = k
  all : ks = appK l (ks.drop k)
theorem ClnAt.keep {w ww w' : World} {h2 h3 n : Nat} {ev kv : Value} {es : List Ent} {ks : KidsL} {k : Nat} {l : List KidQ} (h : ClnAt w ww h2 h3 n ev kv es ks k l) (f : Frm NoS ww w') : ClnAt w w' h2 h3 n ev kv es ks k l :=
  ⟨h.frm.then1 f, f.blk h.b2 id, f.blk h.b3 id, h.new2, h.new3, h.ne, h.own.keep f, h.ents.keep f (fun _ _ s => s.elim), fun q hq => (h.kids q hq).keep0 f, h.len, h.all⟩
/-- One kid more: w1 is the world in which its slice grows, w' the one behind it; then it is stored. -/
theorem ClnAt.step {w w1 w' : World} {h2 h3 n : Nat} {ev kv kv' : Value} {es : List Ent} {ks : KidsL} {k : Nat} {l : List KidQ} (h : ClnAt w w1 h2 h3 n ev kv es ks k l) {q : KidQ} {rest : KidsL} (hd : ks.drop k = .cons q.key q.es q.sub rest)
    (hq : TreeAt (ClnQ w h2 h3 kv) w1 q.ev q.kv q.es q.sub)
    (own : w'.ownsRow 0 139 3 kv' (k + 1) (l.flatMap KidQ.cells ++ q.cells)) (fm : Frm (RowS kv) w1 w') (fr : Fresh w1 kv kv') :
    ClnAt w (w'.setCell ⟨h3, 1, none⟩ kv') h2 h3 n ev kv' es ks (k + 1) (l ++ [q]) := by
  have hb3 : ¬ RowS kv h3 := fun hs => h.own.but h3 hs (.inr rfl)
  have hb2 : ¬ RowS kv h2 := fun hs => h.own.but h2 hs (.inl rfl)
  have hset : Frm (fun b => b = h3) w' (w'.setCell ⟨h3, 1, none⟩ kv') := Frm.setCell (S := fun b => b = h3) w' (p := ⟨h3, 1, none⟩) (.inl rfl) _
  have l2 := lt_of_block h.b2
  have l3 := lt_of_block h.b3
  have hne' : ∀ b, kv'.ownBlock = some b → b ≠ h2 ∧ b ≠ h3 := fun b hb => by
    rcases fr b hb with h1 | h1
    · exact ⟨fun e => h.own.but b h1 (.inl e), fun e => h.own.but b h1 (.inr e)⟩
    · exact ⟨fun e => by omega, fun e => by omega⟩
  have turn : ∀ b, b < w1.heap.size → ClnQ w h2 h3 kv b → (w'.setCell ⟨h3, 1, none⟩ kv').heap[b]? = w1.heap[b]? ∧ ClnQ w h2 h3 kv' b := fun b hb hQ => by
    refine ⟨?_, hQ.1, hQ.2.1, hQ.2.2.1, fun e => ?_⟩
    · rw [hset.block b (Nat.lt_of_lt_of_le hb fm.size) hQ.2.2.1, fm.block b hb hQ.2.2.2]
    · rcases fr b e with h1 | h1
      · exact hQ.2.2.2 h1
      · omega
  have hown : OwnBut (fun b => b = h2 ∨ b = h3) w w' 139 3 kv' (k + 1) (l.flatMap KidQ.cells ++ q.cells) :=
    ⟨h.own.at_.step own fm fr, fun b hb hn => by
      have := hne' b hb
      rcases hn with hn | hn
      · exact this.1 hn
      · exact this.2 hn⟩
  refine ⟨hown.at_.frm.set1 (.inr h.new3), ?_, ?_, h.new2, h.new3, h.ne, ?_, h.ents.turn turn, fun x hx => ?_, by rw [List.length_append, h.len]; rfl, ?_⟩
  · exact hset.blk (fm.blk h.b2 hb2) h.ne
  · exact set_at' (fm.blk h.b3 hb3) 1 kv'
  · rw [List.flatMap_append]
    simp only [List.flatMap_cons, List.flatMap_nil, List.append_nil]
    exact hown.set (.inr rfl) h.new3 _
  · rcases List.mem_append.1 hx with hx | hx
    · exact (h.kids x hx).turn turn
    · simp only [List.mem_singleton] at hx; subst hx; exact hq.turn turn
  · rw [appK_snoc, KidsL.drop_succ k ks hd, ← hd]
    exact h.all
/-- At the end. -/
theorem ClnAt.done {w ww : World} {h2 h3 n : Nat} {ev kv : Value} {es : List Ent} {ks : KidsL} {k : Nat} {l : List KidQ} (h : ClnAt w ww h2 h3 n ev kv es ks k l) (hn : n = es.length) (hk : ks.len ≤ k) :
    TreeAt (fun b => w.heap.size ≤ b) ((ww.setCell ⟨h2, 0, none⟩ ev).setCell ⟨h2, 1, none⟩ kv) ev kv es ks ∧ Frm NoS w ((ww.setCell ⟨h2, 0, none⟩ ev).setCell ⟨h2, 1, none⟩ kv) ∧
      ((ww.setCell ⟨h2, 0, none⟩ ev).setCell ⟨h2, 1, none⟩ kv).heap[h2]? = some (.cells #[ev, kv] 35 (0, 0)) := by
  have hks : ks = mkK l := by
    have := h.all
    rw [KidsL.drop_none hk] at this
    exact this
  have fset : Frm (fun b => b = h2) ww ((ww.setCell ⟨h2, 0, none⟩ ev).setCell ⟨h2, 1, none⟩ kv) :=
    (Frm.setCell (S := fun b => b = h2) ww (p := ⟨h2, 0, none⟩) (.inl rfl) ev).trans (Frm.setCell (S := fun b => b = h2) _ (p := ⟨h2, 1, none⟩) (.inl rfl) kv) fun _ _ h => h
  have turn : ∀ b, b < ww.heap.size → ClnQ w h2 h3 kv b → ((ww.setCell ⟨h2, 0, none⟩ ev).setCell ⟨h2, 1, none⟩ kv).heap[b]? = ww.heap[b]? ∧ w.heap.size ≤ b := fun b hb hQ => ⟨fset.block b hb hQ.2.1, hQ.1⟩
  refine ⟨⟨hn ▸ h.ents.turn turn, outK l, ?_, ?_⟩, (h.frm.set1 (p := ⟨h2, 0, none⟩) (.inr h.new2)).set1 (p := ⟨h2, 1, none⟩) (.inr h.new2), set_at' (set_at' h.b2 0 ev) 1 kv⟩
  · rw [hks, mkK_len, mkK_cells, h.len]
    have ho := fset.owns h.own.at_.own fun b hb he => h.own.but b hb (.inl he)
    exact ⟨Rd.own ho, fun _ b hb => h.own.at_.new b hb⟩
  · rw [hks]
    exact mkK_for fun q hq => (h.kids q hq).turn turn
end Go.Proofs.YtggfoihfenlckaaGreat
/- tree: clone: the walk. -/
namespace Go.Proofs.YtggfoihfenlckaaGreat
open Go.RowKit
def ClonePost (w : World) (es : List Ent) (ks : KidsL) (e : Ending) (w' : World) : Prop :=
  ∃ ev' kv', e = .returned (.agg #[ev', kv']) ∧ TreeAt (fun b => w.heap.size ≤ b) w' ev' kv' es ks ∧ Frm NoS w w'
set_option maxHeartbeats 4000000 in
set_option maxRecDepth 1000000 in
theorem tclone_any (Q : Nat → Prop) : ∀ (N : Nat) (es : List Ent) (ks : KidsL) (w : World) (ev kv : Value), sizeK ks < N → TreeAt Q w ev kv es ks → sizeT es ks ≤ 100000 →
    Calls Tryz.prog 155 #[.agg #[ev, kv]] w (ClonePost w es ks) := by
  intro N
  induction N with
  | zero => intros; exfalso; omega
  | succ N IHN =>
    intro es ks w ev kv hN ht hsz
    obtain ⟨i0, hi, hz0, hz1, hz2⟩ := info_parts info_kid
    obtain ⟨ae, ce, rfl⟩ := ht.ents.rd.sl
    obtain ⟨os, hkr, hfor⟩ := ht.kids
    obtain ⟨ak, ck, rfl⟩ := hkr.rd.sl
    have HE := Lib.hid ht.ents.rd
    have HKR := Lib.hid hkr.rd; clear hkr ht
    have HFOR := Lib.hid hfor; clear hfor
    have IH := Lib.hid IHN; clear IHN
    have hn5 : es.length ≤ 100000 := by unfold sizeT at hsz; omega
    have hm5 : ks.len ≤ 100000 := by have := len_le_sizeK ks; unfold sizeT at hsz; omega
    have HEN := Lib.hid (fun W (h : Frm NoS w W) => enClone_any W (.slice ae es.length ce) es (HE.out.keep0 h) hn5)
    have HSZ := Lib.hid hsz; clear hsz
    have HNN := Lib.hid hN; clear hN
    generalize hes : es.length = n at *
    have HN := Lib.hid hes; clear hes
    generalize hkl : ks.len = m at *
    have HM := Lib.hid hkl; clear hkl
    obtain ⟨WB, hWB⟩ : ∃ WB, WB = (w.alloc (.cells #[.slice ae n ce, .slice ak m ck] 35)).alloc (.cells #[.slice none 0 0, .slice none 0 0] 35) := ⟨_, rfl⟩
    have hfb : Frm NoS w WB := by rw [hWB]; exact (Frm.alloc _ _ _).alloc1
    have hb0 : WB.heap[w.heap.size]? = some (.cells #[.slice ae n ce, .slice ak m ck] 35 (0, 0)) := by rw [hWB, Below.heap_alloc _ _ _ (by simp)]; exact heap_alloc_new w _
    have hb2 : WB.heap[w.heap.size + 1]? = some (.cells #[.slice none 0 0, .slice none 0 0] 35 (0, 0)) := by
      rw [hWB]
      have := heap_alloc_new (w.alloc (.cells #[.slice ae n ce, .slice ak m ck] 35)) (.cells #[.slice none 0 0, .slice none 0 0] 35)
      simpa using this
    have hbs : WB.heap.size = w.heap.size + 1 + 1 := by rw [hWB]; simp
    have HFB := Lib.hid hfb; clear hfb
    have HB0 := Lib.hid hb0; clear hb0
    have HB2 := Lib.hid hb2; clear hb2
    have HBS := Lib.hid hbs; clear hbs
    have hcall : ∀ W, W = WB → Calls Tryz.prog 180 #[.slice ae n ce] W fun e w' => ∃ v', e = .returned v' ∧ OwnAt WB w' 137 4 v' n (entC es) := fun W hW => by rw [hW]; exact HEN.out WB HFB.out
    have HCALL := Lib.hid hcall; clear hcall
    have HWB := Lib.hid hWB.symm; clear hWB
    go_enter Tryz.func155, Tryz.ntmps155
    go_wp2_with (go_at_call 180; refine (HCALL.out _ HWB.out).mono ?_; rintro e w1 ⟨v1, rfl, ho1⟩; obtain ⟨a1, c1, rfl⟩ := ho1.shape; have HO1 := Lib.hid ho1; clear ho1; have b1 : w1.cell? ⟨w.heap.size, 1, none⟩ = some (.slice ak m ck) := HO1.out.frm.cell' (cell_at' HB0.out 1 rfl) id; have hlt1 : w.heap.size < w1.heap.size := World.block_lt_of_cell? _ _ b1)
    have hln : Frm NoS w (w1.alloc (.cells #[.slice a1 n c1, .slice none 0 0] 35)) := (HFB.out.then1 HO1.out.frm).alloc1
    have hc0 : ClnAt w (w1.alloc (.cells #[.slice a1 n c1, .slice none 0 0] 35)) (w.heap.size + 1) w1.heap.size n (.slice a1 n c1) (.slice none 0 0) es ks 0 [] := by
      have hs1 := HO1.out.frm.size
      have hbs := HBS.out
      refine ⟨hln, (Frm.alloc NoS _ _).blk (HO1.out.frm.blk HB2.out id) id, heap_alloc_new w1 _, by omega, by have := HFB.out.size; omega, by omega, OwnBut.nil hln _ _, ?_, fun q hq => (by cases hq), rfl, rfl⟩
      refine HO1.out.rdq.turn fun b hb hQ => ⟨Below.heap_alloc _ _ _ hb, by omega, by omega, by omega, by simp [Value.ownBlock]⟩
    have HC0 := Lib.hid hc0; clear hc0
    have HLN := Lib.hid hln; clear hln
    clear b1 hlt1
    go_loopw [13] (fun i ww => ∃ (k : Nat) (l : List KidQ) (kvv : Value), k ≤ m ∧ i = .int .i64 k ∧ ClnAt w ww (w.heap.size + 1) w1.heap.size n (.slice a1 n c1) kvv es ks k l) (fun i _ => m - (intOf i).toNat)
    case atStart => exact ⟨0, [], _, Nat.zero_le _, rfl, HC0.out⟩
    case round =>
      obtain ⟨k, l, kvv, hk, rfl, hc⟩ := hrel
      obtain ⟨av, cv, rfl⟩ := hc.own.at_.shape
      have HC := Lib.hid hc; clear hc
      by_cases hlt : k < m
      · obtain ⟨key, es', sub, rest, hdr⟩ := KidsL.drop_some (n := k) (ks := ks) (by rw [HM.out]; exact hlt)
        rcases Rd.shape HKR.out with ⟨ad, he, h0⟩ | ⟨b, off, cc, he, hmax⟩
        · exfalso; have := HM.out; omega
        · injection he with e1 e2 e3
          subst e1 e3
          clear e2
          obtain ⟨ev', kv', q0, q1, q2, hta⟩ := kid_at (HKR.out.keep0 HC.out.frm) (HFOR.out.keep0 HC.out.frm) hdr
          obtain ⟨ae', ce', rfl⟩ := hta.ents.rd.sl
          obtain ⟨os', hkr', hfor'⟩ := hta.kids
          obtain ⟨ak', ck', rfl⟩ := hkr'.rd.sl
          clear hkr' hfor'
          have HSS := Lib.hid (size_sub k hdr)
          have HST := Lib.hid (sizeT_sub k hdr)
          have HTA := Lib.hid hta; clear hta
          have HIH := Lib.hid (fun w' (h : Frm NoS wr w') => IH.out es' sub w' _ _ (by have := HSS.out; have := HNN.out; omega) (HTA.out.keep0 h) (by have := HST.out; have := HSZ.out; unfold sizeT at *; omega))
          have HDR := Lib.hid hdr; clear hdr
          have hkp : k ≤ 100000 := by omega
          generalize es'.length = n' at *
          generalize sub.len = m' at *
          have hsp : (wr.alloc (.cells #[.string key, .slice ae' n' ce', .slice ak' m' ck'] 139)).heap[wr.heap.size]? = some (.cells #[.string key, .slice ae' n' ce', .slice ak' m' ck'] 139 (0, 0)) := heap_alloc_new wr _
          have HSP := Lib.hid hsp; clear hsp
          have h3lt := lt_of_block HC.out.b3
          have h2lt := lt_of_block HC.out.b2
          have hvlt : ∀ b, (Value.slice av k cv).ownBlock = some b → b < wr.heap.size := fun b hb => HC.out.own.at_.lt b hb
          have HVLT := Lib.hid hvlt; clear hvlt
          have hfa : Frm NoS wr (wr.alloc (.cells #[.string key, .slice ae' n' ce', .slice ak' m' ck'] 139)).drew := (Frm.alloc _ _ _).drew1
          have HFA := Lib.hid hfa; clear hfa
          have hsz0 : (wr.alloc (.cells #[.string key, .slice ae' n' ce', .slice ak' m' ck'] 139)).drew.heap.size = wr.heap.size + 1 := by show (wr.alloc _).heap.size = _; simp
          have HSZ0 := Lib.hid hsz0; clear hsz0
          go_wp2_with fail
          refine wp_region_G (S := fun w' => w'.cell? ⟨wr.heap.size, 0, none⟩ = some (.string key) ∧ w'.cell? ⟨wr.heap.size, 1, none⟩ = some (.slice ae' n' ce') ∧ w'.cell? ⟨wr.heap.size, 2, none⟩ = some (.slice ak' m' ck') ∧ w'.cell? ⟨w1.heap.size, 1, none⟩ = some (.slice av k cv)) 11 (by kernel_rfl) ⟨cell_at' HSP.out 0 rfl, cell_at' HSP.out 1 rfl, cell_at' HSP.out 2 rfl, HFA.out.cell' (cell_at' HC.out.b3 1 rfl) id⟩ ?_
          intro hS
          generalize (wr.alloc (.cells #[.string key, .slice ae' n' ce', .slice ak' m' ck'] 139)).drew = Y0 at *
          refine take_opG 0 17 (v := ?_) rfl rfl (by kernel_rfl) (by kernel_rfl) (by decide) (by kernel_rfl) (by kernel_rfl) (fun _ _ _ h => h) (Or.inl ⟨by rfl, ?_⟩) (by assumption) ?_
          rotate_left 1
          · (intro w hSw; (try dsimp only at hSw); go_simp; (try with_reducible rfl))
          try simp only [Act.put, List.setIfInBounds_toArray, List.set_cons_zero, List.set_cons_succ]
          refine take_opG 1 18 (v := ?_) rfl rfl (by kernel_rfl) (by kernel_rfl) (by decide) (by kernel_rfl) (by kernel_rfl) (fun _ _ _ h => h) (Or.inl ⟨by rfl, ?_⟩) (by assumption) ?_
          rotate_left 1
          · (intro w hSw; (try dsimp only at hSw); go_simp; (try with_reducible rfl))
          try simp only [Act.put, List.setIfInBounds_toArray, List.set_cons_zero, List.set_cons_succ]
          refine take_opG 2 19 (v := ?_) rfl rfl (by kernel_rfl) (by kernel_rfl) (by decide) (by kernel_rfl) (by kernel_rfl) (fun _ _ _ h => h) (Or.inl ⟨by rfl, ?_⟩) (by assumption) ?_
          rotate_left 1
          · (intro w hSw; (try dsimp only at hSw); go_simp; (try with_reducible rfl))
          try simp only [Act.put, List.setIfInBounds_toArray, List.set_cons_zero, List.set_cons_succ]
          refine take_opG 3 20 (v := ?_) rfl rfl (by kernel_rfl) (by kernel_rfl) (by decide) (by kernel_rfl) (by kernel_rfl) (fun _ _ _ h => h) (Or.inl ⟨by rfl, ?_⟩) (by assumption) ?_
          rotate_left 1
          · (intro w hSw; (try dsimp only at hSw); go_simp; (try with_reducible rfl))
          try simp only [Act.put, List.setIfInBounds_toArray, List.set_cons_zero, List.set_cons_succ]
          refine take_opG 4 21 (v := ?_) rfl rfl (by kernel_rfl) (by kernel_rfl) (by decide) (by kernel_rfl) (by kernel_rfl) (fun _ _ _ h => h) (Or.inl ⟨by rfl, ?_⟩) (by assumption) ?_
          rotate_left 1
          · (intro w hSw; (try dsimp only at hSw); go_simp; (try with_reducible rfl))
          try simp only [Act.put, List.setIfInBounds_toArray, List.set_cons_zero, List.set_cons_succ]
          refine take_opG 5 22 (v := ?_) rfl rfl (by kernel_rfl) (by kernel_rfl) (by decide) (by kernel_rfl) (by kernel_rfl) (fun _ _ _ h => h) (Or.inl ⟨by rfl, ?_⟩) (by assumption) ?_
          rotate_left 1
          · (intro w hSw; (try dsimp only at hSw); go_simp; (try with_reducible rfl))
          try simp only [Act.put, List.setIfInBounds_toArray, List.set_cons_zero, List.set_cons_succ]
          refine one_opG (i := 6) (by kernel_rfl) rfl (fun K hK => ?_)
          go_simp
          refine (HIH.out _ HFA.out).mono ?_
          rintro e Y ⟨ev3, kv3, rfl, hta3, hf3⟩
          obtain ⟨a3, c3, rfl⟩ := hta3.ents.rd.sl
          obtain ⟨os3, hkr3, -⟩ := hta3.kids
          obtain ⟨a4, c4, rfl⟩ := hkr3.rd.sl
          clear hkr3
          have HTA3 := Lib.hid hta3; clear hta3
          have HF3 := Lib.hid hf3; clear hf3
          generalize es'.length = n3 at *
          generalize sub.len = m3 at *
          have hS3 : Y.cell? ⟨wr.heap.size, 0, none⟩ = some (.string key) ∧ Y.cell? ⟨wr.heap.size, 1, none⟩ = some (.slice ae' n' ce') ∧ Y.cell? ⟨wr.heap.size, 2, none⟩ = some (.slice ak' m' ck') ∧ Y.cell? ⟨w1.heap.size, 1, none⟩ = some (.slice av k cv) := ⟨HF3.out.cell' hS.1 id, HF3.out.cell' hS.2.1 id, HF3.out.cell' hS.2.2.1 id, HF3.out.cell' hS.2.2.2 id⟩
          refine hK.out _ _ hS3 ?_
          clear hK K hS
          try simp only [Act.put, List.setIfInBounds_toArray, List.set_cons_zero, List.set_cons_succ]
          refine take_opG 7 24 (v := ?_) rfl rfl (by kernel_rfl) (by kernel_rfl) (by decide) (by kernel_rfl) (by kernel_rfl) (fun _ _ _ h => h) (Or.inl ⟨by rfl, ?_⟩) (by assumption) ?_
          rotate_left 1
          · (intro w hSw; (try dsimp only at hSw); go_simp; (try with_reducible rfl))
          try simp only [Act.put, List.setIfInBounds_toArray, List.set_cons_zero, List.set_cons_succ]
          refine one_opG (i := 8) (by kernel_rfl) rfl (fun K hK => ?_)
          go_simp
          have hS4 : (Y.alloc (.cells #[.string key, .slice a3 n3 c3, .slice a4 m3 c4] 139)).cell? ⟨wr.heap.size, 0, none⟩ = some (.string key) ∧ (Y.alloc (.cells #[.string key, .slice a3 n3 c3, .slice a4 m3 c4] 139)).cell? ⟨wr.heap.size, 1, none⟩ = some (.slice ae' n' ce') ∧ (Y.alloc (.cells #[.string key, .slice a3 n3 c3, .slice a4 m3 c4] 139)).cell? ⟨wr.heap.size, 2, none⟩ = some (.slice ak' m' ck') ∧ (Y.alloc (.cells #[.string key, .slice a3 n3 c3, .slice a4 m3 c4] 139)).cell? ⟨w1.heap.size, 1, none⟩ = some (.slice av k cv) := ⟨(Frm.alloc NoS Y _).cell' hS3.1 id, (Frm.alloc NoS Y _).cell' hS3.2.1 id, (Frm.alloc NoS Y _).cell' hS3.2.2.1 id, (Frm.alloc NoS Y _).cell' hS3.2.2.2 id⟩
          refine hK.out _ _ hS4 ?_
          clear hK K
          try simp only [Act.put, List.setIfInBounds_toArray, List.set_cons_zero, List.set_cons_succ]
          refine one_opG (i := 9) (by kernel_rfl) rfl (fun K hK => ?_)
          have HCY := Lib.hid ((HC.out.keep HFA.out).keep HF3.out)
          have hsY : wr.heap.size < Y.heap.size := by have := HF3.out.size; have := HSZ0.out; omega
          refine step_appB (fun b => b < Y.heap.size ∧ (Value.slice av k cv).ownBlock ≠ some b) w Y [.string key, .slice a3 n3 c3, .slice a4 m3 c4] rfl (.tmp 18) (.tmp 25) 33 rfl 139 i0 _ 3 64 Tryz.underlying33 hi hz0 hz1 hz2 (by decide) (by decide) (.slice av k cv) k _ ⟨HCY.out.own.at_, fun b hb hn => hn.2 hb⟩ (fun b hb => hb.1) 1 1 (by simp [Act.eval]) (by simp [Act.eval]) rfl (by simp [Value.oneCell']) (by simp only [maxLen]; omega) (by omega) ?_
          intro ad cc2 w2 own2 kp2
          have hnk : ∀ b, b ≤ wr.heap.size → (Value.slice av k cv).ownBlock ≠ some b → b < Y.heap.size ∧ (Value.slice av k cv).ownBlock ≠ some b := fun b hb hn => ⟨by omega, hn⟩
          have hle3 : w1.heap.size ≤ wr.heap.size := Nat.le_of_lt h3lt
          have hn5 : (Value.slice av k cv).ownBlock ≠ some wr.heap.size := fun h => by have := HVLT.out _ h; omega
          have hn3 : (Value.slice av k cv).ownBlock ≠ some w1.heap.size := fun h => HC.out.own.but _ h (.inr rfl)
          have hS5 : w2.cell? ⟨wr.heap.size, 0, none⟩ = some (.string key) ∧ w2.cell? ⟨wr.heap.size, 1, none⟩ = some (.slice ae' n' ce') ∧ w2.cell? ⟨wr.heap.size, 2, none⟩ = some (.slice ak' m' ck') ∧ w2.cell? ⟨w1.heap.size, 1, none⟩ = some (.slice av k cv) := ⟨kp2.cell (hnk _ (Nat.le_refl _) hn5) hS3.1, kp2.cell (hnk _ (Nat.le_refl _) hn5) hS3.2.1, kp2.cell (hnk _ (Nat.le_refl _) hn5) hS3.2.2.1, kp2.cell (hnk _ hle3 hn3) hS3.2.2.2⟩
          refine hK.out _ _ hS5 ?_
          clear hK K hS4
          have hcf : w2.frozen? ⟨w1.heap.size, 1, none⟩ = false := kp2.frozen (p := ⟨w1.heap.size, 1, none⟩) (hnk _ hle3 hn3) (free_at' HCY.out.b3 1)
          have hfm : Frm (RowS (.slice av k cv)) Y w2 := ⟨own2.at_.frm.os.trans HCY.out.frm.os.symm, own2.at_.frm.tape.trans HCY.out.frm.tape.symm, own2.at_.frm.output.trans HCY.out.frm.output.symm, kp2.1, fun b hb hn => kp2.2 b ⟨hb, hn⟩⟩
          have hfr : Fresh Y (.slice av k cv) (.slice ad (k + 1) cc2) := fun b hb => by
            by_cases h1 : (Value.slice av k cv).ownBlock = some b
            · exact .inl h1
            · refine .inr ?_
              have := own2.but b hb
              rcases Nat.lt_or_ge b Y.heap.size with h2 | h2
              · exact absurd ⟨h2, h1⟩ this
              · exact h2
          have hq3 : TreeAt (ClnQ w (w.heap.size + 1) w1.heap.size (.slice av k cv)) Y (.slice a3 n3 c3) (.slice a4 m3 c4) es' sub := HTA3.out.turn fun b hb hQ => by
            have h0 := HSZ0.out
            have h1 := HC.out.frm.size
            refine ⟨rfl, by omega, by omega, by omega, fun h => ?_⟩
            have := HVLT.out _ h
            omega
          have HSTP := Lib.hid (HCY.out.step (q := ⟨key, es', sub, .slice a3 n3 c3, .slice a4 m3 c4⟩) HDR.out hq3 own2.at_.own hfm hfr)
          clear own2 kp2 hfm hfr hq3 hnk hn5 hn3 hsY
          try simp only [Act.put, List.setIfInBounds_toArray, List.set_cons_zero, List.set_cons_succ]
          refine take_opG 10 27 (v := ?_) rfl rfl (by kernel_rfl) (by kernel_rfl) (by decide) (by kernel_rfl) (by kernel_rfl) (fun _ _ _ h => h) (Or.inl ⟨by rfl, ?_⟩) (by assumption) ?_
          rotate_left 1
          · (intro w hSw; (try dsimp only at hSw); go_simp; (try with_reducible rfl))
          try simp only [Act.put, List.setIfInBounds_toArray, List.set_cons_zero, List.set_cons_succ]
          refine last_opG (by kernel_rfl) (by kernel_rfl) rfl (fun K hK => ?_)
          have hcz := hS5.2.2.2
          clear hS5 hS3
          go_simp
          refine hK.out _ _ ?_
          clear hK K hcz hcf
          go_wp2
          go_roundw
          case rel => exact ⟨k + 1, _, _, by omega, by go_num, HSTP.out⟩
          case measure => simp [intOf]; omega
      · obtain rfl : m = k := by omega
        have hdn := HC.out.done HN.out.symm (by rw [HM.out]; exact Nat.le_refl _)
        have HDN := Lib.hid hdn; clear hdn
        have y0 := cell_at' HC.out.b3 0 rfl
        have y1 := cell_at' HC.out.b3 1 rfl
        have z0 := cell_at' HC.out.b2 0 rfl
        have z1 := cell_at' HC.out.b2 1 rfl
        have f0 := free_at' HC.out.b2 0
        have f1 := free_at' HC.out.b2 1
        go_wp2
        clear y0 y1 z0 z1
        have y0 := cell_at' HDN.out.2.2 0 rfl
        have y1 := cell_at' HDN.out.2.2 1 rfl
        exact bodyPost_ret (v := .agg #[.slice a1 n c1, .slice av m cv]) (by simp [results, Tryz.results155, go_sem, y0, y1]) rfl ⟨_, _, rfl, HDN.out.1, HDN.out.2.1⟩
end Go.Proofs.YtggfoihfenlckaaGreat
/- Stores into a result's block. -/
namespace Go.Proofs.YtggfoihfenlckaaGreat
open Go.RowKit
theorem set_else {w : World} {b j k : Nat} {v : Value} (h : k ≠ b) : (w.setCell ⟨b, j, none⟩ v).heap[k]? = w.heap[k]? := Below.heap_setCell _ _ _ _ h
theorem res2 {w0 w : World} {b : Nat} {T : TypeId} {a0 a1 : Value} (h : w.heap[b]? = some (.cells #[a0, a1] T (0, 0))) (f : Frm NoS w0 w) (hb : w0.heap.size ≤ b) (v0 v1 : Value) :
    ((w.setCell ⟨b, 0, none⟩ v0).setCell ⟨b, 1, none⟩ v1).heap[b]? = some (.cells #[v0, v1] T (0, 0)) ∧ Frm NoS w0 ((w.setCell ⟨b, 0, none⟩ v0).setCell ⟨b, 1, none⟩ v1) ∧
      ∀ k, k ≠ b → ((w.setCell ⟨b, 0, none⟩ v0).setCell ⟨b, 1, none⟩ v1).heap[k]? = w.heap[k]? :=
  ⟨set_at' (set_at' h 0 v0) 1 v1, (f.set1 (p := ⟨b, 0, none⟩) (.inr hb)).set1 (p := ⟨b, 1, none⟩) (.inr hb), fun k hk => (set_else hk).trans (set_else hk)⟩
theorem res3 {w0 w : World} {b : Nat} {T : TypeId} {a0 a1 a2 : Value} (h : w.heap[b]? = some (.cells #[a0, a1, a2] T (0, 0))) (f : Frm NoS w0 w) (hb : w0.heap.size ≤ b) (v0 v1 v2 : Value) :
    (((w.setCell ⟨b, 0, none⟩ v0).setCell ⟨b, 1, none⟩ v1).setCell ⟨b, 2, none⟩ v2).heap[b]? = some (.cells #[v0, v1, v2] T (0, 0)) ∧ Frm NoS w0 (((w.setCell ⟨b, 0, none⟩ v0).setCell ⟨b, 1, none⟩ v1).setCell ⟨b, 2, none⟩ v2) ∧
      ∀ k, k ≠ b → (((w.setCell ⟨b, 0, none⟩ v0).setCell ⟨b, 1, none⟩ v1).setCell ⟨b, 2, none⟩ v2).heap[k]? = w.heap[k]? :=
  ⟨set_at' (set_at' (set_at' h 0 v0) 1 v1) 2 v2, ((f.set1 (p := ⟨b, 0, none⟩) (.inr hb)).set1 (p := ⟨b, 1, none⟩) (.inr hb)).set1 (p := ⟨b, 2, none⟩) (.inr hb), fun k hk => ((set_else hk).trans (set_else hk)).trans (set_else hk)⟩
/-- The result's block, and a block for an argument ahead of it. -/
theorem two_blocks (w : World) (o : Obj) (cs : Array Value) (T : TypeId) : ((w.alloc o).alloc (.cells cs T)).heap[w.heap.size + 1]? = some (.cells cs T (0, 0)) ∧ Frm NoS w ((w.alloc o).alloc (.cells cs T)) ∧ ((w.alloc o).alloc (.cells cs T)).heap.size = w.heap.size + 1 + 1 := by
  refine ⟨?_, (Frm.alloc _ _ _).alloc1, by simp⟩
  have := heap_alloc_new (w.alloc o) (.cells cs T)
  simpa using this
/-- An argument's block behind whatever laid new memory. -/
theorem box2 (w : World) (v0 v1 : Value) (T : TypeId) (W : World) (f : Frm NoS (w.alloc (.cells #[v0, v1] T)) W) : W.cell? ⟨w.heap.size, 0, none⟩ = some v0 ∧ W.cell? ⟨w.heap.size, 1, none⟩ = some v1 :=
  ⟨f.cell' (cell_at' (heap_alloc_new w _) 0 rfl) id, f.cell' (cell_at' (heap_alloc_new w _) 1 rfl) id⟩
theorem box3 (w : World) (v0 v1 v2 : Value) (T : TypeId) (W : World) (f : Frm NoS (w.alloc (.cells #[v0, v1, v2] T)) W) : W.cell? ⟨w.heap.size, 0, none⟩ = some v0 ∧ W.cell? ⟨w.heap.size, 1, none⟩ = some v1 ∧ W.cell? ⟨w.heap.size, 2, none⟩ = some v2 :=
  ⟨f.cell' (cell_at' (heap_alloc_new w _) 0 rfl) id, f.cell' (cell_at' (heap_alloc_new w _) 1 rfl) id, f.cell' (cell_at' (heap_alloc_new w _) 2 rfl) id⟩
end Go.Proofs.YtggfoihfenlckaaGreat
/- tree: Right, Dots, Clone: the walks. -/
namespace Go.Proofs.YtggfoihfenlckaaGreat
open Go.RowKit
set_option maxRecDepth 100000 in
theorem tRight_any (Q : Nat → Prop) (es : List Ent) (ks : KidsL) (w : World) (ev kv : Value) (ht : TreeAt Q w ev kv es ks) (hok : TrOk es ks) :
    Calls Tryz.prog 81 #[.agg #[ev, kv]] w fun e w' => e = .returned (.bool (rightT 5 es ks)) ∧ Frm NoS w w' := by
  obtain ⟨ae, ce, rfl⟩ := ht.ents.rd.sl
  obtain ⟨os, hkr, hfor⟩ := ht.kids
  obtain ⟨ak, ck, rfl⟩ := hkr.rd.sl
  have hc : ∀ W, Frm NoS w W → Calls Tryz.prog 128 #[.agg #[.slice ae es.length ce, .slice ak ks.len ck], .int .i64 5] W fun e w' => e = .returned (.bool (rightT 5 es ks)) ∧ Frm NoS W w' := fun W f => tright_any Q _ es ks 5 W _ _ (Nat.lt_succ_self _) (ht.keep0 f) hok (by omega)
  have HC := Lib.hid hc
  clear hkr hfor ht hok hc
  generalize rightT 5 es ks = y at *
  generalize es.length = n at *
  generalize ks.len = m at *
  go_enter Tryz.func81, Tryz.ntmps81
  go_wp2_with (go_at_call 128; refine (HC.out _ (Frm.alloc _ _ _)).mono ?_; rintro e w3 ⟨rfl, hw3⟩; have HW3 := Lib.hid ((Frm.alloc NoS _ _).then1 hw3); clear hw3)
  go_ret
  exact ⟨rfl, HW3.out⟩
def DotsPost (w : World) (es : List Ent) (ks : KidsL) (e : Ending) (w' : World) : Prop :=
  Frm NoS w w' ∧ (rightT 5 es ks = true → ∃ v' c, e = .returned (.tuple #[v', .int .i64 0]) ∧ OwnAt w w' 122 3 v' c.length (spC c) ∧ OfC (dotsT es ks) c ∧ c.length ≤ 16000) ∧ (rightT 5 es ks = false → e = .returned (.tuple #[.slice none 0 0, .int .i64 1]))
set_option maxRecDepth 100000 in
theorem tDots_any (Q : Nat → Prop) (es : List Ent) (ks : KidsL) (w : World) (ev kv : Value) (ht : TreeAt Q w ev kv es ks) (hok : TrOk es ks) (hsz : sizeT es ks ≤ 4000) :
    Calls Tryz.prog 129 #[.agg #[ev, kv]] w (DotsPost w es ks) := by
  obtain ⟨ae, ce, rfl⟩ := ht.ents.rd.sl
  obtain ⟨os, hkr, hfor⟩ := ht.kids
  obtain ⟨ak, ck, rfl⟩ := hkr.rd.sl
  have HR := Lib.hid (fun W (f : Frm NoS w W) => tRight_any Q es ks W _ _ (ht.keep0 f) hok)
  have HA := Lib.hid (fun w' (h : Frm NoS w w') => tall_any Q _ es ks w' _ _ (Nat.lt_succ_self _) (ht.keep0 h) (by omega))
  have hdl := dotsT_length_le es ks
  have HDL := Lib.hid (show (dotsT es ks).length ≤ 4000 by omega)
  clear hkr hfor ht hok hsz hdl
  by_cases hr : rightT 5 es ks = true
  · have HDK := Lib.hid (rightT_dots hr)
    rw [hr] at HR
    have HRT := Lib.hid hr; clear hr
    have hpost : ∀ e w', Frm NoS w w' → (∃ v' c, e = .returned (.tuple #[v', .int .i64 0]) ∧ OwnAt w w' 122 3 v' c.length (spC c) ∧ OfC (dotsT es ks) c ∧ c.length ≤ 16000) → DotsPost w es ks e w' := fun e w' h1 h2 => ⟨h1, fun _ => h2, fun h => by rw [HRT.out] at h; cases h⟩
    have HPOST := Lib.hid hpost; clear hpost
    generalize dotsT es ks = l at *
    generalize es.length = n at *
    generalize ks.len = m at *
    go_enter Tryz.func129, Tryz.ntmps129
    go_wp2_with (first
      | (go_at_call 81; go_loud (refine (HR.out _ (Frm.alloc _ _ _)).mono ?_); rintro e w1 ⟨rfl, hw1⟩; obtain ⟨y0, y1⟩ := box2 w _ _ _ w1 hw1; have HW1 := Lib.hid ((Frm.alloc NoS _ _).then1 hw1); clear hw1)
      | (go_at_call 168; go_loud (refine (HA.out _ HW1.out).mono ?_); rintro e w2 ⟨v2, rfl, ho2⟩; obtain ⟨a2, c2, rfl⟩ := ho2.shape; have HO2 := Lib.hid ho2; clear ho2)
      | (go_at_call 167; go_loud (refine (cOf_ok _ _ l HO2.out.rd HDK.out (by have := HDL.out; omega)).mono ?_); rintro e w3 ⟨v3, c, rfl, ho3, hof, -⟩; obtain ⟨a3, c3, rfl⟩ := ho3.shape; have HO3 := Lib.hid ho3; clear ho3; have HOF := Lib.hid hof; clear hof))
    go_ret2
    have hf := (HW1.out.then1 HO2.out.frm).then1 HO3.out.frm
    exact HPOST.out _ _ hf ⟨_, c, rfl, HO3.out.base (HW1.out.then1 HO2.out.frm), HOF.out, by have := HOF.out.length; have := HDL.out; omega⟩
  · have hr' : rightT 5 es ks = false := by simpa using hr
    rw [hr'] at HR
    have HRT := Lib.hid hr'; clear hr hr' HDL HA
    have hpost : ∀ w', Frm NoS w w' → DotsPost w es ks (.returned (.tuple #[.slice none 0 0, .int .i64 1])) w' := fun w' h1 => ⟨h1, (fun h => by rw [HRT.out] at h; cases h), fun _ => rfl⟩
    have HPOST := Lib.hid hpost; clear hpost HRT
    generalize es.length = n at *
    generalize ks.len = m at *
    go_enter Tryz.func129, Tryz.ntmps129
    go_wp2_with (go_at_call 81; go_loud (refine (HR.out _ (Frm.alloc _ _ _)).mono ?_); rintro e w1 ⟨rfl, hw1⟩; have HW1 := Lib.hid ((Frm.alloc NoS _ _).then1 hw1); clear hw1)
    go_ret2
    exact HPOST.out _ HW1.out
set_option maxRecDepth 100000 in
theorem tClone_any (Q : Nat → Prop) (es : List Ent) (ks : KidsL) (w : World) (ev kv : Value) (ht : TreeAt Q w ev kv es ks) (hok : TrOk es ks) (hsz : sizeT es ks ≤ 4000) (hr : rightT 5 es ks = true) :
    Calls Tryz.prog 113 #[.agg #[ev, kv]] w (ClonePost w es ks) := by
  obtain ⟨ae, ce, rfl⟩ := ht.ents.rd.sl
  obtain ⟨os, hkr, hfor⟩ := ht.kids
  obtain ⟨ak, ck, rfl⟩ := hkr.rd.sl
  have HR := Lib.hid (fun W (f : Frm NoS w W) => tRight_any Q es ks W _ _ (ht.keep0 f) hok)
  have HA := Lib.hid (fun w' (h : Frm NoS w w') => tclone_any Q _ es ks w' _ _ (Nat.lt_succ_self _) (ht.keep0 h) (by omega))
  rw [hr] at HR
  have HPO := Lib.hid (show ∀ w1 w', Frm NoS w w1 → ∀ ev' kv', TreeAt (fun b => w1.heap.size ≤ b) w' ev' kv' es ks → TreeAt (fun b => w.heap.size ≤ b) w' ev' kv' es ks from fun w1 w' h ev' kv' h2 => h2.turn fun b hb hQ => ⟨rfl, Nat.le_trans h.size hQ⟩)
  clear hkr hfor ht hok hsz hr
  generalize hes : es.length = n at *
  generalize hkl : ks.len = m at *
  obtain ⟨hb2, hfb, hbs⟩ := two_blocks w (.cells #[.slice ae n ce, .slice ak m ck] 35) #[.slice none 0 0, .slice none 0 0] 35
  have HB2 := Lib.hid hb2; clear hb2
  have HFB := Lib.hid hfb; clear hfb
  have HBS := Lib.hid hbs; clear hbs
  have HES := Lib.hid hes; clear hes
  have HKL := Lib.hid hkl; clear hkl
  go_enter Tryz.func113, Tryz.ntmps113
  go_wp2_with (first
    | (go_at_call 81; refine (HR.out _ HFB.out).mono ?_; rintro e w1 ⟨rfl, hw1⟩; obtain ⟨y0, y1⟩ := box2 w _ _ _ w1 ((Frm.alloc NoS _ _).then1 hw1); have HW1 := Lib.hid hw1; clear hw1)
    | (go_at_call 155; refine (HA.out _ (HFB.out.then1 HW1.out)).mono ?_; rintro e w2 ⟨ev3, kv3, rfl, hta3, hf3⟩; obtain ⟨a3, c3, rfl⟩ := hta3.ents.rd.sl; obtain ⟨os3, hkr3, -⟩ := hta3.kids; obtain ⟨a4, c4, rfl⟩ := hkr3.rd.sl; clear hkr3; have hblk := hf3.blk (HW1.out.blk HB2.out id) id; have y0 := cell_at' hblk 0 rfl; have y1 := cell_at' hblk 1 rfl; have g0 := free_at' hblk 0; have g1 := free_at' hblk 1; have hsb := Lib.hid (lt_of_block hblk); have HR2 := Lib.hid (res2 hblk ((HFB.out.then1 HW1.out).then1 hf3) (by omega) (.slice a3 es.length c3) (.slice a4 ks.len c4)); have hs1 := HW1.out.size; have HP := Lib.hid (hta3.turn (Q' := fun b => w.heap.size ≤ b) fun b hb hQ => ⟨HR2.out.2.2 b (by have := HBS.out; omega), by have := HBS.out; omega⟩); clear hta3 hf3 hblk hs1; rw [HES.out, HKL.out] at HR2 HP; rw [HES.out, HKL.out]))
  clear y0 y1
  have y0 := cell_at' HR2.out.1 0 rfl
  have y1 := cell_at' HR2.out.1 1 rfl
  exact bodyPost_ret (v := .agg #[.slice a3 n c3, .slice a4 m c4]) (by simp [results, Tryz.results113, go_sem, y0, y1]) rfl ⟨_, _, rfl, HP.out, HR2.out.2.1⟩
end Go.Proofs.YtggfoihfenlckaaGreat