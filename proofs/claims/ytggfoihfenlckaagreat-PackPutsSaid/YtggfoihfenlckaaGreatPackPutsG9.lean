/- Words for the law PackPuts: R8b, TAll, TEnt. -/
import Derived.Test.YtggfoihfenlckaaGreatPackPutsG5
import Derived.Test.YtggfoihfenlckaaGreatPackPutsG8
set_option linter.unusedSimpArgs false
set_option linter.unusedVariables false
/- tributaryref08: right: the walk (printed by wip/treegen.py). -/
namespace Go.Proofs.YtggfoihfenlckaaGreat
open Go.RowKit
theorem Calls.frm_of_same {P : Program} {f : FuncId} {args : Array Value} {w : World} {v : Value} (h : Calls P f args w fun e w' => e = .returned v ∧ w' = w) : Calls P f args w fun e w' => e = .returned v ∧ Frm (fun _ => False) w w' :=
  h.mono fun _ _ ⟨h1, h2⟩ => ⟨h1, by rw [h2]; exact Frm.refl _ _⟩
theorem geq_str (t : TypeId) (a b : ByteArray) : binOp .geq t (.string a) (.string b) = pure (.bool !(Op.bytesLess a.toList b.toList)) := by simp [binOp, Op.stringOp]
theorem size_sub : ∀ (n : Nat) {ks : KidsL} {key : ByteArray} {es : List Ent} {sub rest : KidsL}, ks.drop n = .cons key es sub rest → sizeK sub < sizeK ks
  | 0, .cons _ _ _ _, _, _, _, _, h => by
    cases h
    simp only [sizeK]
    omega
  | 0, .nil, _, _, _, _, h => by cases h
  | n + 1, .nil, _, _, _, _, h => by cases h
  | n + 1, .cons _ _ _ r, _, _, _, _, h => by
    have h1 : r.drop n = _ := h
    have := size_sub n h1
    simp only [sizeK]
    omega
theorem rightKs_drop {ks : KidsL} {d n : Nat} {key : ByteArray} {es : List Ent} {sub rest : KidsL} {p : Option ByteArray} (h : ks.drop n = .cons key es sub rest) : rightKs (ks.drop n) d p = (keyB key && ltK p key && !isNil es sub && rightT d es sub && rightKs (ks.drop (n + 1)) d (some key)) := by
  rw [h, KidsL.drop_succ n ks h, rightKs_cons]
def PrevK (ks : KidsL) (n : Nat) (p : Option ByteArray) : Prop := (n = 0 ∧ p = none) ∨ ∃ j key es sub rest, n = j + 1 ∧ ks.drop j = .cons key es sub rest ∧ p = some key
theorem isNil_int (es : List Ent) (ks : KidsL) : ((((es.length : Int) + (ks.len : Int)) == 0)) = isNil es ks := by
  rw [Bool.eq_iff_iff]
  simp only [isNil, beq_iff_eq, decide_eq_true_eq]
  omega
theorem d_small {d : Nat} (h : d ≤ 100) : wrap64 (d : Int) = d := by unfold wrap64; omega
set_option maxHeartbeats 4000000 in
set_option maxRecDepth 1000000 in
theorem r8right_any (Q : Nat → Prop) : ∀ (N : Nat) (es : List Ent) (ks : KidsL) (d : Nat) (w : World) (ev kv : Value), sizeK ks < N → TreeAt Q w ev kv es ks → TrOk es ks → d ≤ 100 →
    Calls Tryz.prog 122 #[.agg #[ev, kv], .int .i64 d] w fun e w' => e = .returned (.bool (rightT d es ks)) ∧ Frm NoS w w' := by
  intro N
  induction N with
  | zero => intros; exfalso; omega
  | succ N IHN =>
    intro es ks d w ev kv hN ht hok hd
    obtain ⟨ae, ce, rfl⟩ := ht.ents.rd.sl
    obtain ⟨os, hkr, hfor⟩ := ht.kids
    obtain ⟨ak, ck, rfl⟩ := hkr.rd.sl
    have HT := Lib.hid ht; clear ht
    have HKR := Lib.hid hkr.rd; clear hkr
    have HFOR := Lib.hid hfor; clear hfor
    have IH := Lib.hid IHN; clear IHN
    have HWB := Lib.hid (Frm.alloc NoS w (.cells #[.slice ae es.length ce, .slice ak ks.len ck] 35))
    have box0 : (w.alloc (.cells #[.slice ae es.length ce, .slice ak ks.len ck] 35)).cell? ⟨w.heap.size, 0, none⟩ = some (.slice ae es.length ce) := cell_at' (heap_alloc_new w _) 0 rfl
    have box1 : (w.alloc (.cells #[.slice ae es.length ce, .slice ak ks.len ck] 35)).cell? ⟨w.heap.size, 1, none⟩ = some (.slice ak ks.len ck) := cell_at' (heap_alloc_new w _) 1 rfl
    have B0 := Lib.hid box0; clear box0
    have B1 := Lib.hid box1; clear box1
    have HEL := Lib.hid hok.es.len
    have HKL := Lib.hid hok.len
    have HOK := Lib.hid hok; clear hok
    have HSZ := Lib.hid hN; clear hN
    cases d with
    | zero =>
      go_enter Tryz.func122, Tryz.ntmps122
      go_wp2
      go_ret
      exact ⟨ret_bool (by simp [rightT]), HWB.out⟩
    | succ d =>
      generalize hes : es.length = n at *
      have HN := Lib.hid hes; clear hes
      generalize hkl : ks.len = m at *
      have HM := Lib.hid hkl; clear hkl
      have hdz : (((d + 1 : Nat) : Int) == 0) = false := by simp; omega
      have hwd : wrap64 (d : Int) = d := d_small (by omega)
      have HD := Lib.hid hd; clear hd
      go_enter Tryz.func122, Tryz.ntmps122
      go_wp2
      go_loopw [13] (fun i ww => ∃ k : Nat, k ≤ n ∧ i = .int .i64 k ∧ rightEs none (es.take k) = true ∧ Frm NoS (w.alloc (.cells #[.slice ae n ce, .slice ak m ck] 35)) ww) (fun i _ => n - (intOf i).toNat)
      case atStart => exact ⟨0, Nat.zero_le _, rfl, rfl, Frm.refl _ _⟩
      case round =>
        obtain ⟨k, hk, rfl, hr, hw⟩ := hrel
        have HW := Lib.hid hw; clear hw
        have HR := Lib.hid hr; clear hr
        have b0 := HW.out.cell' B0.out id
        by_cases hlt : k < n
        · have hnm : (n : Int) ≤ 9223372036854775807 := by have := HEL.out; omega
          rcases Rd.shape (HT.out.ents.rd.keep0 (HWB.out.then1 HW.out)) with ⟨ad, he, h0⟩ | ⟨b, off, cc, he, hmax⟩
          · exfalso; have := HN.out; omega
          · injection he with e1 e2 e3
            subst e1 e3
            clear e2 hmax
            have her := HT.out.ents.rd.keep0 (HWB.out.then1 HW.out)
            rw [HN.out] at her
            obtain ⟨q0, q1, q2, q3⟩ := ent_at her k (by rw [HN.out]; exact hlt)
            have hsz := (HOK.out.es.at (show k < es.length by rw [HN.out]; exact hlt)).2.2.2
            clear her
            obtain ⟨α, hne, K, hK1, hK0, hK2⟩ := worlds wr
            have kb0 := fun s => (hK1 s).cell' b0 id
            rcases Nat.eq_zero_or_pos k with rfl | hk0
            · have hS := rightEs_step0 (l := es) (by rw [HN.out]; exact hlt)
              generalize es.getD 0 Ent.zero = e at *
              simp only [Nat.zero_mul, Nat.add_zero] at q0 q1 q2 q3
              have k0 := fun s => (hK1 s).cell' q0 id
              have k1 := fun s => (hK1 s).cell' q1 id
              have k2 := fun s => (hK1 s).cell' q2 id
              have k3 := fun s => (hK1 s).cell' q3 id
              clear q0 q1 q2 q3
              cases he : entB e with
              | false =>
                rw [he] at hS
                have HS := Lib.hid hS; clear hS
                go_wp2_with fail
                refine wp_region_new K (by kernel_rfl) (by kernel_rfl) hK0 ?_
                repeat (go_big_quiet_step ((first | (go_at_call 157; exact Calls.in_class hK2 (r8entry_any e hsz _)) | (go_at_call 158; exact Calls.in_class hK2 (r5Less_any _ _ _ _ _)))))
                refine wpQuiet_nil ?_
                intro w' hw'
                obtain ⟨s, rfl⟩ := hw'
                have hfs := hK1 s
                go_wp2
                go_ret
                exact ⟨ret_bool (by rw [rightT, not_rightEs HS.out]; simp), HWB.out.then1 (HW.out.then1 hfs)⟩
              | true =>
                rw [he] at hS
                have HS := Lib.hid hS; clear hS
                go_wp2_with fail
                refine wp_region_new K (by kernel_rfl) (by kernel_rfl) hK0 ?_
                repeat (go_big_quiet_step ((first | (go_at_call 157; exact Calls.in_class hK2 (r8entry_any e hsz _)) | (go_at_call 158; exact Calls.in_class hK2 (r5Less_any _ _ _ _ _)))))
                refine wpQuiet_nil ?_
                intro w' hw'
                obtain ⟨s, rfl⟩ := hw'
                have hfs := hK1 s
                go_wp2
                go_roundw
                case rel => exact ⟨0 + 1, by omega, by go_num, HS.out, HW.out.then1 hfs⟩
                case measure => simp [intOf]; omega
            · obtain ⟨j, rfl⟩ : ∃ j, k = j + 1 := ⟨k - 1, by omega⟩
              have her := HT.out.ents.rd.keep0 (HWB.out.then1 HW.out)
              rw [HN.out] at her
              obtain ⟨p0, p1, -, -⟩ := ent_at her j (by rw [HN.out]; omega)
              clear her
              have hS := rightEs_step (l := es) (j := j) (by rw [HN.out]; exact hlt) HR.out
              generalize es.getD (j + 1) Ent.zero = e at *
              generalize es.getD j Ent.zero = pe at *
              have k0 := fun s => (hK1 s).cell' q0 id
              have k1 := fun s => (hK1 s).cell' q1 id
              have k2 := fun s => (hK1 s).cell' q2 id
              have k3 := fun s => (hK1 s).cell' q3 id
              have k4 := fun s => (hK1 s).cell' p0 id
              have k5 := fun s => (hK1 s).cell' p1 id
              clear q0 q1 q2 q3 p0 p1
              cases he : entB e with
              | false =>
                rw [he, Bool.false_and] at hS
                have HS := Lib.hid hS; clear hS
                go_wp2_with fail
                refine wp_region_new K (by kernel_rfl) (by kernel_rfl) hK0 ?_
                repeat (go_big_quiet_step ((first | (go_at_call 157; exact Calls.in_class hK2 (r8entry_any e hsz _)) | (go_at_call 158; exact Calls.in_class hK2 (r5Less_any _ _ _ _ _)))))
                refine wpQuiet_nil ?_
                intro w' hw'
                obtain ⟨s, rfl⟩ := hw'
                have hfs := hK1 s
                go_wp2
                go_ret
                exact ⟨ret_bool (by rw [rightT, not_rightEs HS.out]; simp), HWB.out.then1 (HW.out.then1 hfs)⟩
              | true =>
                rw [he, Bool.true_and] at hS
                cases hl : dotLt pe.dc pe.n e.dc e.n with
                | false =>
                  rw [hl] at hS
                  have HS := Lib.hid hS; clear hS
                  go_wp2_with fail
                  refine wp_region_new K (by kernel_rfl) (by kernel_rfl) hK0 ?_
                  repeat (go_big_quiet_step ((first | (go_at_call 157; exact Calls.in_class hK2 (r8entry_any e hsz _)) | (go_at_call 158; exact Calls.in_class hK2 (r5Less_any _ _ _ _ _)))))
                  refine wpQuiet_nil ?_
                  intro w' hw'
                  obtain ⟨s, rfl⟩ := hw'
                  have hfs := hK1 s
                  go_wp2
                  go_ret
                  exact ⟨ret_bool (by rw [rightT, not_rightEs HS.out]; simp), HWB.out.then1 (HW.out.then1 hfs)⟩
                | true =>
                  rw [hl] at hS
                  have HS := Lib.hid hS; clear hS
                  go_wp2_with fail
                  refine wp_region_new K (by kernel_rfl) (by kernel_rfl) hK0 ?_
                  repeat (go_big_quiet_step ((first | (go_at_call 157; exact Calls.in_class hK2 (r8entry_any e hsz _)) | (go_at_call 158; exact Calls.in_class hK2 (r5Less_any _ _ _ _ _)))))
                  refine wpQuiet_nil ?_
                  intro w' hw'
                  obtain ⟨s, rfl⟩ := hw'
                  have hfs := hK1 s
                  go_wp2
                  go_roundw
                  case rel => exact ⟨j + 1 + 1, by omega, by go_num, HS.out, HW.out.then1 hfs⟩
                  case measure => simp [intOf]; omega
        · obtain rfl : n = k := by omega
          rw [List.take_of_length_le (by rw [HN.out]; exact Nat.le_refl _)] at HR
          have b1 := HW.out.cell' B1.out id
          go_wp2
          go_loopw [48] (fun i ww => ∃ (k : Nat) (p : Option ByteArray), k ≤ m ∧ i = .int .i64 k ∧ PrevK ks k p ∧ rightKs ks d none = rightKs (ks.drop k) d p ∧ Frm NoS (w.alloc (.cells #[.slice ae n ce, .slice ak m ck] 35)) ww) (fun i _ => m - (intOf i).toNat)
          case atStart => exact ⟨0, none, Nat.zero_le _, rfl, .inl ⟨rfl, rfl⟩, rfl, HW.out⟩
          case round =>
            clear b0 b1
            obtain ⟨k, p, hk, rfl, hp, hr, hw⟩ := hrel
            have HWK := Lib.hid hw; clear hw
            have HP := Lib.hid hp; clear hp
            have b1 := HWK.out.cell' B1.out id
            by_cases hlt : k < m
            · obtain ⟨key, es', sub, rest, hdr⟩ := KidsL.drop_some (n := k) (ks := ks) (by rw [HM.out]; exact hlt)
              have hmm : (m : Int) ≤ 9223372036854775807 := by have := HKL.out; omega
              rcases Rd.shape (HKR.out.keep0 (HWB.out.then1 HWK.out)) with ⟨ad, he, h0⟩ | ⟨b, off, cc, he, hmax⟩
              · exfalso; have := HM.out; omega
              · injection he with e1 e2 e3
                subst e1 e3
                clear e2 hmax
                obtain ⟨ev', kv', c0, c1, c2, hta⟩ := kid_at (HKR.out.keep0 (HWB.out.then1 HWK.out)) (HFOR.out.keep0 (HWB.out.then1 HWK.out)) hdr
                obtain ⟨ae', ce', rfl⟩ := hta.ents.rd.sl
                obtain ⟨os', hkr', hfor'⟩ := hta.kids
                obtain ⟨ak', ck', rfl⟩ := hkr'.rd.sl
                clear hkr' hfor'
                have hok' := HOK.out.ks.drop k
                rw [hdr] at hok'
                have hkz := hok'.1
                have hsub : TrOk es' sub := ⟨hok'.2.1, hok'.2.2.1, hok'.2.2.2.1⟩
                have l1 : ((es'.length : Nat) : Int) ≤ 140737488351232 := by have := hsub.es.len; omega
                have l2 : ((sub.len : Nat) : Int) ≤ 140737488351232 := by have := hsub.len; omega
                have HSUB := Lib.hid hsub; clear hsub hok'
                have HSS := Lib.hid (size_sub k hdr)
                rw [rightKs_drop hdr] at hr
                have HDR := Lib.hid hdr; clear hdr
                have hbf : Frm NoS wr (wr.alloc (.cells #[.string key, .slice ae' es'.length ce', .slice ak' sub.len ck'] 139)) := Frm.alloc _ _ _
                have n0 : (wr.alloc (.cells #[.string key, .slice ae' es'.length ce', .slice ak' sub.len ck'] 139)).cell? ⟨wr.heap.size, 0, none⟩ = some (.string key) := cell_at' (heap_alloc_new wr _) 0 rfl
                have n1 : (wr.alloc (.cells #[.string key, .slice ae' es'.length ce', .slice ak' sub.len ck'] 139)).cell? ⟨wr.heap.size, 1, none⟩ = some (.slice ae' es'.length ce') := cell_at' (heap_alloc_new wr _) 1 rfl
                have n2 : (wr.alloc (.cells #[.string key, .slice ae' es'.length ce', .slice ak' sub.len ck'] 139)).cell? ⟨wr.heap.size, 2, none⟩ = some (.slice ak' sub.len ck') := cell_at' (heap_alloc_new wr _) 2 rfl
                have HTA := Lib.hid (hta.keep0 hbf); clear hta
                have HWK0 := HWK; clear HWK
                have HWK := Lib.hid (HWK0.out.then1 hbf)
                have kk : ∀ j key0 es0 sub0 rest0, ks.drop j = .cons key0 es0 sub0 rest0 → wr.cell? ⟨b, off + j * 3, none⟩ = some (.string key0) := fun j key0 es0 sub0 rest0 h => by
                  obtain ⟨_, _, h0, _⟩ := kid_at (HKR.out.keep0 (HWB.out.then1 HWK0.out)) (HFOR.out.keep0 (HWB.out.then1 HWK0.out)) h
                  exact h0
                have KK := Lib.hid kk; clear kk
                have HIH := Lib.hid (fun w' (h : Frm NoS (wr.alloc (.cells #[.string key, .slice ae' es'.length ce', .slice ak' sub.len ck'] 139)) w') => IH.out es' sub d w' _ _ (by have := HSS.out; have := HSZ.out; omega) (HTA.out.keep0 h) HSUB.out (by have := HD.out; omega))
                have hnil := isNil_int es' sub
                generalize es'.length = n' at *
                generalize sub.len = m' at *
                obtain ⟨α, hne, K, hK3, hK0, hK2⟩ := worlds (wr.alloc (.cells #[.string key, .slice ae' n' ce', .slice ak' m' ck'] 139))
                have hK1 := hK3
                have kb1 := fun s => (hK1 s).cell' (hbf.cell' b1 id) id
                have kn0 := fun s => (hK1 s).cell' n0 id
                have kn1 := fun s => (hK1 s).cell' n1 id
                have kn2 := fun s => (hK1 s).cell' n2 id
                clear n0 n1 n2
                have hge := geq_str
                rcases HP.out with ⟨rfl, rfl⟩ | ⟨j, key0, es0, sub0, rest0, rfl, hdj, rfl⟩
                · simp only [Nat.zero_mul, Nat.add_zero] at c0 c1 c2
                  cases g1 : keyB key with
                  | false =>
                    rw [g1] at hr
                    simp only [Bool.false_and] at hr
                    have hst : rightT (d + 1) es ks = false := by rw [rightT, Nat.add_sub_cancel, hr]; simp
                    have HST := Lib.hid hst; clear hst hr
                    go_wp2_with fail
                    refine wp_region_new K (by kernel_rfl) (by kernel_rfl) hK0 ?_
                    repeat (go_big_quiet_step ((first | (go_at_call 75; exact Calls.in_class hK2 (Calls.frm_of_same (r8Key_any key _ hkz))) | (go_at_call 122; exact Calls.in_class hK2 (HIH.out _ (hK3 _))))))
                    refine wpQuiet_nil ?_
                    intro w' hw'
                    obtain ⟨s, rfl⟩ := hw'
                    have hfs := hK1 s
                    go_wp2
                    go_ret
                    exact ⟨ret_bool HST.out.symm, HWB.out.then1 (HWK.out.then1 hfs)⟩
                  | true =>
                    cases g3 : isNil es' sub with
                    | true =>
                      rw [g1, g3] at hr
                      rw [g3] at hnil
                      simp only [Bool.not_true, Bool.and_false, Bool.false_and] at hr
                      have hst : rightT (d + 1) es ks = false := by rw [rightT, Nat.add_sub_cancel, hr]; simp
                      have HST := Lib.hid hst; clear hst hr
                      go_wp2_with fail
                      refine wp_region_new K (by kernel_rfl) (by kernel_rfl) hK0 ?_
                      repeat (go_big_quiet_step ((first | (go_at_call 75; exact Calls.in_class hK2 (Calls.frm_of_same (r8Key_any key _ hkz))) | (go_at_call 122; exact Calls.in_class hK2 (HIH.out _ (hK3 _))))))
                      refine wpQuiet_nil ?_
                      intro w' hw'
                      obtain ⟨s, rfl⟩ := hw'
                      have hfs := hK1 s
                      go_wp2
                      go_ret
                      exact ⟨ret_bool HST.out.symm, HWB.out.then1 (HWK.out.then1 hfs)⟩
                    | false =>
                      rw [g3] at hnil
                      cases g4 : rightT d es' sub with
                      | false =>
                        rw [g1, g3, g4] at hr
                        rw [g4] at HIH
                        simp only [Bool.and_false, Bool.false_and] at hr
                        have hst : rightT (d + 1) es ks = false := by rw [rightT, Nat.add_sub_cancel, hr]; simp
                        have HST := Lib.hid hst; clear hst hr
                        go_wp2_with fail
                        refine wp_region_new K (by kernel_rfl) (by kernel_rfl) hK0 ?_
                        repeat (go_big_quiet_step ((first | (go_at_call 75; exact Calls.in_class hK2 (Calls.frm_of_same (r8Key_any key _ hkz))) | (go_at_call 122; exact Calls.in_class hK2 (HIH.out _ (hK3 _))))))
                        refine wpQuiet_nil ?_
                        intro w' hw'
                        obtain ⟨s, rfl⟩ := hw'
                        have hfs := hK1 s
                        go_wp2
                        go_ret
                        exact ⟨ret_bool HST.out.symm, HWB.out.then1 (HWK.out.then1 hfs)⟩
                      | true =>
                        rw [g1, g3, g4] at hr
                        rw [g4] at HIH
                        simp only [ltK, Bool.not_false, Bool.and_true, Bool.true_and] at hr
                        have HST := Lib.hid hr; clear hr
                        go_wp2_with fail
                        refine wp_region_new K (by kernel_rfl) (by kernel_rfl) hK0 ?_
                        repeat (go_big_quiet_step ((first | (go_at_call 75; exact Calls.in_class hK2 (Calls.frm_of_same (r8Key_any key _ hkz))) | (go_at_call 122; exact Calls.in_class hK2 (HIH.out _ (hK3 _))))))
                        refine wpQuiet_nil ?_
                        intro w' hw'
                        obtain ⟨s, rfl⟩ := hw'
                        have hfs := hK1 s
                        go_wp2
                        go_roundw
                        case rel => exact ⟨0 + 1, some key, by omega, by go_num, .inr ⟨0, key, es', sub, rest, rfl, HDR.out, rfl⟩, HST.out, HWK.out.then1 hfs⟩
                        case measure => simp [intOf]; omega
                · have pk := KK.out j key0 es0 sub0 rest0 hdj
                  clear hdj
                  have kpk := (fun s => (hK1 s).cell' (hbf.cell' pk id) id)
                  clear pk
                  cases g1 : keyB key with
                  | false =>
                    rw [g1] at hr
                    simp only [Bool.false_and] at hr
                    have hst : rightT (d + 1) es ks = false := by rw [rightT, Nat.add_sub_cancel, hr]; simp
                    have HST := Lib.hid hst; clear hst hr
                    go_wp2_with fail
                    refine wp_region_new K (by kernel_rfl) (by kernel_rfl) hK0 ?_
                    repeat (go_big_quiet_step ((first | (go_at_call 75; exact Calls.in_class hK2 (Calls.frm_of_same (r8Key_any key _ hkz))) | (go_at_call 122; exact Calls.in_class hK2 (HIH.out _ (hK3 _))))))
                    refine wpQuiet_nil ?_
                    intro w' hw'
                    obtain ⟨s, rfl⟩ := hw'
                    have hfs := hK1 s
                    go_wp2
                    go_ret
                    exact ⟨ret_bool HST.out.symm, HWB.out.then1 (HWK.out.then1 hfs)⟩
                  | true =>
                    cases g2 : Op.bytesLess key0.toList key.toList with
                    | false =>
                      rw [show ltK (some key0) key = false from g2] at hr
                      simp only [Bool.and_false, Bool.false_and] at hr
                      have hst : rightT (d + 1) es ks = false := by rw [rightT, Nat.add_sub_cancel, hr]; simp
                      have HST := Lib.hid hst; clear hst hr
                      go_wp2_with fail
                      refine wp_region_new K (by kernel_rfl) (by kernel_rfl) hK0 ?_
                      repeat (go_big_quiet_step ((first | (go_at_call 75; exact Calls.in_class hK2 (Calls.frm_of_same (r8Key_any key _ hkz))) | (go_at_call 122; exact Calls.in_class hK2 (HIH.out _ (hK3 _))))))
                      refine wpQuiet_nil ?_
                      intro w' hw'
                      obtain ⟨s, rfl⟩ := hw'
                      have hfs := hK1 s
                      go_wp2
                      go_ret
                      exact ⟨ret_bool HST.out.symm, HWB.out.then1 (HWK.out.then1 hfs)⟩
                    | true =>
                      cases g3 : isNil es' sub with
                      | true =>
                        rw [g3] at hr
                        rw [g3] at hnil
                        simp only [Bool.not_true, Bool.and_false, Bool.false_and] at hr
                        have hst : rightT (d + 1) es ks = false := by rw [rightT, Nat.add_sub_cancel, hr]; simp
                        have HST := Lib.hid hst; clear hst hr
                        go_wp2_with fail
                        refine wp_region_new K (by kernel_rfl) (by kernel_rfl) hK0 ?_
                        repeat (go_big_quiet_step ((first | (go_at_call 75; exact Calls.in_class hK2 (Calls.frm_of_same (r8Key_any key _ hkz))) | (go_at_call 122; exact Calls.in_class hK2 (HIH.out _ (hK3 _))))))
                        refine wpQuiet_nil ?_
                        intro w' hw'
                        obtain ⟨s, rfl⟩ := hw'
                        have hfs := hK1 s
                        go_wp2
                        go_ret
                        exact ⟨ret_bool HST.out.symm, HWB.out.then1 (HWK.out.then1 hfs)⟩
                      | false =>
                        rw [g3] at hnil
                        cases g4 : rightT d es' sub with
                        | false =>
                          rw [g4] at hr
                          rw [g4] at HIH
                          simp only [Bool.and_false, Bool.false_and] at hr
                          have hst : rightT (d + 1) es ks = false := by rw [rightT, Nat.add_sub_cancel, hr]; simp
                          have HST := Lib.hid hst; clear hst hr
                          go_wp2_with fail
                          refine wp_region_new K (by kernel_rfl) (by kernel_rfl) hK0 ?_
                          repeat (go_big_quiet_step ((first | (go_at_call 75; exact Calls.in_class hK2 (Calls.frm_of_same (r8Key_any key _ hkz))) | (go_at_call 122; exact Calls.in_class hK2 (HIH.out _ (hK3 _))))))
                          refine wpQuiet_nil ?_
                          intro w' hw'
                          obtain ⟨s, rfl⟩ := hw'
                          have hfs := hK1 s
                          go_wp2
                          go_ret
                          exact ⟨ret_bool HST.out.symm, HWB.out.then1 (HWK.out.then1 hfs)⟩
                        | true =>
                          rw [g1, g3, g4, show ltK (some key0) key = true from g2] at hr
                          rw [g4] at HIH
                          simp only [Bool.not_false, Bool.and_true, Bool.true_and] at hr
                          have HST := Lib.hid hr; clear hr
                          go_wp2_with fail
                          refine wp_region_new K (by kernel_rfl) (by kernel_rfl) hK0 ?_
                          repeat (go_big_quiet_step ((first | (go_at_call 75; exact Calls.in_class hK2 (Calls.frm_of_same (r8Key_any key _ hkz))) | (go_at_call 122; exact Calls.in_class hK2 (HIH.out _ (hK3 _))))))
                          refine wpQuiet_nil ?_
                          intro w' hw'
                          obtain ⟨s, rfl⟩ := hw'
                          have hfs := hK1 s
                          go_wp2
                          go_roundw
                          case rel => exact ⟨(j + 1) + 1, some key, by omega, by go_num, .inr ⟨(j + 1), key, es', sub, rest, rfl, HDR.out, rfl⟩, HST.out, HWK.out.then1 hfs⟩
                          case measure => simp [intOf]; omega
            · obtain rfl : m = k := by omega
              rw [KidsL.drop_none (by rw [HM.out]; exact Nat.le_refl _)] at hr
              have HRR := Lib.hid hr; clear hr
              go_wp2
              go_ret
              exact ⟨ret_bool (by rw [rightT, HR.out, Nat.add_sub_cancel, HRR.out]; simp [rightKs]), HWB.out.then1 HWK.out⟩
end Go.Proofs.YtggfoihfenlckaaGreat
/- tree: all: the walk. -/
namespace Go.Proofs.YtggfoihfenlckaaGreat
open Go.RowKit
theorem info_dot : (Tryz.prog.info? 135).map (fun i => (i.zero, i.size, i.bytes)) = some (some (.agg #[.int .i64 0, .int .i64 0]), 2, 16) := by kernel_rfl
theorem dotsE_take_succ {l : List Ent} {k : Nat} (hk : k < l.length) : dotsE (l.take (k + 1)) = dotsE (l.take k) ++ [((l.getD k Ent.zero).dc, (l.getD k Ent.zero).n)] := by
  rw [take_succ Ent.zero hk]; simp [dotsE]
theorem dotsK_drop {ks : KidsL} {n : Nat} {key : ByteArray} {es : List Ent} {sub rest : KidsL} (h : ks.drop n = .cons key es sub rest) : dotsK (ks.drop n) = dotsT es sub ++ dotsK (ks.drop (n + 1)) := by
  rw [h, KidsL.drop_succ n ks h]; rfl
theorem sizeT_sub : ∀ (n : Nat) {ks : KidsL} {key : ByteArray} {es : List Ent} {sub rest : KidsL}, ks.drop n = .cons key es sub rest → sizeT es sub ≤ sizeK ks
  | 0, .cons _ _ _ _, _, _, _, _, h => by
    cases h
    simp only [sizeK, sizeT]
    omega
  | 0, .nil, _, _, _, _, h => by cases h
  | n + 1, .nil, _, _, _, _, h => by cases h
  | n + 1, .cons _ _ _ r, _, _, _, _, h => by
    have h1 : r.drop n = _ := h
    have := sizeT_sub n h1
    simp only [sizeK]
    omega
theorem len_le_sizeK : ∀ ks : KidsL, ks.len ≤ sizeK ks
  | .nil => Nat.le_refl _
  | .cons _ _ _ r => by have := len_le_sizeK r; simp only [KidsL.len, sizeK]; omega
set_option maxHeartbeats 4000000 in
set_option maxRecDepth 1000000 in
theorem tall_any (Q : Nat → Prop) : ∀ (N : Nat) (es : List Ent) (ks : KidsL) (w : World) (ev kv : Value), sizeK ks < N → TreeAt Q w ev kv es ks → sizeT es ks ≤ 100000 →
    Calls Tryz.prog 168 #[.agg #[ev, kv]] w fun e w' => ∃ v', e = .returned v' ∧ OwnAt w w' 135 2 v' (dotsT es ks).length (ruC (dotsT es ks)) := by
  intro N
  induction N with
  | zero => intros; exfalso; omega
  | succ N IHN =>
    intro es ks w ev kv hN ht hsz
    obtain ⟨i0, hi, hz0, hz1, hz2⟩ := info_parts info_dot
    obtain ⟨ae, ce, rfl⟩ := ht.ents.rd.sl
    obtain ⟨os, hkr, hfor⟩ := ht.kids
    obtain ⟨ak, ck, rfl⟩ := hkr.rd.sl
    have HE := Lib.hid ht.ents.rd
    have HKR := Lib.hid hkr.rd; clear hkr ht
    have HFOR := Lib.hid hfor; clear hfor
    have IH := Lib.hid IHN; clear IHN
    have HWB := Lib.hid (Frm.alloc NoS w (.cells #[.slice ae es.length ce, .slice ak ks.len ck] 35))
    have box0 : (w.alloc (.cells #[.slice ae es.length ce, .slice ak ks.len ck] 35)).cell? ⟨w.heap.size, 0, none⟩ = some (.slice ae es.length ce) := cell_at' (heap_alloc_new w _) 0 rfl
    have box1 : (w.alloc (.cells #[.slice ae es.length ce, .slice ak ks.len ck] 35)).cell? ⟨w.heap.size, 1, none⟩ = some (.slice ak ks.len ck) := cell_at' (heap_alloc_new w _) 1 rfl
    have B0 := Lib.hid box0; clear box0
    have B1 := Lib.hid box1; clear box1
    have HDL := Lib.hid (Nat.le_trans (dotsT_length_le es ks) hsz)
    have hn5 : es.length ≤ 100000 := by unfold sizeT at hsz; omega
    have hm5 : ks.len ≤ 100000 := by have := len_le_sizeK ks; unfold sizeT at hsz; omega
    have HSZ := Lib.hid hsz; clear hsz
    have HNN := Lib.hid hN; clear hN
    generalize hes : es.length = n at *
    have HN := Lib.hid hes; clear hes
    generalize hkl : ks.len = m at *
    have HM := Lib.hid hkl; clear hkl
    go_enter Tryz.func168, Tryz.ntmps168
    go_wp2_with fail
    have b0 := B0.out
    go_wp2
    clear b0
    go_loopw [3, 11] (fun v i ww => ∃ k : Nat, k ≤ n ∧ i = .int .i64 k ∧ OwnAt (w.alloc (.cells #[.slice ae n ce, .slice ak m ck] 35)) ww 135 2 v k (ruC (dotsE (es.take k)))) (fun _ i _ => n - (intOf i).toNat)
    case atStart => exact ⟨0, Nat.zero_le _, rfl, OwnAt.nil (Frm.refl _ _) _ _⟩
    case round =>
      obtain ⟨k, hk, rfl, ho⟩ := hrel
      obtain ⟨av, cv, rfl⟩ := ho.shape
      have HO := Lib.hid ho; clear ho
      by_cases hlt : k < n
      · rcases Rd.shape HE.out with ⟨ad, he, h0⟩ | ⟨b, off, cc, he, hmax⟩
        · exfalso; have := HN.out; omega
        · injection he with e1 e2 e3
          subst e1 e3
          clear e2
          have hlk : k < es.length := by rw [HN.out]; exact hlt
          obtain ⟨p0, p1, p2, p3⟩ := ent_at HE.out k hlk
          have f2 := HWB.out.then1 HO.out.frm
          have q0 := f2.cell' p0 id
          have q1 := f2.cell' p1 id
          have q2 := f2.cell' p2 id
          have q3 := f2.cell' p3 id
          clear p0 p1 p2 p3 f2
          have hE := dotsE_take_succ hlk
          generalize es.getD k Ent.zero = e at *
          have HEE := Lib.hid hE; clear hE
          go_wp2_with (at_builtin; go_loud (refine wpList_appO _ _ [.int .i64 e.dc, .int .i64 e.n] rfl (.tmp 15) (.tmp 18) 185 rfl 135 i0 _ 2 16 Tryz.underlying185 hi hz0 hz1 hz2 (by decide) (by decide) _ _ _ (HO.out.keep (Frm.alloc _ _ _)) 1 1 rfl (by simp [Act.eval]) rfl (by simp [Value.oneCell']) (by simp only [maxLen]; omega) (by omega) ?_); intro ad2 cc2 w2 own2; have OW := Lib.hid own2; clear own2)
          go_roundw
          case rel => exact ⟨k + 1, by omega, by go_num, by rw [HEE.out, ruC_append]; exact OW.out⟩
          case measure => simp [intOf]; omega
      · obtain rfl : n = k := by omega
        rw [List.take_of_length_le (by rw [HN.out]; exact Nat.le_refl _)] at HO
        have b1 := HO.out.frm.cell' B1.out id
        go_wp2
        clear b1
        go_loopw [3, 24] (fun v i ww => ∃ (k : Nat) (out : RunL), k ≤ m ∧ i = .int .i64 k ∧ OwnAt (w.alloc (.cells #[.slice ae n ce, .slice ak m ck] 35)) ww 135 2 v out.length (ruC out) ∧ dotsT es ks = out ++ dotsK (ks.drop k)) (fun _ i _ => m - (intOf i).toNat)
        case atStart => exact ⟨0, dotsE es, Nat.zero_le _, rfl, by rw [dotsE_length, HN.out]; exact HO.out, rfl⟩
        case round =>
          obtain ⟨k, out, hk, rfl, ho, hd⟩ := hrel
          obtain ⟨av, cv, rfl⟩ := ho.shape
          have HOK := Lib.hid ho; clear ho
          have HD := Lib.hid hd; clear hd
          by_cases hlt : k < m
          · obtain ⟨key, es', sub, rest, hdr⟩ := KidsL.drop_some (n := k) (ks := ks) (by rw [HM.out]; exact hlt)
            rcases Rd.shape HKR.out with ⟨ad, he, h0⟩ | ⟨b, off, cc, he, hmax⟩
            · exfalso; have := HM.out; omega
            · injection he with e1 e2 e3
              subst e1 e3
              clear e2
              have f2 := HWB.out.then1 HOK.out.frm
              obtain ⟨ev', kv', c0, c1, c2, hta⟩ := kid_at (HKR.out.keep0 f2) (HFOR.out.keep0 f2) hdr
              obtain ⟨ae', ce', rfl⟩ := hta.ents.rd.sl
              obtain ⟨os', hkr', hfor'⟩ := hta.kids
              obtain ⟨ak', ck', rfl⟩ := hkr'.rd.sl
              clear hkr' hfor' f2
              have HDS := Lib.hid (dotsK_drop hdr)
              have HSS := Lib.hid (size_sub k hdr)
              have HST := Lib.hid (sizeT_sub k hdr)
              have HTA := Lib.hid hta; clear hta
              have HIH := Lib.hid (fun w' (h : Frm NoS wr w') => IH.out es' sub w' _ _ (by have := HSS.out; have := HNN.out; omega) (HTA.out.keep0 h) (by have := HST.out; have := HSZ.out; unfold sizeT at *; omega))
              have hlen : out.length + (dotsT es' sub).length ≤ 100000 := by
                have h1 := HDL.out
                rw [HD.out, HDS.out, List.length_append, List.length_append] at h1
                omega
              have HLEN := Lib.hid hlen; clear hlen
              clear hdr
              generalize es'.length = n' at *
              generalize sub.len = m' at *
              go_wp2_with (first
                | (go_at_call 168; refine (HIH.out _ (Frm.alloc _ _ _)).mono ?_; rintro e w3 ⟨v3, rfl, ho3⟩; obtain ⟨a3, c3, rfl⟩ := ho3.shape; have HO3 := Lib.hid ho3; clear ho3; have HKK := Lib.hid (HOK.out.keep ((Frm.alloc NoS _ _).then1 HO3.out.frm)))
                | (at_builtin; go_loud (refine wpList_appR _ _ _ rfl (.tmp 28) (.tmp 31) 185 185 rfl 135 135 i0 _ 2 16 Tryz.underlying185 Tryz.underlying185 hi hz0 hz1 hz2 (by decide) (by decide) _ _ _ HKK.out _ (dotsT es' sub).length rfl rfl HO3.out.rd (by rw [ruC_length]) (ruC_oneCell _) (by have := HLEN.out; simp only [maxLen]; omega) (by have := HLEN.out; omega) ?_); intro ad cc w5 own5; have OW := Lib.hid own5; clear own5))
              go_roundw
              case rel => exact ⟨k + 1, out ++ dotsT es' sub, by omega, by go_num, by rw [List.length_append, ruC_append]; exact OW.out, by rw [HD.out, HDS.out, List.append_assoc]⟩
              case measure => simp [intOf]; omega
          · obtain rfl : m = k := by omega
            have hd := HD.out
            rw [KidsL.drop_none (by rw [HM.out]; exact Nat.le_refl _)] at hd
            have hd2 : dotsT es ks = out := by rw [hd]; simp [dotsK]
            have HD2 := Lib.hid hd2; clear hd2 hd
            go_wp2
            go_ret
            refine ⟨_, rfl, ?_⟩
            rw [HD2.out]
            exact HOK.out.base HWB.out
end Go.Proofs.YtggfoihfenlckaaGreat
/- tree: entries: the walk (printed by wip/treegen2.py). -/
namespace Go.Proofs.YtggfoihfenlckaaGreat
open Go.RowKit
theorem dotC_ge (d n e m : Int) : (!decide (0 ≤ dotC d n e m)) = dotLt d n e m := by
  rw [← dotC_lt]
  by_cases h : 0 ≤ dotC d n e m
  · have : ¬ dotC d n e m < 0 := by omega
    simp [h, this]
  · have : dotC d n e m < 0 := by omega
    simp [h, this]
set_option maxHeartbeats 4000000 in
set_option maxRecDepth 1000000 in
theorem tentries_any (w : World) (v : Value) (es : List Ent) (hv : Rd w v es.length (entC es)) (hok : EsOk es) :
    Calls Tryz.prog 164 #[v] w fun e w' => e = .returned (.bool (rightEs none es)) ∧ Frm NoS w w' := by
  obtain ⟨aA, cA, rfl⟩ := hv.sl
  have HH := Lib.hid hv; clear hv
  have HOK := Lib.hid hok; clear hok
  generalize hn : es.length = n at *
  have HN := Lib.hid hn; clear hn
  go_enter Tryz.func164, Tryz.ntmps164
  go_wp2
  go_loopw [7] (fun i ww => ∃ k : Nat, k ≤ n ∧ i = .int .i64 k ∧ rightEs none (es.take k) = true ∧ Frm NoS w ww) (fun i _ => n - (intOf i).toNat)
  case atStart => exact ⟨0, Nat.zero_le _, rfl, rfl, Frm.refl _ _⟩
  case round =>
    obtain ⟨k, hk, rfl, hr, hw⟩ := hrel
    have HW := Lib.hid hw; clear hw
    have HR := Lib.hid hr; clear hr
    by_cases hlt : k < n
    · rcases Rd.shape (HH.out.keep0 HW.out) with ⟨ad, he, h0⟩ | ⟨b, off, cc, he, hmax⟩
      · exfalso; have := HN.out; omega
      · injection he with e1 e2 e3
        subst e1 e3
        clear e2
        have hlk : k < es.length := by rw [HN.out]; exact hlt
        have her := HH.out.keep0 HW.out
        obtain ⟨q0, q1, q2, q3⟩ := ent_at her k hlk
        have hsz := (HOK.out.at hlk).2.2.2
        have hfk := (HOK.out.at hlk).2.2.1
        have hbl : b < wr.heap.size := World.block_lt_of_cell? _ _ q0
        rcases Nat.eq_zero_or_pos k with rfl | hk0
        · have hS := rightEs_step0 (l := es) hlk
          generalize es.getD 0 Ent.zero = e at *
          simp only [Nat.zero_mul, Nat.add_zero] at q0 q1 q2 q3
          clear her
          have hbf : Frm NoS wr (wr.alloc (.cells #[.int .i64 e.dc, .int .i64 e.n, .string e.s, .int .i64 e.k] 137)) := Frm.alloc _ _ _
          have HWK := Lib.hid (HW.out.then1 hbf)
          obtain ⟨α, hne, K, hK3, hK0, hK2⟩ := worlds (wr.alloc (.cells #[.int .i64 e.dc, .int .i64 e.n, .string e.s, .int .i64 e.k] 137))
          have hK1 := hK3
          have n0 := (fun s => (hK1 s).cell' (cell_at' (heap_alloc_new wr _) 0 rfl : (wr.alloc (.cells #[.int .i64 e.dc, .int .i64 e.n, .string e.s, .int .i64 e.k] 137)).cell? ⟨wr.heap.size, 0, none⟩ = some (.int .i64 e.dc)) id)
          have n1 := (fun s => (hK1 s).cell' (cell_at' (heap_alloc_new wr _) 1 rfl : (wr.alloc (.cells #[.int .i64 e.dc, .int .i64 e.n, .string e.s, .int .i64 e.k] 137)).cell? ⟨wr.heap.size, 1, none⟩ = some (.int .i64 e.n)) id)
          have n2 := (fun s => (hK1 s).cell' (cell_at' (heap_alloc_new wr _) 2 rfl : (wr.alloc (.cells #[.int .i64 e.dc, .int .i64 e.n, .string e.s, .int .i64 e.k] 137)).cell? ⟨wr.heap.size, 2, none⟩ = some (.string e.s)) id)
          have n3 := (fun s => (hK1 s).cell' (cell_at' (heap_alloc_new wr _) 3 rfl : (wr.alloc (.cells #[.int .i64 e.dc, .int .i64 e.n, .string e.s, .int .i64 e.k] 137)).cell? ⟨wr.heap.size, 3, none⟩ = some (.int .i64 e.k)) id)
          cases hd : dotB e.dc e.n with
          | false =>
            have he : entB e = false := by simp [entB, hd]
            rw [he] at hS
            (try simp only [Bool.false_and] at hS)
            have HS := Lib.hid hS; clear hS he
            have HDR := Lib.hid (fun W => dotRight_any e.dc e.n W)
            rw [hd] at HDR
            have HDC := Lib.hid (fun W => dotCmp_any 0 0 0 0 W)
            clear hd
            go_wp2_with fail
            refine wp_region_new K (by kernel_rfl) (by kernel_rfl) hK0 ?_
            repeat (go_big_quiet_step ((first | (go_at_call 186; exact Calls.in_class hK2 (HDR.out _)) | (go_at_call 187; exact Calls.in_class hK2 (HDC.out _)))))
            refine wpQuiet_nil ?_
            intro w' hw'
            obtain ⟨s, rfl⟩ := hw'
            have hfs := hK1 s
            go_wp2
            go_ret
            exact ⟨ret_bool (not_rightEs HS.out).symm, HWK.out.then1 hfs⟩
          | true =>
            have HDR := Lib.hid (fun W => dotRight_any e.dc e.n W)
            rw [hd] at HDR
            cases h1 : decide (30 < (e.s.size : Int)) with
            | true =>
              have HDC := Lib.hid (fun W => dotCmp_any 0 0 0 0 W)
              have he : entB e = false := by simp at h1; simp [entB]; intros; omega
              rw [he] at hS
              (try simp only [Bool.false_and] at hS)
              have HS := Lib.hid hS; clear hS he
              clear hd
              go_wp2_with fail
              refine wp_region_new K (by kernel_rfl) (by kernel_rfl) hK0 ?_
              repeat (go_big_quiet_step ((first | (go_at_call 186; exact Calls.in_class hK2 (HDR.out _)) | (go_at_call 187; exact Calls.in_class hK2 (HDC.out _)))))
              refine wpQuiet_nil ?_
              intro w' hw'
              obtain ⟨s, rfl⟩ := hw'
              have hfs := hK1 s
              go_wp2
              go_ret
              exact ⟨ret_bool (not_rightEs HS.out).symm, HWK.out.then1 hfs⟩
            | false =>
              cases h2 : decide (1099511627776 < e.k) with
              | true =>
                have HDC := Lib.hid (fun W => dotCmp_any 0 0 0 0 W)
                have he : entB e = false := by simp at h2; simp [entB]; intros; omega
                rw [he] at hS
                (try simp only [Bool.false_and] at hS)
                have HS := Lib.hid hS; clear hS he
                clear hd
                go_wp2_with fail
                refine wp_region_new K (by kernel_rfl) (by kernel_rfl) hK0 ?_
                repeat (go_big_quiet_step ((first | (go_at_call 186; exact Calls.in_class hK2 (HDR.out _)) | (go_at_call 187; exact Calls.in_class hK2 (HDC.out _)))))
                refine wpQuiet_nil ?_
                intro w' hw'
                obtain ⟨s, rfl⟩ := hw'
                have hfs := hK1 s
                go_wp2
                go_ret
                exact ⟨ret_bool (not_rightEs HS.out).symm, HWK.out.then1 hfs⟩
              | false =>
                cases h3 : decide (e.k < -1099511627776) with
                | true =>
                  have HDC := Lib.hid (fun W => dotCmp_any 0 0 0 0 W)
                  have he : entB e = false := by simp at h3; simp [entB]; intros; omega
                  rw [he] at hS
                  (try simp only [Bool.false_and] at hS)
                  have HS := Lib.hid hS; clear hS he
                  clear hd
                  go_wp2_with fail
                  refine wp_region_new K (by kernel_rfl) (by kernel_rfl) hK0 ?_
                  repeat (go_big_quiet_step ((first | (go_at_call 186; exact Calls.in_class hK2 (HDR.out _)) | (go_at_call 187; exact Calls.in_class hK2 (HDC.out _)))))
                  refine wpQuiet_nil ?_
                  intro w' hw'
                  obtain ⟨s, rfl⟩ := hw'
                  have hfs := hK1 s
                  go_wp2
                  go_ret
                  exact ⟨ret_bool (not_rightEs HS.out).symm, HWK.out.then1 hfs⟩
                | false =>
                  have he : entB e = true := by simp at h1 h2 h3; simp [entB, hd]; omega
                  rw [he] at hS
                  clear he hd
                  have HDC := Lib.hid (fun W => dotCmp_any 0 0 0 0 W)
                  have HS := Lib.hid hS; clear hS
                  go_wp2_with fail
                  refine wp_region_new K (by kernel_rfl) (by kernel_rfl) hK0 ?_
                  repeat (go_big_quiet_step ((first | (go_at_call 186; exact Calls.in_class hK2 (HDR.out _)) | (go_at_call 187; exact Calls.in_class hK2 (HDC.out _)))))
                  refine wpQuiet_nil ?_
                  intro w' hw'
                  obtain ⟨s, rfl⟩ := hw'
                  have hfs := hK1 s
                  go_wp2
                  go_roundw
                  case rel => exact ⟨0 + 1, by omega, by go_num, HS.out, HWK.out.then1 hfs⟩
                  case measure => simp [intOf]; omega
        · obtain ⟨j, rfl⟩ : ∃ j, k = j + 1 := ⟨k - 1, by omega⟩
          obtain ⟨p0, p1, -, -⟩ := ent_at her j (by omega)
          clear her
          have hS := rightEs_step (l := es) (j := j) hlk HR.out
          generalize es.getD (j + 1) Ent.zero = e at *
          generalize es.getD j Ent.zero = pe at *
          have hbf : Frm NoS wr (wr.alloc (.cells #[.int .i64 e.dc, .int .i64 e.n, .string e.s, .int .i64 e.k] 137)) := Frm.alloc _ _ _
          have HWK := Lib.hid (HW.out.then1 hbf)
          obtain ⟨α, hne, K, hK3, hK0, hK2⟩ := worlds (wr.alloc (.cells #[.int .i64 e.dc, .int .i64 e.n, .string e.s, .int .i64 e.k] 137))
          have hK1 := hK3
          have n0 := (fun s => (hK1 s).cell' (cell_at' (heap_alloc_new wr _) 0 rfl : (wr.alloc (.cells #[.int .i64 e.dc, .int .i64 e.n, .string e.s, .int .i64 e.k] 137)).cell? ⟨wr.heap.size, 0, none⟩ = some (.int .i64 e.dc)) id)
          have n1 := (fun s => (hK1 s).cell' (cell_at' (heap_alloc_new wr _) 1 rfl : (wr.alloc (.cells #[.int .i64 e.dc, .int .i64 e.n, .string e.s, .int .i64 e.k] 137)).cell? ⟨wr.heap.size, 1, none⟩ = some (.int .i64 e.n)) id)
          have n2 := (fun s => (hK1 s).cell' (cell_at' (heap_alloc_new wr _) 2 rfl : (wr.alloc (.cells #[.int .i64 e.dc, .int .i64 e.n, .string e.s, .int .i64 e.k] 137)).cell? ⟨wr.heap.size, 2, none⟩ = some (.string e.s)) id)
          have n3 := (fun s => (hK1 s).cell' (cell_at' (heap_alloc_new wr _) 3 rfl : (wr.alloc (.cells #[.int .i64 e.dc, .int .i64 e.n, .string e.s, .int .i64 e.k] 137)).cell? ⟨wr.heap.size, 3, none⟩ = some (.int .i64 e.k)) id)
          have m0 := (fun s => (hK1 s).cell' (hbf.cell' p0 id) id)
          have m1 := (fun s => (hK1 s).cell' (hbf.cell' p1 id) id)
          clear p0 p1
          cases hd : dotB e.dc e.n with
          | false =>
            have he : entB e = false := by simp [entB, hd]
            rw [he] at hS
            (try simp only [Bool.false_and] at hS)
            have HS := Lib.hid hS; clear hS he
            have HDR := Lib.hid (fun W => dotRight_any e.dc e.n W)
            rw [hd] at HDR
            have HDC := Lib.hid (fun W => dotCmp_any 0 0 0 0 W)
            clear hd
            go_wp2_with fail
            refine wp_region_new K (by kernel_rfl) (by kernel_rfl) hK0 ?_
            repeat (go_big_quiet_step ((first | (go_at_call 186; exact Calls.in_class hK2 (HDR.out _)) | (go_at_call 187; exact Calls.in_class hK2 (HDC.out _)))))
            refine wpQuiet_nil ?_
            intro w' hw'
            obtain ⟨s, rfl⟩ := hw'
            have hfs := hK1 s
            go_wp2
            go_ret
            exact ⟨ret_bool (not_rightEs HS.out).symm, HWK.out.then1 hfs⟩
          | true =>
            have HDR := Lib.hid (fun W => dotRight_any e.dc e.n W)
            rw [hd] at HDR
            cases h1 : decide (30 < (e.s.size : Int)) with
            | true =>
              have HDC := Lib.hid (fun W => dotCmp_any 0 0 0 0 W)
              have he : entB e = false := by simp at h1; simp [entB]; intros; omega
              rw [he] at hS
              (try simp only [Bool.false_and] at hS)
              have HS := Lib.hid hS; clear hS he
              clear hd
              go_wp2_with fail
              refine wp_region_new K (by kernel_rfl) (by kernel_rfl) hK0 ?_
              repeat (go_big_quiet_step ((first | (go_at_call 186; exact Calls.in_class hK2 (HDR.out _)) | (go_at_call 187; exact Calls.in_class hK2 (HDC.out _)))))
              refine wpQuiet_nil ?_
              intro w' hw'
              obtain ⟨s, rfl⟩ := hw'
              have hfs := hK1 s
              go_wp2
              go_ret
              exact ⟨ret_bool (not_rightEs HS.out).symm, HWK.out.then1 hfs⟩
            | false =>
              cases h2 : decide (1099511627776 < e.k) with
              | true =>
                have HDC := Lib.hid (fun W => dotCmp_any 0 0 0 0 W)
                have he : entB e = false := by simp at h2; simp [entB]; intros; omega
                rw [he] at hS
                (try simp only [Bool.false_and] at hS)
                have HS := Lib.hid hS; clear hS he
                clear hd
                go_wp2_with fail
                refine wp_region_new K (by kernel_rfl) (by kernel_rfl) hK0 ?_
                repeat (go_big_quiet_step ((first | (go_at_call 186; exact Calls.in_class hK2 (HDR.out _)) | (go_at_call 187; exact Calls.in_class hK2 (HDC.out _)))))
                refine wpQuiet_nil ?_
                intro w' hw'
                obtain ⟨s, rfl⟩ := hw'
                have hfs := hK1 s
                go_wp2
                go_ret
                exact ⟨ret_bool (not_rightEs HS.out).symm, HWK.out.then1 hfs⟩
              | false =>
                cases h3 : decide (e.k < -1099511627776) with
                | true =>
                  have HDC := Lib.hid (fun W => dotCmp_any 0 0 0 0 W)
                  have he : entB e = false := by simp at h3; simp [entB]; intros; omega
                  rw [he] at hS
                  (try simp only [Bool.false_and] at hS)
                  have HS := Lib.hid hS; clear hS he
                  clear hd
                  go_wp2_with fail
                  refine wp_region_new K (by kernel_rfl) (by kernel_rfl) hK0 ?_
                  repeat (go_big_quiet_step ((first | (go_at_call 186; exact Calls.in_class hK2 (HDR.out _)) | (go_at_call 187; exact Calls.in_class hK2 (HDC.out _)))))
                  refine wpQuiet_nil ?_
                  intro w' hw'
                  obtain ⟨s, rfl⟩ := hw'
                  have hfs := hK1 s
                  go_wp2
                  go_ret
                  exact ⟨ret_bool (not_rightEs HS.out).symm, HWK.out.then1 hfs⟩
                | false =>
                  have he : entB e = true := by simp at h1 h2 h3; simp [entB, hd]; omega
                  rw [he] at hS
                  clear he hd
                  rw [Bool.true_and] at hS
                  have HDC := Lib.hid (fun W => dotCmp_any pe.dc pe.n e.dc e.n W)
                  have hge := dotC_ge pe.dc pe.n e.dc e.n
                  rw [← hge] at hS
                  generalize dotC pe.dc pe.n e.dc e.n = cc at *
                  cases hl : decide (0 ≤ cc) with
                  | true =>
                    rw [hl] at hS
                    have hS := hS
                    have HS := Lib.hid hS; clear hS hge
                    go_wp2_with fail
                    refine wp_region_new K (by kernel_rfl) (by kernel_rfl) hK0 ?_
                    repeat (go_big_quiet_step ((first | (go_at_call 186; exact Calls.in_class hK2 (HDR.out _)) | (go_at_call 187; exact Calls.in_class hK2 (HDC.out _)))))
                    refine wpQuiet_nil ?_
                    intro w' hw'
                    obtain ⟨s, rfl⟩ := hw'
                    have hfs := hK1 s
                    go_wp2
                    go_ret
                    exact ⟨ret_bool (not_rightEs HS.out).symm, HWK.out.then1 hfs⟩
                  | false =>
                    rw [hl] at hS
                    have HS := Lib.hid hS; clear hS hge
                    go_wp2_with fail
                    refine wp_region_new K (by kernel_rfl) (by kernel_rfl) hK0 ?_
                    repeat (go_big_quiet_step ((first | (go_at_call 186; exact Calls.in_class hK2 (HDR.out _)) | (go_at_call 187; exact Calls.in_class hK2 (HDC.out _)))))
                    refine wpQuiet_nil ?_
                    intro w' hw'
                    obtain ⟨s, rfl⟩ := hw'
                    have hfs := hK1 s
                    go_wp2
                    go_roundw
                    case rel => exact ⟨j + 1 + 1, by omega, by go_num, HS.out, HWK.out.then1 hfs⟩
                    case measure => simp [intOf]; omega
    · obtain rfl : n = k := by omega
      rw [List.take_of_length_le (by rw [HN.out]; exact Nat.le_refl _)] at HR
      go_wp2
      go_ret
      exact ⟨ret_bool HR.out.symm, HW.out⟩
end Go.Proofs.YtggfoihfenlckaaGreat