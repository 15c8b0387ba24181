/- Words for the law MsgRight: R8d, R8e, R8c. -/
import Derived.Test.YtcahemkomfaabaaGreatMsgRightG7
import Derived.Test.YtcahemkomfaabaaGreatMsgRightG9
import Derived.Test.YtcahemkomfaabaaGreatMsgRightG18
import Derived.Test.YtcahemkomfaabaaGreatMsgRightG24
set_option linter.unusedSimpArgs false
set_option linter.unusedVariables false
/- tributaryref08: below, Leaves, Dots: the walks. -/
namespace Go.Proofs.YtcahemkomfaabaaGreat
open Go.RowKit
def BelowPost (w : World) (es : List Ent) (ks : KidsL) (e : Ending) (w' : World) : Prop :=
 ∃ (v' : Value) (l : LeafL), e = .returned v' ∧ OwnAt w w' 181 5 v' l.length (lfC l) ∧ dotsL l = dotsT es ks ∧ OneL l
set_option maxHeartbeats 4000000 in
set_option maxRecDepth 1000000 in
theorem r8below_any (Q : Nat → Prop) : ∀ (N : Nat) (es : List Ent) (ks : KidsL) (w : World) (ev kv pv : Value) (pl : List ByteArray), sizeK ks < N → TreeAt Q w ev kv es ks → sizeT es ks ≤ 100000 → Rd w pv pl.length (stV pl) → pl.length + N ≤ 200000 →
 Calls Tryz.prog 155 #[.agg #[ev, kv], pv] w (BelowPost w es ks) := by
 intro N
 induction N with
 | zero => intros; exfalso; omega
 | succ N IHN =>
  intro es ks w ev kv pv pl hN ht hsz hp hpl
  obtain ⟨i0, hi, hz0, hz1, hz2⟩ := info_parts info_leaf
  obtain ⟨j0, hji, hy0, hy1, hy2⟩ := info_parts info_string
  obtain ⟨ae, ce, rfl⟩ := ht.ents.rd.sl
  obtain ⟨os, hkr, hfor⟩ := ht.kids
  obtain ⟨ak, ck, rfl⟩ := hkr.rd.sl
  obtain ⟨ap, cp, rfl⟩ := hp.sl
  have HP := Lib.hid hp; clear hp
  have HE := Lib.hid ht.ents.rd
  have HKR := Lib.hid hkr.rd; clear hkr ht
  have HFOR := Lib.hid hfor; clear hfor
  have IH := Lib.hid IHN; clear IHN
  have HWB := Lib.hid (Frm.alloc NoS w (.cells #[.slice ae es.length ce, .slice ak ks.len ck] 28))
  have box0 : (w.alloc (.cells #[.slice ae es.length ce, .slice ak ks.len ck] 28)).cell? ⟨w.heap.size, 0, none⟩ = some (.slice ae es.length ce) := cell_at' (heap_alloc_new w _) 0 rfl
  have box1 : (w.alloc (.cells #[.slice ae es.length ce, .slice ak ks.len ck] 28)).cell? ⟨w.heap.size, 1, none⟩ = some (.slice ak ks.len ck) := cell_at' (heap_alloc_new w _) 1 rfl
  have B0 := Lib.hid box0; clear box0
  have B1 := Lib.hid box1; clear box1
  have HDL := Lib.hid (Nat.le_trans (dotsT_length_le es ks) hsz)
  have hn5 : es.length ≤ 100000 := by unfold sizeT at hsz; omega
  have hm5 : ks.len ≤ 100000 := by have := len_le_sizeK ks; unfold sizeT at hsz; omega
  have HSZ := Lib.hid hsz; clear hsz
  have HNN := Lib.hid hN; clear hN
  have hq5 : pl.length ≤ 200000 := by omega
  have HPL := Lib.hid hpl; clear hpl
  generalize hes : es.length = n at *
  have HN := Lib.hid hes; clear hes
  generalize hkl : ks.len = m at *
  have HM := Lib.hid hkl; clear hkl
  generalize hql : pl.length = q at *
  have HQ := Lib.hid hql; clear hql
  go_enter Tryz.func155, Tryz.ntmps155
  go_wp2_with fail
  have b0 := B0.out
  go_wp2
  clear b0
  go_loopw [5, 12] (fun v i ww => ∃ k : Nat, k ≤ n ∧ i = .int .i64 k ∧ OwnAt (w.alloc (.cells #[.slice ae n ce, .slice ak m ck] 28)) ww 181 5 v k (lfC (lfE (.slice ap q cp) (es.take k)))) (fun _ i _ => n - (intOf i).toNat)
  case atStart => exact ⟨0, Nat.zero_le _, rfl, OwnAt.nil (Frm.refl _ _) _ _⟩
  case round =>
   obtain ⟨k, hk, rfl, ho⟩ := hrel
   obtain ⟨av, cv, rfl⟩ := ho.shape
   have HO := Lib.hid ho; clear ho
   by_cases hlt : k < n
   · rcases Rd.shape HE.out with ⟨ad, he, h0⟩ | ⟨b, off, cc, he, hmax⟩
     · exfalso; have := HN.out; omega
     · injection he with e1 e2 e3
       subst e1 e3
       clear e2
       have hlk : k < es.length := by rw [HN.out]; exact hlt
       obtain ⟨p0, p1, p2, p3⟩ := ent_at HE.out k hlk
       have f2 := HWB.out.then1 HO.out.frm
       have q0 := f2.cell' p0 id
       have q1 := f2.cell' p1 id
       have q2 := f2.cell' p2 id
       have q3 := f2.cell' p3 id
       have b0 := HO.out.frm.cell' B0.out id
       clear p0 p1 p2 p3 f2
       have hE := lfE_take_succ (p := .slice ap q cp) hlk
       generalize es.getD k Ent.zero = e at *
       have HEE := Lib.hid hE; clear hE
       go_wp2_with (at_builtin; refine wpList_appO _ _ [.slice ap q cp, .int .i64 e.dc, .int .i64 e.n, .string e.s, .int .i64 e.k] rfl (.tmp 15) (.tmp 23) 177 rfl 181 i0 _ 5 64 Tryz.underlying177 hi hz0 hz1 hz2 (by decide) (by decide) _ _ _ HO.out 1 1 rfl (by simp [Act.eval]) rfl (by simp [Value.oneCell']) (by simp only [maxLen]; omega) (by omega) ?_; intro ad2 cc2 w2 own2; have OW := Lib.hid own2; clear own2)
       go_roundw
       case rel => exact ⟨k + 1, by omega, by go_num, by rw [HEE.out]; exact OW.out⟩
       case measure => simp [intOf]; omega
   · obtain rfl : n = k := by omega
     rw [List.take_of_length_le (by rw [HN.out]; exact Nat.le_refl _)] at HO
     have b1 := HO.out.frm.cell' B1.out id
     go_wp2
     clear b1
     go_loopw [5, 29] (fun v i ww => ∃ (k : Nat) (l : LeafL), k ≤ m ∧ i = .int .i64 k ∧ OwnAt (w.alloc (.cells #[.slice ae n ce, .slice ak m ck] 28)) ww 181 5 v l.length (lfC l) ∧ dotsT es ks = dotsL l ++ dotsK (ks.drop k) ∧ OneL l) (fun _ i _ => m - (intOf i).toNat)
     case atStart => exact ⟨0, lfE (.slice ap q cp) es, Nat.zero_le _, rfl, by rw [lfE_length, HN.out]; exact HO.out, by rw [dotsL_lfE]; rfl, OneL.lfE rfl es⟩
     case round =>
      obtain ⟨k, l, hk, rfl, ho, hd, hone⟩ := hrel
      obtain ⟨av, cv, rfl⟩ := ho.shape
      have HOK := Lib.hid ho; clear ho
      have HD := Lib.hid hd; clear hd
      have HONE := Lib.hid hone; clear hone
      by_cases hlt : k < m
      · obtain ⟨key, es', sub, rest, hdr⟩ := KidsL.drop_some (n := k) (ks := ks) (by rw [HM.out]; exact hlt)
        rcases Rd.shape HKR.out with ⟨ad, he, h0⟩ | ⟨b, off, cc, he, hmax⟩
        · exfalso; have := HM.out; omega
        · injection he with e1 e2 e3
          subst e1 e3
          clear e2
          have f2 := HWB.out.then1 HOK.out.frm
          obtain ⟨ev', kv', c0, c1, c2, hta⟩ := kid_at (HKR.out.keep0 f2) (HFOR.out.keep0 f2) hdr
          obtain ⟨ae', ce', rfl⟩ := hta.ents.rd.sl
          obtain ⟨os', hkr', hfor'⟩ := hta.kids
          obtain ⟨ak', ck', rfl⟩ := hkr'.rd.sl
          clear hkr' hfor'
          have hpr := HP.out.keep0 f2
          have HPR := Lib.hid hpr; clear hpr f2
          have b1 := HOK.out.frm.cell' B1.out id
          have HDS := Lib.hid (dotsK_drop hdr)
          have HSS := Lib.hid (size_sub k hdr)
          have HST := Lib.hid (sizeT_sub k hdr)
          have HTA := Lib.hid hta; clear hta
          have HIH := Lib.hid (fun w' (h : Frm NoS wr w') pv (hpv : Rd w' pv (pl ++ [key]).length (stV (pl ++ [key]))) => IH.out es' sub w' _ _ pv (pl ++ [key]) (by have := HSS.out; have := HNN.out; omega) (HTA.out.keep0 h) (by have := HST.out; have := HSZ.out; unfold sizeT at *; omega) hpv (by have := HPL.out; have := HQ.out; simp; omega))
          have hlen : l.length + (dotsT es' sub).length ≤ 100000 := by
           have h1 := HDL.out
           rw [HD.out, HDS.out, List.length_append, List.length_append, dotsL_length] at h1
           omega
          have HLEN := Lib.hid hlen; clear hlen
          clear hdr
          generalize es'.length = n' at *
          generalize sub.len = m' at *
          go_wp2_with fail
          refine wp_region_G (S := fun w' => w'.cell? ⟨w.heap.size, 1, none⟩ = some (.slice (some ⟨b, off, none⟩) m ck) ∧ w'.cell? ⟨b, off + k * 3, none⟩ = some (.string key)) 11 (by kernel_rfl) ⟨b1, c0⟩ ?_
          intro hS
          have hFY : Frm NoS wr wr.drew := Frm.drew _ _
          have hFY0 := Lib.hid hFY
          generalize wr.drew = Y at *
          refine tkG 1 33 rfl rfl (v := ?_) (.inl ⟨by rfl, ?_⟩) ?_
          rotate_left 1
          · (intro w hSw; (try dsimp only at hSw); go_simp; (try with_reducible rfl))
          try simp only [Act.put, List.setIfInBounds_toArray, List.set_cons_zero, List.set_cons_succ]
          refine tkG 3 35 rfl rfl (v := ?_) (.inl ⟨by rfl, ?_⟩) ?_
          rotate_left 1
          · (intro w hSw; (try dsimp only at hSw); go_simp; (try with_reducible rfl))
          try simp only [Act.put, List.setIfInBounds_toArray, List.set_cons_zero, List.set_cons_succ]
          refine tkG 4 36 rfl rfl (v := ?_) (.inl ⟨by rfl, ?_⟩) ?_
          rotate_left 1
          · (intro w hSw; (try dsimp only at hSw); go_simp; (try with_reducible rfl))
          try simp only [Act.put, List.setIfInBounds_toArray, List.set_cons_zero, List.set_cons_succ]
          refine tkG 5 37 rfl rfl (v := ?_) (.inl ⟨by rfl, ?_⟩) ?_
          rotate_left 1
          · (intro w hSw; (try dsimp only at hSw); go_simp; (try with_reducible rfl))
          try simp only [Act.put, List.setIfInBounds_toArray, List.set_cons_zero, List.set_cons_succ]
          refine tkG 6 38 rfl rfl (v := ?_) (.inl ⟨by rfl, ?_⟩) ?_
          rotate_left 1
          · (intro w hSw; (try dsimp only at hSw); go_simp; (try with_reducible rfl))
          try simp only [Act.put, List.setIfInBounds_toArray, List.set_cons_zero, List.set_cons_succ]
          refine tkG 7 39 rfl rfl (v := ?_) (.inl ⟨by rfl, ?_⟩) ?_
          rotate_left 1
          · (intro w hSw; (try dsimp only at hSw); go_simp; (try with_reducible rfl))
          try simp only [Act.put, List.setIfInBounds_toArray, List.set_cons_zero, List.set_cons_succ]
          refine tkG 8 40 rfl rfl (v := ?_) (.inl ⟨by rfl, ?_⟩) ?_
          rotate_left 1
          · (intro w hSw; (try dsimp only at hSw); go_simp; (try with_reducible rfl))
          try simp only [Act.put, List.setIfInBounds_toArray, List.set_cons_zero, List.set_cons_succ]
          refine two_opG (i := 0) (j := 9) (by kernel_rfl) rfl rfl (fun K hK => ?_) (fun K hK => ?_)
          · go_simp
            have hfA : Frm NoS Y (Y.alloc (.cells #[] 9)) := Frm.alloc _ _ _
            have hE : OwnAt wr (Y.alloc (.cells #[] 9)) 9 1 (.slice (some ⟨Y.heap.size, 0, none⟩) 0 0) 0 [] := OwnAt.empty hFY _ _
            have hS : (Y.alloc (.cells #[] 9)).cell? ⟨w.heap.size, 1, none⟩ = some (.slice (some ⟨b, off, none⟩) m ck) ∧ (Y.alloc (.cells #[] 9)).cell? ⟨b, off + k * 3, none⟩ = some (.string key) := ⟨hfA.cell' hS.1 id, hfA.cell' hS.2 id⟩
            have hFY := hFY.then1 hfA
            (try have hne : kb ≠ Y.heap.size := by have := hkb; omega)
            (try have hKy := hKy.keep0 hfA)
            refine hK.out _ _ hS ?_
            clear hK K hfA
            obtain ⟨eb, heb⟩ : ∃ eb, Y.heap.size = eb := ⟨_, rfl⟩
            rw [heb] at hE ⊢
            have hlte : eb < (Y.alloc (.cells #[] 9)).heap.size := by rw [← heb]; simp
            (try rw [heb] at hne)
            clear heb
            generalize Y.alloc (.cells #[] 9) = Y at *
            try simp only [Act.put, List.setIfInBounds_toArray, List.set_cons_zero, List.set_cons_succ]
            refine two_opG (i := 2) (j := 9) (by kernel_rfl) rfl rfl (fun K hK => ?_) (fun K hK => ?_)
            · refine step_appR wr Y (stV pl) rfl (.tmp 32) (.tmp 33) 179 179 rfl 9 9 j0 _ 1 16 Tryz.underlying179 Tryz.underlying179 hji hy0 hy1 hy2 (by decide) (by decide) _ 0 [] hE _ q (by simp [Act.eval]) (by simp [Act.eval]) (HPR.out.keep0 hFY) (by rw [stV_length, HQ.out]; omega) (stV_oneCell _) (by simp only [maxLen]; omega) (by omega) ?_
              intro ad3 cc3 Y2 hP fmP frP
              rw [Nat.zero_add] at hP
              rw [List.nil_append] at hP
              have hS : Y2.cell? ⟨w.heap.size, 1, none⟩ = some (.slice (some ⟨b, off, none⟩) m ck) ∧ Y2.cell? ⟨b, off + k * 3, none⟩ = some (.string key) := ⟨hP.frm.cell' b1 id, hP.frm.cell' c0 id⟩
              have hFY := hP.frm
              (try have hKy := hKy.keep fmP (fun x hx hr => by simp [RowS, Value.ownBlock] at hx hr; omega))
              rw [Nat.zero_add]
              refine hK.out _ _ hS ?_
              clear hK K fmP frP hE hlte
              generalize Y2 = Y at *
              try simp only [Act.put, List.setIfInBounds_toArray, List.set_cons_zero, List.set_cons_succ]
              refine one_opG (i := 9) (by kernel_rfl) rfl (fun K hK => ?_)
              go_simp
              have hfA : Frm NoS Y (Y.alloc (.cells #[.string key] 9)) := Frm.alloc _ _ _
              have hS : (Y.alloc (.cells #[.string key] 9)).cell? ⟨w.heap.size, 1, none⟩ = some (.slice (some ⟨b, off, none⟩) m ck) ∧ (Y.alloc (.cells #[.string key] 9)).cell? ⟨b, off + k * 3, none⟩ = some (.string key) := ⟨hfA.cell' hS.1 id, hfA.cell' hS.2 id⟩
              have hFY := hFY.then1 hfA
              (try have hne : Y.heap.size ≠ eb := by have := hlte; omega)
              (try have hE := hE.keep hfA)
              (try have hP := hP.keep hfA)
              have hKy : Rd (Y.alloc (.cells #[.string key] 9)) (.slice (some ⟨Y.heap.size, 0, none⟩) 1 1) 1 [.string key] := .inr ⟨Y.heap.size, 0, 1, rfl, Nat.le_refl _, by decide, fun j u hu => by rw [Nat.zero_add]; exact cell_at' (heap_alloc_new Y _) j (by simpa using hu)⟩
              refine hK.out _ _ hS ?_
              clear hK K hfA
              obtain ⟨kb, hkb0⟩ : ∃ kb, Y.heap.size = kb := ⟨_, rfl⟩
              rw [hkb0] at hKy ⊢
              have hkb : kb < (Y.alloc (.cells #[.string key] 9)).heap.size := by rw [← hkb0]; simp
              (try rw [hkb0] at hne)
              clear hkb0
              generalize Y.alloc (.cells #[.string key] 9) = Y at *
              try simp only [Act.put, List.setIfInBounds_toArray, List.set_cons_zero, List.set_cons_succ]
              refine one_opG (i := 10) (by kernel_rfl) rfl (fun K hK => ?_)
              refine step_appR wr Y [.string key] rfl (.tmp 34) (.tmp 41) 179 179 rfl 9 9 j0 _ 1 16 Tryz.underlying179 Tryz.underlying179 hji hy0 hy1 hy2 (by decide) (by decide) _ q (stV pl) hP _ 1 (by simp [Act.eval]) (by simp [Act.eval]) hKy rfl (by simp [Value.oneCell']) (by simp only [maxLen]; omega) (by omega) ?_
              intro ad4 cc4 Y3 hP4 fmP4 frP4
              have hS : Y3.cell? ⟨w.heap.size, 1, none⟩ = some (.slice (some ⟨b, off, none⟩) m ck) ∧ Y3.cell? ⟨b, off + k * 3, none⟩ = some (.string key) := ⟨hP4.frm.cell' b1 id, hP4.frm.cell' c0 id⟩
              refine hK.out _ _ hS ?_
              clear hK K fmP4 frP4 hP
              have HP4 := Lib.hid hP4; clear hP4
              try simp only [Act.put, List.setIfInBounds_toArray, List.set_cons_zero, List.set_cons_succ]
              refine last_opG (by kernel_rfl) (by kernel_rfl) rfl (fun K hK => ?_)
              go_simp
              refine hK.out _ _ ?_
              clear hK K hKy hS
              have c1 := HP4.out.frm.cell' c1 id
              have c2 := HP4.out.frm.cell' c2 id
              have b1 := HP4.out.frm.cell' b1 id
              go_wp2_with (first
               | (go_at_call 155; refine (HIH.out _ HP4.out.frm _ (by have := HP4.out.rd; rw [stV_append, List.length_append, HQ.out]; exact this)).mono ?_; rintro e w3 ⟨v3, l3, rfl, ho3, hd3, hone3⟩; obtain ⟨a3, c3, rfl⟩ := ho3.shape; have HO3 := Lib.hid ho3; clear ho3; have HD3 := Lib.hid hd3; clear hd3; have HONE3 := Lib.hid hone3; clear hone3; have HKK := Lib.hid (HOK.out.keep (HP4.out.frm.then1 HO3.out.frm)))
               | (at_builtin; refine wpList_appR _ _ _ rfl (.tmp 43) (.tmp 51) 177 177 rfl 181 181 i0 _ 5 64 Tryz.underlying177 Tryz.underlying177 hi hz0 hz1 hz2 (by decide) (by decide) _ _ _ HKK.out _ l3.length rfl rfl HO3.out.rd (by rw [lfC_length]) (lfC_oneCell HONE3.out) (by have := HLEN.out; rw [← HD3.out, dotsL_length] at this; simp only [maxLen]; omega) (by have := HLEN.out; rw [← HD3.out, dotsL_length] at this; omega) ?_; intro ad5 cc5 w5 own5; have OW := Lib.hid own5; clear own5))
              go_roundw
              case rel => exact ⟨k + 1, l ++ l3, by omega, by go_num, by rw [List.length_append, lfC_append]; exact OW.out, by rw [HD.out, HDS.out, dotsL_append, HD3.out, List.append_assoc], HONE.out.append HONE3.out⟩
              case measure => simp [intOf]; omega
            · go_simp
              have hfA : Frm NoS Y (Y.alloc (.cells #[.string key] 9)) := Frm.alloc _ _ _
              have hS : (Y.alloc (.cells #[.string key] 9)).cell? ⟨w.heap.size, 1, none⟩ = some (.slice (some ⟨b, off, none⟩) m ck) ∧ (Y.alloc (.cells #[.string key] 9)).cell? ⟨b, off + k * 3, none⟩ = some (.string key) := ⟨hfA.cell' hS.1 id, hfA.cell' hS.2 id⟩
              have hFY := hFY.then1 hfA
              (try have hne : Y.heap.size ≠ eb := by have := hlte; omega)
              (try have hE := hE.keep hfA)
              (try have hP := hP.keep hfA)
              have hKy : Rd (Y.alloc (.cells #[.string key] 9)) (.slice (some ⟨Y.heap.size, 0, none⟩) 1 1) 1 [.string key] := .inr ⟨Y.heap.size, 0, 1, rfl, Nat.le_refl _, by decide, fun j u hu => by rw [Nat.zero_add]; exact cell_at' (heap_alloc_new Y _) j (by simpa using hu)⟩
              refine hK.out _ _ hS ?_
              clear hK K hfA
              obtain ⟨kb, hkb0⟩ : ∃ kb, Y.heap.size = kb := ⟨_, rfl⟩
              rw [hkb0] at hKy ⊢
              have hkb : kb < (Y.alloc (.cells #[.string key] 9)).heap.size := by rw [← hkb0]; simp
              (try rw [hkb0] at hne)
              clear hkb0
              generalize Y.alloc (.cells #[.string key] 9) = Y at *
              try simp only [Act.put, List.setIfInBounds_toArray, List.set_cons_zero, List.set_cons_succ]
              refine one_opG (i := 2) (by kernel_rfl) rfl (fun K hK => ?_)
              refine step_appR wr Y (stV pl) rfl (.tmp 32) (.tmp 33) 179 179 rfl 9 9 j0 _ 1 16 Tryz.underlying179 Tryz.underlying179 hji hy0 hy1 hy2 (by decide) (by decide) _ 0 [] hE _ q (by simp [Act.eval]) (by simp [Act.eval]) (HPR.out.keep0 hFY) (by rw [stV_length, HQ.out]; omega) (stV_oneCell _) (by simp only [maxLen]; omega) (by omega) ?_
              intro ad3 cc3 Y2 hP fmP frP
              rw [Nat.zero_add] at hP
              rw [List.nil_append] at hP
              have hS : Y2.cell? ⟨w.heap.size, 1, none⟩ = some (.slice (some ⟨b, off, none⟩) m ck) ∧ Y2.cell? ⟨b, off + k * 3, none⟩ = some (.string key) := ⟨hP.frm.cell' b1 id, hP.frm.cell' c0 id⟩
              have hFY := hP.frm
              (try have hKy := hKy.keep fmP (fun x hx hr => by simp [RowS, Value.ownBlock] at hx hr; omega))
              rw [Nat.zero_add]
              refine hK.out _ _ hS ?_
              clear hK K fmP frP hE hlte
              generalize Y2 = Y at *
              try simp only [Act.put, List.setIfInBounds_toArray, List.set_cons_zero, List.set_cons_succ]
              refine one_opG (i := 10) (by kernel_rfl) rfl (fun K hK => ?_)
              refine step_appR wr Y [.string key] rfl (.tmp 34) (.tmp 41) 179 179 rfl 9 9 j0 _ 1 16 Tryz.underlying179 Tryz.underlying179 hji hy0 hy1 hy2 (by decide) (by decide) _ q (stV pl) hP _ 1 (by simp [Act.eval]) (by simp [Act.eval]) hKy rfl (by simp [Value.oneCell']) (by simp only [maxLen]; omega) (by omega) ?_
              intro ad4 cc4 Y3 hP4 fmP4 frP4
              have hS : Y3.cell? ⟨w.heap.size, 1, none⟩ = some (.slice (some ⟨b, off, none⟩) m ck) ∧ Y3.cell? ⟨b, off + k * 3, none⟩ = some (.string key) := ⟨hP4.frm.cell' b1 id, hP4.frm.cell' c0 id⟩
              refine hK.out _ _ hS ?_
              clear hK K fmP4 frP4 hP
              have HP4 := Lib.hid hP4; clear hP4
              try simp only [Act.put, List.setIfInBounds_toArray, List.set_cons_zero, List.set_cons_succ]
              refine last_opG (by kernel_rfl) (by kernel_rfl) rfl (fun K hK => ?_)
              go_simp
              refine hK.out _ _ ?_
              clear hK K hKy hS
              have c1 := HP4.out.frm.cell' c1 id
              have c2 := HP4.out.frm.cell' c2 id
              have b1 := HP4.out.frm.cell' b1 id
              go_wp2_with (first
               | (go_at_call 155; refine (HIH.out _ HP4.out.frm _ (by have := HP4.out.rd; rw [stV_append, List.length_append, HQ.out]; exact this)).mono ?_; rintro e w3 ⟨v3, l3, rfl, ho3, hd3, hone3⟩; obtain ⟨a3, c3, rfl⟩ := ho3.shape; have HO3 := Lib.hid ho3; clear ho3; have HD3 := Lib.hid hd3; clear hd3; have HONE3 := Lib.hid hone3; clear hone3; have HKK := Lib.hid (HOK.out.keep (HP4.out.frm.then1 HO3.out.frm)))
               | (at_builtin; refine wpList_appR _ _ _ rfl (.tmp 43) (.tmp 51) 177 177 rfl 181 181 i0 _ 5 64 Tryz.underlying177 Tryz.underlying177 hi hz0 hz1 hz2 (by decide) (by decide) _ _ _ HKK.out _ l3.length rfl rfl HO3.out.rd (by rw [lfC_length]) (lfC_oneCell HONE3.out) (by have := HLEN.out; rw [← HD3.out, dotsL_length] at this; simp only [maxLen]; omega) (by have := HLEN.out; rw [← HD3.out, dotsL_length] at this; omega) ?_; intro ad5 cc5 w5 own5; have OW := Lib.hid own5; clear own5))
              go_roundw
              case rel => exact ⟨k + 1, l ++ l3, by omega, by go_num, by rw [List.length_append, lfC_append]; exact OW.out, by rw [HD.out, HDS.out, dotsL_append, HD3.out, List.append_assoc], HONE.out.append HONE3.out⟩
              case measure => simp [intOf]; omega
          · go_simp
            have hfA : Frm NoS Y (Y.alloc (.cells #[.string key] 9)) := Frm.alloc _ _ _
            have hS : (Y.alloc (.cells #[.string key] 9)).cell? ⟨w.heap.size, 1, none⟩ = some (.slice (some ⟨b, off, none⟩) m ck) ∧ (Y.alloc (.cells #[.string key] 9)).cell? ⟨b, off + k * 3, none⟩ = some (.string key) := ⟨hfA.cell' hS.1 id, hfA.cell' hS.2 id⟩
            have hFY := hFY.then1 hfA
            (try have hne : Y.heap.size ≠ eb := by have := hlte; omega)
            (try have hE := hE.keep hfA)
            (try have hP := hP.keep hfA)
            have hKy : Rd (Y.alloc (.cells #[.string key] 9)) (.slice (some ⟨Y.heap.size, 0, none⟩) 1 1) 1 [.string key] := .inr ⟨Y.heap.size, 0, 1, rfl, Nat.le_refl _, by decide, fun j u hu => by rw [Nat.zero_add]; exact cell_at' (heap_alloc_new Y _) j (by simpa using hu)⟩
            refine hK.out _ _ hS ?_
            clear hK K hfA
            obtain ⟨kb, hkb0⟩ : ∃ kb, Y.heap.size = kb := ⟨_, rfl⟩
            rw [hkb0] at hKy ⊢
            have hkb : kb < (Y.alloc (.cells #[.string key] 9)).heap.size := by rw [← hkb0]; simp
            (try rw [hkb0] at hne)
            clear hkb0
            generalize Y.alloc (.cells #[.string key] 9) = Y at *
            try simp only [Act.put, List.setIfInBounds_toArray, List.set_cons_zero, List.set_cons_succ]
            refine one_opG (i := 0) (by kernel_rfl) rfl (fun K hK => ?_)
            go_simp
            have hfA : Frm NoS Y (Y.alloc (.cells #[] 9)) := Frm.alloc _ _ _
            have hE : OwnAt wr (Y.alloc (.cells #[] 9)) 9 1 (.slice (some ⟨Y.heap.size, 0, none⟩) 0 0) 0 [] := OwnAt.empty hFY _ _
            have hS : (Y.alloc (.cells #[] 9)).cell? ⟨w.heap.size, 1, none⟩ = some (.slice (some ⟨b, off, none⟩) m ck) ∧ (Y.alloc (.cells #[] 9)).cell? ⟨b, off + k * 3, none⟩ = some (.string key) := ⟨hfA.cell' hS.1 id, hfA.cell' hS.2 id⟩
            have hFY := hFY.then1 hfA
            (try have hne : kb ≠ Y.heap.size := by have := hkb; omega)
            (try have hKy := hKy.keep0 hfA)
            refine hK.out _ _ hS ?_
            clear hK K hfA
            obtain ⟨eb, heb⟩ : ∃ eb, Y.heap.size = eb := ⟨_, rfl⟩
            rw [heb] at hE ⊢
            have hlte : eb < (Y.alloc (.cells #[] 9)).heap.size := by rw [← heb]; simp
            (try rw [heb] at hne)
            clear heb
            generalize Y.alloc (.cells #[] 9) = Y at *
            try simp only [Act.put, List.setIfInBounds_toArray, List.set_cons_zero, List.set_cons_succ]
            refine one_opG (i := 2) (by kernel_rfl) rfl (fun K hK => ?_)
            refine step_appR wr Y (stV pl) rfl (.tmp 32) (.tmp 33) 179 179 rfl 9 9 j0 _ 1 16 Tryz.underlying179 Tryz.underlying179 hji hy0 hy1 hy2 (by decide) (by decide) _ 0 [] hE _ q (by simp [Act.eval]) (by simp [Act.eval]) (HPR.out.keep0 hFY) (by rw [stV_length, HQ.out]; omega) (stV_oneCell _) (by simp only [maxLen]; omega) (by omega) ?_
            intro ad3 cc3 Y2 hP fmP frP
            rw [Nat.zero_add] at hP
            rw [List.nil_append] at hP
            have hS : Y2.cell? ⟨w.heap.size, 1, none⟩ = some (.slice (some ⟨b, off, none⟩) m ck) ∧ Y2.cell? ⟨b, off + k * 3, none⟩ = some (.string key) := ⟨hP.frm.cell' b1 id, hP.frm.cell' c0 id⟩
            have hFY := hP.frm
            (try have hKy := hKy.keep fmP (fun x hx hr => by simp [RowS, Value.ownBlock] at hx hr; omega))
            rw [Nat.zero_add]
            refine hK.out _ _ hS ?_
            clear hK K fmP frP hE hlte
            generalize Y2 = Y at *
            try simp only [Act.put, List.setIfInBounds_toArray, List.set_cons_zero, List.set_cons_succ]
            refine one_opG (i := 10) (by kernel_rfl) rfl (fun K hK => ?_)
            refine step_appR wr Y [.string key] rfl (.tmp 34) (.tmp 41) 179 179 rfl 9 9 j0 _ 1 16 Tryz.underlying179 Tryz.underlying179 hji hy0 hy1 hy2 (by decide) (by decide) _ q (stV pl) hP _ 1 (by simp [Act.eval]) (by simp [Act.eval]) hKy rfl (by simp [Value.oneCell']) (by simp only [maxLen]; omega) (by omega) ?_
            intro ad4 cc4 Y3 hP4 fmP4 frP4
            have hS : Y3.cell? ⟨w.heap.size, 1, none⟩ = some (.slice (some ⟨b, off, none⟩) m ck) ∧ Y3.cell? ⟨b, off + k * 3, none⟩ = some (.string key) := ⟨hP4.frm.cell' b1 id, hP4.frm.cell' c0 id⟩
            refine hK.out _ _ hS ?_
            clear hK K fmP4 frP4 hP
            have HP4 := Lib.hid hP4; clear hP4
            try simp only [Act.put, List.setIfInBounds_toArray, List.set_cons_zero, List.set_cons_succ]
            refine last_opG (by kernel_rfl) (by kernel_rfl) rfl (fun K hK => ?_)
            go_simp
            refine hK.out _ _ ?_
            clear hK K hKy hS
            have c1 := HP4.out.frm.cell' c1 id
            have c2 := HP4.out.frm.cell' c2 id
            have b1 := HP4.out.frm.cell' b1 id
            go_wp2_with (first
             | (go_at_call 155; refine (HIH.out _ HP4.out.frm _ (by have := HP4.out.rd; rw [stV_append, List.length_append, HQ.out]; exact this)).mono ?_; rintro e w3 ⟨v3, l3, rfl, ho3, hd3, hone3⟩; obtain ⟨a3, c3, rfl⟩ := ho3.shape; have HO3 := Lib.hid ho3; clear ho3; have HD3 := Lib.hid hd3; clear hd3; have HONE3 := Lib.hid hone3; clear hone3; have HKK := Lib.hid (HOK.out.keep (HP4.out.frm.then1 HO3.out.frm)))
             | (at_builtin; refine wpList_appR _ _ _ rfl (.tmp 43) (.tmp 51) 177 177 rfl 181 181 i0 _ 5 64 Tryz.underlying177 Tryz.underlying177 hi hz0 hz1 hz2 (by decide) (by decide) _ _ _ HKK.out _ l3.length rfl rfl HO3.out.rd (by rw [lfC_length]) (lfC_oneCell HONE3.out) (by have := HLEN.out; rw [← HD3.out, dotsL_length] at this; simp only [maxLen]; omega) (by have := HLEN.out; rw [← HD3.out, dotsL_length] at this; omega) ?_; intro ad5 cc5 w5 own5; have OW := Lib.hid own5; clear own5))
            go_roundw
            case rel => exact ⟨k + 1, l ++ l3, by omega, by go_num, by rw [List.length_append, lfC_append]; exact OW.out, by rw [HD.out, HDS.out, dotsL_append, HD3.out, List.append_assoc], HONE.out.append HONE3.out⟩
            case measure => simp [intOf]; omega
      · obtain rfl : m = k := by omega
        have hd := HD.out
        rw [KidsL.drop_none (by rw [HM.out]; exact Nat.le_refl _)] at hd
        have hd2 : dotsL l = dotsT es ks := by rw [hd]; simp [dotsK]
        have HD2 := Lib.hid hd2; clear hd2 hd
        go_wp2
        go_ret
        exact ⟨_, l, rfl, HOK.out.base HWB.out, HD2.out, HONE.out⟩
end Go.Proofs.YtcahemkomfaabaaGreat
/- tributaryref08: Leaves, Dots: the walks. -/
namespace Go.Proofs.YtcahemkomfaabaaGreat
open Go.RowKit
set_option maxRecDepth 100000 in
theorem r8Leaves_any (Q : Nat → Prop) (es : List Ent) (ks : KidsL) (w : World) (ev kv : Value) (ht : TreeAt Q w ev kv es ks) (hsz : sizeT es ks ≤ 100000) :
 Calls Tryz.prog 123 #[.agg #[ev, kv]] w (BelowPost w es ks) := by
 obtain ⟨ae, ce, rfl⟩ := ht.ents.rd.sl
 obtain ⟨os, hkr, hfor⟩ := ht.kids
 obtain ⟨ak, ck, rfl⟩ := hkr.rd.sl
 have HC := Lib.hid (fun W (f : Frm NoS w W) => r8below_any Q _ es ks W _ _ (.slice none 0 0) [] (Nat.lt_succ_self _) (ht.keep0 f) hsz (.inl ⟨none, rfl, rfl, rfl⟩) (by unfold sizeT at hsz; simp; omega))
 clear hkr hfor ht hsz
 go_enter Tryz.func123, Tryz.ntmps123
 go_wp2_with (go_at_call 155; refine (HC.out _ (Frm.alloc _ _ _)).mono ?_; rintro e w3 ⟨v3, l, rfl, ho3, hd3, hone3⟩; obtain ⟨a3, c3, rfl⟩ := ho3.shape; have HO3 := Lib.hid (ho3.base (Frm.alloc NoS w _)); clear ho3; have HD3 := Lib.hid hd3; clear hd3; have HON := Lib.hid hone3; clear hone3)
 go_ret
 exact ⟨_, l, rfl, HO3.out, HD3.out, HON.out⟩
set_option maxHeartbeats 2000000 in
set_option maxRecDepth 100000 in
theorem r8Dots_any (Q : Nat → Prop) (es : List Ent) (ks : KidsL) (w : World) (ev kv : Value) (ht : TreeAt Q w ev kv es ks) (hsz : sizeT es ks ≤ 2000) (hd : DotsOk (dotsT es ks)) :
 Calls Tryz.prog 76 #[.agg #[ev, kv]] w fun e w' => ∃ v' c, e = .returned v' ∧ OwnAt w w' 122 3 v' c.length (spC c) ∧ OfC (dotsT es ks) c ∧ c.length ≤ 8000 := by
 obtain ⟨i0, hi, hz0, hz1, hz2⟩ := info_parts info_dot
 obtain ⟨ae, ce, rfl⟩ := ht.ents.rd.sl
 obtain ⟨os, hkr, hfor⟩ := ht.kids
 obtain ⟨ak, ck, rfl⟩ := hkr.rd.sl
 have HC := Lib.hid (fun W (f : Frm NoS w W) => r8Leaves_any Q es ks W _ _ (ht.keep0 f) (by omega))
 have hdl := dotsT_length_le es ks
 have HDL := Lib.hid (show (dotsT es ks).length ≤ 2000 by omega)
 have HDK := Lib.hid hd; clear hd
 have HFA := Lib.hid (Frm.alloc NoS w (.cells #[.slice ae es.length ce, .slice ak ks.len ck] 28))
 clear hkr hfor ht hsz hdl
 go_enter Tryz.func76, Tryz.ntmps76
 go_wp2_with (go_at_call 123; refine (HC.out _ HFA.out).mono ?_; rintro e w3 ⟨v3, l, rfl, ho3, hd3, -⟩; obtain ⟨a3, c3, rfl⟩ := ho3.shape; have HO3 := Lib.hid (ho3.base HFA.out); clear ho3; have HD3 := Lib.hid hd3; clear hd3)
 have hl := HDL.out
 rw [← HD3.out, dotsL_length] at hl
 generalize hn : l.length = n at *
 have HN := Lib.hid hn; clear hn
 go_loopw [3, 10] (fun v i ww => ∃ k : Nat, k ≤ n ∧ i = .int .i64 k ∧ OwnAt w3 ww 168 2 v k (ruC (dotsL (l.take k)))) (fun _ i _ => n - (intOf i).toNat)
 case atStart => exact ⟨0, Nat.zero_le _, rfl, OwnAt.nil (Frm.refl _ _) _ _⟩
 case round =>
  obtain ⟨k, hk, rfl, ho⟩ := hrel
  obtain ⟨av, cv, rfl⟩ := ho.shape
  have HO := Lib.hid ho; clear ho
  by_cases hlt : k < n
  · rcases Rd.shape HO3.out.rd with ⟨ad, he, h0⟩ | ⟨b, off, cc, he, hmax⟩
    · exfalso; omega
    · injection he with e1 e2 e3
      subst e1 e3
      clear e2
      have hlk : k < l.length := by rw [HN.out]; exact hlt
      obtain ⟨p0, p1⟩ := lf_at HO3.out.rd k hlk
      have q0 := HO.out.frm.cell' p0 id
      have q1 := HO.out.frm.cell' p1 id
      clear p0 p1
      have hE := dotsL_take_succ hlk
      generalize l.getD k (.bool true, Ent.zero) = x at *
      have HEE := Lib.hid hE; clear hE
      go_wp2_with (at_builtin; refine wpList_appO _ _ [.int .i64 x.2.dc, .int .i64 x.2.n] rfl (.tmp 13) (.tmp 20) 176 rfl 168 i0 _ 2 16 Tryz.underlying176 hi hz0 hz1 hz2 (by decide) (by decide) _ _ _ HO.out 1 1 rfl (by simp [Act.eval]) rfl (by simp [Value.oneCell']) (by simp only [maxLen]; omega) (by omega) ?_; intro ad2 cc2 w2 own2; have OW := Lib.hid own2; clear own2)
      go_roundw
      case rel => exact ⟨k + 1, by omega, by go_num, by rw [HEE.out, ruC_append]; exact OW.out⟩
      case measure => simp [intOf]; omega
  · obtain rfl : n = k := by omega
    rw [List.take_of_length_le (by rw [HN.out]; exact Nat.le_refl _), HD3.out] at HO
    have hnn : n = (dotsT es ks).length := by rw [← HD3.out, dotsL_length]; exact HN.out.symm
    have hrun : RunAt wr (.slice av n cv) (dotsT es ks) := by show Rd wr _ (dotsT es ks).length _; rw [← hnn]; exact HO.out.rd
    have HRUN := Lib.hid hrun; clear hrun hnn
    go_wp2_with (go_at_call 124; refine (r7Of_any _ _ (dotsT es ks) HRUN.out HDK.out (by have := HDL.out; omega)).mono ?_; rintro e w5 ⟨v5, c5, rfl, ho5, hof, -⟩; obtain ⟨a5, cc5, rfl⟩ := ho5.shape; have HO5 := Lib.hid ho5; clear ho5; have HOF := Lib.hid hof; clear hof)
    go_ret
    exact ⟨_, c5, rfl, (HO5.out.base HO.out.frm).base HO3.out.frm, HOF.out, by have := HOF.out.length; have := HDL.out; omega⟩
end Go.Proofs.YtcahemkomfaabaaGreat
/- tributaryref08: room, Small, Right: the walks. -/
namespace Go.Proofs.YtcahemkomfaabaaGreat
open Go.RowKit
set_option maxHeartbeats 2000000 in
set_option maxRecDepth 1000000 in
theorem r8room_any (Q : Nat → Prop) : ∀ (N : Nat) (es : List Ent) (ks : KidsL) (left : Int) (d : Nat) (w : World) (ev kv : Value), sizeK ks < N → TreeAt Q w ev kv es ks → TrOk es ks → left ≤ 1000 → 0 ≤ left → d ≤ 100 →
 Calls Tryz.prog 130 #[.agg #[ev, kv], .int .i64 left, .int .i64 d] w fun e w' => e = .returned (.int .i64 (roomT es ks left d)) ∧ Frm NoS w w' := by
 intro N
 induction N with
 | zero => intros; exfalso; omega
 | succ N IHN =>
  intro es ks left d w ev kv hN ht hok hl1 hl2 hd
  obtain ⟨ae, ce, rfl⟩ := ht.ents.rd.sl
  obtain ⟨os, hkr, hfor⟩ := ht.kids
  obtain ⟨ak, ck, rfl⟩ := hkr.rd.sl
  have HKR := Lib.hid hkr.rd; clear hkr ht
  have HFOR := Lib.hid hfor; clear hfor
  have IH := Lib.hid IHN; clear IHN
  have HWB := Lib.hid (Frm.alloc NoS w (.cells #[.slice ae es.length ce, .slice ak ks.len ck] 28))
  have box1 : (w.alloc (.cells #[.slice ae es.length ce, .slice ak ks.len ck] 28)).cell? ⟨w.heap.size, 1, none⟩ = some (.slice ak ks.len ck) := cell_at' (heap_alloc_new w _) 1 rfl
  have B1 := Lib.hid box1; clear box1
  have hel := hok.es.len
  have hkl0 := hok.len
  have HOK := Lib.hid hok.ks; clear hok
  have HSZ := Lib.hid hN; clear hN
  have hrt : roomT es ks left d = roomK ks (left - es.length - ks.len) d := rfl
  rw [hrt]
  clear hrt
  generalize es.length = n at *
  generalize hkl : ks.len = m at *
  have HM := Lib.hid hkl; clear hkl
  obtain ⟨l0, hl0⟩ : ∃ l0 : Int, l0 = left - n - m := ⟨_, rfl⟩
  have hb0 : l0 ≤ 1000 ∧ -300000000000000 ≤ l0 := by omega
  rw [← hl0]
  go_enter Tryz.func130, Tryz.ntmps130
  go_wp2
  go_loopw [1, 20] (fun lv i ww => ∃ (k : Nat) (x : Int), k ≤ m ∧ i = .int .i64 k ∧ lv = .int .i64 x ∧ x ≤ 1000 ∧ -300000000000000 ≤ x ∧ roomK ks l0 d = roomK (ks.drop k) x d ∧ Frm NoS (w.alloc (.cells #[.slice ae n ce, .slice ak m ck] 28)) ww) (fun _ i _ => m - (intOf i).toNat)
  case atStart => exact ⟨0, l0, Nat.zero_le _, rfl, by rw [hl0], hb0.1, hb0.2, rfl, Frm.refl _ _⟩
  case round =>
   clear hl0
   obtain ⟨k, x, hk, rfl, rfl, hx1, hx2, hr, hw⟩ := hrel
   have HW := Lib.hid hw; clear hw
   have b1 := HW.out.cell' B1.out id
   by_cases hlt : k < m
   · obtain ⟨key, es', sub, rest, hdr⟩ := KidsL.drop_some (n := k) (ks := ks) (by rw [HM.out]; exact hlt)
     rw [roomK_drop hdr] at hr
     by_cases hx0 : x < 0
     · rw [if_pos (.inl hx0)] at hr
       have HR := Lib.hid hr; clear hr
       clear hdr
       go_wp2
       go_ret
       exact ⟨ret_int HR.out.symm, HWB.out.then1 HW.out⟩
     · by_cases hd0 : d = 0
       · subst hd0
         rw [if_pos (.inr rfl)] at hr
         have HR := Lib.hid hr; clear hr
         clear hdr
         go_wp2
         go_ret
         exact ⟨ret_int HR.out.symm, HWB.out.then1 HW.out⟩
       · rw [if_neg (by omega)] at hr
         rcases Rd.shape (HKR.out.keep0 (HWB.out.then1 HW.out)) with ⟨ad, he, h0⟩ | ⟨b, off, cc, he, hmax⟩
         · exfalso; have := HM.out; omega
         · injection he with e1 e2 e3
           subst e1 e3
           clear e2
           obtain ⟨ev', kv', c0, c1, c2, hta⟩ := kid_at (HKR.out.keep0 (HWB.out.then1 HW.out)) (HFOR.out.keep0 (HWB.out.then1 HW.out)) hdr
           obtain ⟨ae', ce', rfl⟩ := hta.ents.rd.sl
           obtain ⟨os', hkr', hfor'⟩ := hta.kids
           obtain ⟨ak', ck', rfl⟩ := hkr'.rd.sl
           clear hkr' hfor'
           have hok' := HOK.out.drop k
           rw [hdr] at hok'
           have hsub : TrOk es' sub := ⟨hok'.2.1, hok'.2.2.1, hok'.2.2.2.1⟩
           have hbd := roomK_bd (ks := sub) (left := x - es'.length - sub.len) (d := d - 1) hsub.ks (by omega) (by have := hsub.es.len; have := hsub.len; omega)
           obtain ⟨y, hy⟩ : ∃ y, y = roomT es' sub x (d - 1) := ⟨_, rfl⟩
           have HBD := Lib.hid (show y ≤ 1000 ∧ -300000000000000 ≤ y by rw [hy]; exact hbd); clear hbd
           have hih := IH.out es' sub x (d - 1) wr _ _ (by have := size_sub k hdr; have := HSZ.out; omega) hta hsub hx1 (by omega) (by omega)
           rw [show ((d - 1 : Nat) : Int) = (d : Int) - 1 by omega] at hih
           rw [← hy] at hih hr
           have HIH := Lib.hid hih; clear hih hta hok' hsub hdr hy
           have HR := Lib.hid hr; clear hr
           generalize es'.length = n' at *
           generalize sub.len = m' at *
           have hd1 : (d : Int) ≤ 100 := by omega
           have hd2 : (1 : Int) ≤ d := by omega
           have hdz : ((d : Int) == 0) = false := by simp; omega
           go_wp2_with (go_at_call 130; refine HIH.out.mono ?_; rintro e w3 ⟨rfl, hw3⟩; have HW3 := Lib.hid hw3; clear hw3)
           go_roundw
           case rel => exact ⟨k + 1, y, by omega, by go_num, rfl, HBD.out.1, HBD.out.2, HR.out, HW.out.then1 HW3.out⟩
           case measure => simp [intOf]; omega
   · obtain rfl : m = k := by omega
     rw [KidsL.drop_none (by rw [HM.out]; exact Nat.le_refl _)] at hr
     have HR := Lib.hid hr; clear hr
     go_wp2
     go_ret
     exact ⟨ret_int HR.out.symm, HWB.out.then1 HW.out⟩
set_option maxRecDepth 100000 in
theorem r8Small_any (Q : Nat → Prop) (es : List Ent) (ks : KidsL) (left : Int) (w : World) (ev kv : Value) (ht : TreeAt Q w ev kv es ks) (hok : TrOk es ks) (h1 : left ≤ 1000) (h2 : 0 ≤ left) :
 Calls Tryz.prog 83 #[.agg #[ev, kv], .int .i64 left] w fun e w' => e = .returned (.bool (decide (0 ≤ roomT es ks left 8))) ∧ Frm NoS w w' := by
 obtain ⟨ae, ce, rfl⟩ := ht.ents.rd.sl
 obtain ⟨os, hkr, hfor⟩ := ht.kids
 obtain ⟨ak, ck, rfl⟩ := hkr.rd.sl
 have hc : ∀ W, Frm NoS w W → Calls Tryz.prog 130 #[.agg #[.slice ae es.length ce, .slice ak ks.len ck], .int .i64 left, .int .i64 8] W fun e w' => e = .returned (.int .i64 (roomT es ks left 8)) ∧ Frm NoS W w' := fun W f => r8room_any Q _ es ks left 8 W _ _ (Nat.lt_succ_self _) (ht.keep0 f) hok h1 h2 (by omega)
 have HC := Lib.hid hc
 clear hkr hfor ht hok hc
 generalize roomT es ks left 8 = y at *
 generalize es.length = n at *
 generalize ks.len = m at *
 go_enter Tryz.func83, Tryz.ntmps83
 go_wp2_with (go_at_call 130; refine (HC.out _ (Frm.alloc _ _ _)).mono ?_; rintro e w3 ⟨rfl, hw3⟩; have HW3 := Lib.hid ((Frm.alloc NoS _ _).then1 hw3); clear hw3)
 go_ret
 exact ⟨rfl, HW3.out⟩
set_option maxRecDepth 100000 in
theorem r8Right_any (Q : Nat → Prop) (es : List Ent) (ks : KidsL) (w : World) (ev kv : Value) (ht : TreeAt Q w ev kv es ks) (hok : TrOk es ks) :
 Calls Tryz.prog 119 #[.agg #[ev, kv]] w fun e w' => e = .returned (.bool (rightT 5 es ks)) ∧ Frm NoS w w' := by
 obtain ⟨ae, ce, rfl⟩ := ht.ents.rd.sl
 obtain ⟨os, hkr, hfor⟩ := ht.kids
 obtain ⟨ak, ck, rfl⟩ := hkr.rd.sl
 have hc : ∀ W, Frm NoS w W → Calls Tryz.prog 150 #[.agg #[.slice ae es.length ce, .slice ak ks.len ck], .int .i64 5] W fun e w' => e = .returned (.bool (rightT 5 es ks)) ∧ Frm NoS W w' := fun W f => r8right_any Q _ es ks 5 W _ _ (Nat.lt_succ_self _) (ht.keep0 f) hok (by omega)
 have HC := Lib.hid hc
 clear hkr hfor ht hok hc
 generalize rightT 5 es ks = y at *
 generalize es.length = n at *
 generalize ks.len = m at *
 go_enter Tryz.func119, Tryz.ntmps119
 go_wp2_with (go_at_call 150; refine (HC.out _ (Frm.alloc _ _ _)).mono ?_; rintro e w3 ⟨rfl, hw3⟩; have HW3 := Lib.hid ((Frm.alloc NoS _ _).then1 hw3); clear hw3)
 go_ret
 exact ⟨rfl, HW3.out⟩
end Go.Proofs.YtcahemkomfaabaaGreat
