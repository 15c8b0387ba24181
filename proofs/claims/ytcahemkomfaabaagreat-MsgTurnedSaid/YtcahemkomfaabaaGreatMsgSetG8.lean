/- Words for the law MsgSet: TAll, TEnt, TRight, KidQ, TClone, TClone2. -/
import Derived.Test.YtcahemkomfaabaaGreatMsgSetG4
import Derived.Test.YtcahemkomfaabaaGreatMsgSetG6
import Derived.Test.YtcahemkomfaabaaGreatMsgSetG7
set_option linter.unusedSimpArgs false
set_option linter.unusedVariables false
set_option maxHeartbeats 32000000
set_option maxRecDepth 1000000
namespace Go.Proofs.YtcahemkomfaabaaGreat
open Go.RowKit
theorem info_dot : (Tryz.prog.info? 168).map (fun i => (i.zero, i.size, i.bytes)) = some (some (.agg #[.int .i64 0, .int .i64 0]), 2, 16) := by kernel_rfl
theorem dotsE_take_succ {l : List Ent} {k : Nat} (hk : k < l.length) : dotsE (l.take (k + 1)) = dotsE (l.take k) ++ [((l.getD k Ent.zero).dc, (l.getD k Ent.zero).n)] := by
 rw [take_succ Ent.zero hk]; simp [dotsE]
theorem dotsK_drop {ks : KidsL} {n : Nat} {key : ByteArray} {es : List Ent} {sub rest : KidsL} (h : ks.drop n = .cons key es sub rest) : dotsK (ks.drop n) = dotsT es sub ++ dotsK (ks.drop (n + 1)) := by
 rw [h, KidsL.drop_succ n ks h]; rfl
theorem sizeT_sub : ∀ (n : Nat) {ks : KidsL} {key : ByteArray} {es : List Ent} {sub rest : KidsL}, ks.drop n = .cons key es sub rest → sizeT es sub ≤ sizeK ks
 | 0, .cons _ _ _ _, _, _, _, _, h => by
  cases h
  simp only [sizeK, sizeT]
  omega
 | 0, .nil, _, _, _, _, h => by cases h
 | n + 1, .nil, _, _, _, _, h => by cases h
 | n + 1, .cons _ _ _ r, _, _, _, _, h => by
  have h1 : r.drop n = _ := h
  have := sizeT_sub n h1
  simp only [sizeK]
  omega
theorem len_le_sizeK : ∀ ks : KidsL, ks.len ≤ sizeK ks
 | .nil => Nat.le_refl _
 | .cons _ _ _ r => by have := len_le_sizeK r; simp only [KidsL.len, sizeK]; omega
theorem tall_any (Q : Nat → Prop) : ∀ (N : Nat) (es : List Ent) (ks : KidsL) (w : World) (ev kv : Value), sizeK ks < N → TreeAt Q w ev kv es ks → sizeT es ks ≤ 100000 →
 Calls Tryz.prog 132 #[.agg #[ev, kv]] w fun e w' => ∃ v', e = .returned v' ∧ OwnAt w w' 168 2 v' (dotsT es ks).length (ruC (dotsT es ks)) := by
 intro N
 induction N with
 | zero => intros; exfalso; omega
 | succ N IHN =>
  intro es ks w ev kv hN ht hsz
  obtain ⟨i0, hi, hz0, hz1, hz2⟩ := info_parts info_dot
  obtain ⟨ae, ce, rfl⟩ := ht.ents.rd.sl
  obtain ⟨os, hkr, hfor⟩ := ht.kids
  obtain ⟨ak, ck, rfl⟩ := hkr.rd.sl
  have HE := Lib.hid ht.ents.rd
  have HKR := Lib.hid hkr.rd; clear hkr ht
  have HFOR := Lib.hid hfor; clear hfor
  have IH := Lib.hid IHN; clear IHN
  have HWB := Lib.hid (Frm.alloc NoS w (.cells #[.slice ae es.length ce, .slice ak ks.len ck] 28))
  have box0 : (w.alloc (.cells #[.slice ae es.length ce, .slice ak ks.len ck] 28)).cell? ⟨w.heap.size, 0, none⟩ = some (.slice ae es.length ce) := cell_at' (heap_alloc_new w _) 0 rfl
  have box1 : (w.alloc (.cells #[.slice ae es.length ce, .slice ak ks.len ck] 28)).cell? ⟨w.heap.size, 1, none⟩ = some (.slice ak ks.len ck) := cell_at' (heap_alloc_new w _) 1 rfl
  have B0 := Lib.hid box0; clear box0
  have B1 := Lib.hid box1; clear box1
  have HDL := Lib.hid (Nat.le_trans (dotsT_length_le es ks) hsz)
  have hn5 : es.length ≤ 100000 := by unfold sizeT at hsz; omega
  have hm5 : ks.len ≤ 100000 := by have := len_le_sizeK ks; unfold sizeT at hsz; omega
  have HSZ := Lib.hid hsz; clear hsz
  have HNN := Lib.hid hN; clear hN
  generalize hes : es.length = n at *
  have HN := Lib.hid hes; clear hes
  generalize hkl : ks.len = m at *
  have HM := Lib.hid hkl; clear hkl
  go_enter Tryz.func132, Tryz.ntmps132
  go_wp2_with fail
  have b0 := B0.out
  go_wp2
  clear b0
  go_loopw [3, 11] (fun v i ww => ∃ k : Nat, k ≤ n ∧ i = .int .i64 k ∧ OwnAt (w.alloc (.cells #[.slice ae n ce, .slice ak m ck] 28)) ww 168 2 v k (ruC (dotsE (es.take k)))) (fun _ i _ => n - (intOf i).toNat)
  case atStart => exact ⟨0, Nat.zero_le _, rfl, OwnAt.nil (Frm.refl _ _) _ _⟩
  case round =>
   obtain ⟨k, hk, rfl, ho⟩ := hrel
   obtain ⟨av, cv, rfl⟩ := ho.shape
   have HO := Lib.hid ho; clear ho
   by_cases hlt : k < n
   · rcases Rd.shape HE.out with ⟨ad, he, h0⟩ | ⟨b, off, cc, he, hmax⟩
     · exfalso; have := HN.out; omega
     · injection he with e1 e2 e3
       subst e1 e3
       clear e2
       have hlk : k < es.length := by rw [HN.out]; exact hlt
       obtain ⟨p0, p1, p2, p3⟩ := ent_at HE.out k hlk
       have f2 := HWB.out.then1 HO.out.frm
       have q0 := f2.cell' p0 id
       have q1 := f2.cell' p1 id
       have q2 := f2.cell' p2 id
       have q3 := f2.cell' p3 id
       clear p0 p1 p2 p3 f2
       have hE := dotsE_take_succ hlk
       generalize es.getD k Ent.zero = e at *
       have HEE := Lib.hid hE; clear hE
       go_wp2_with (at_builtin; refine wpList_appO _ _ [.int .i64 e.dc, .int .i64 e.n] rfl (.tmp 15) (.tmp 18) 176 rfl 168 i0 _ 2 16 Tryz.underlying176 hi hz0 hz1 hz2 (by decide) (by decide) _ _ _ (HO.out.keep (Frm.alloc _ _ _)) 1 1 rfl (by simp [Act.eval]) rfl (by simp [Value.oneCell']) (by simp only [maxLen]; omega) (by omega) ?_; intro ad2 cc2 w2 own2; have OW := Lib.hid own2; clear own2)
       go_roundw
       case rel => exact ⟨k + 1, by omega, by go_num, by rw [HEE.out, ruC_append]; exact OW.out⟩
       case measure => simp [intOf]; omega
   · obtain rfl : n = k := by omega
     rw [List.take_of_length_le (by rw [HN.out]; exact Nat.le_refl _)] at HO
     have b1 := HO.out.frm.cell' B1.out id
     go_wp2
     clear b1
     go_loopw [3, 24] (fun v i ww => ∃ (k : Nat) (out : RunL), k ≤ m ∧ i = .int .i64 k ∧ OwnAt (w.alloc (.cells #[.slice ae n ce, .slice ak m ck] 28)) ww 168 2 v out.length (ruC out) ∧ dotsT es ks = out ++ dotsK (ks.drop k)) (fun _ i _ => m - (intOf i).toNat)
     case atStart => exact ⟨0, dotsE es, Nat.zero_le _, rfl, by rw [dotsE_length, HN.out]; exact HO.out, rfl⟩
     case round =>
      obtain ⟨k, out, hk, rfl, ho, hd⟩ := hrel
      obtain ⟨av, cv, rfl⟩ := ho.shape
      have HOK := Lib.hid ho; clear ho
      have HD := Lib.hid hd; clear hd
      by_cases hlt : k < m
      · obtain ⟨key, es', sub, rest, hdr⟩ := KidsL.drop_some (n := k) (ks := ks) (by rw [HM.out]; exact hlt)
        rcases Rd.shape HKR.out with ⟨ad, he, h0⟩ | ⟨b, off, cc, he, hmax⟩
        · exfalso; have := HM.out; omega
        · injection he with e1 e2 e3
          subst e1 e3
          clear e2
          have f2 := HWB.out.then1 HOK.out.frm
          obtain ⟨ev', kv', c0, c1, c2, hta⟩ := kid_at (HKR.out.keep0 f2) (HFOR.out.keep0 f2) hdr
          obtain ⟨ae', ce', rfl⟩ := hta.ents.rd.sl
          obtain ⟨os', hkr', hfor'⟩ := hta.kids
          obtain ⟨ak', ck', rfl⟩ := hkr'.rd.sl
          clear hkr' hfor' f2
          have HDS := Lib.hid (dotsK_drop hdr)
          have HSS := Lib.hid (size_sub k hdr)
          have HST := Lib.hid (sizeT_sub k hdr)
          have HTA := Lib.hid hta; clear hta
          have HIH := Lib.hid (fun w' (h : Frm NoS wr w') => IH.out es' sub w' _ _ (by have := HSS.out; have := HNN.out; omega) (HTA.out.keep0 h) (by have := HST.out; have := HSZ.out; unfold sizeT at *; omega))
          have hlen : out.length + (dotsT es' sub).length ≤ 100000 := by
           have h1 := HDL.out
           rw [HD.out, HDS.out, List.length_append, List.length_append] at h1
           omega
          have HLEN := Lib.hid hlen; clear hlen
          clear hdr
          generalize es'.length = n' at *
          generalize sub.len = m' at *
          go_wp2_with (first
           | (go_at_call 132; refine (HIH.out _ (Frm.alloc _ _ _)).mono ?_; rintro e w3 ⟨v3, rfl, ho3⟩; obtain ⟨a3, c3, rfl⟩ := ho3.shape; have HO3 := Lib.hid ho3; clear ho3; have HKK := Lib.hid (HOK.out.keep ((Frm.alloc NoS _ _).then1 HO3.out.frm)))
           | (at_builtin; refine wpList_appR _ _ _ rfl (.tmp 28) (.tmp 31) 176 176 rfl 168 168 i0 _ 2 16 Tryz.underlying176 Tryz.underlying176 hi hz0 hz1 hz2 (by decide) (by decide) _ _ _ HKK.out _ (dotsT es' sub).length rfl rfl HO3.out.rd (by rw [ruC_length]) (ruC_oneCell _) (by have := HLEN.out; simp only [maxLen]; omega) (by have := HLEN.out; omega) ?_; intro ad cc w5 own5; have OW := Lib.hid own5; clear own5))
          go_roundw
          case rel => exact ⟨k + 1, out ++ dotsT es' sub, by omega, by go_num, by rw [List.length_append, ruC_append]; exact OW.out, by rw [HD.out, HDS.out, List.append_assoc]⟩
          case measure => simp [intOf]; omega
      · obtain rfl : m = k := by omega
        have hd := HD.out
        rw [KidsL.drop_none (by rw [HM.out]; exact Nat.le_refl _)] at hd
        have hd2 : dotsT es ks = out := by rw [hd]; simp [dotsK]
        have HD2 := Lib.hid hd2; clear hd2 hd
        go_wp2
        go_ret
        refine ⟨_, rfl, ?_⟩
        rw [HD2.out]
        exact HOK.out.base HWB.out
theorem dotC_ge (d n e m : Int) : (!decide (0 ≤ dotC d n e m)) = dotLt d n e m := by
 rw [← dotC_lt]
 by_cases h : 0 ≤ dotC d n e m
 · have : ¬ dotC d n e m < 0 := by omega
   simp [h, this]
 · have : dotC d n e m < 0 := by omega
   simp [h, this]
theorem tentries_any (w : World) (v : Value) (es : List Ent) (hv : Rd w v es.length (entC es)) (hok : EsOk es) :
 Calls Tryz.prog 197 #[v] w fun e w' => e = .returned (.bool (rightEs none es)) ∧ Frm NoS w w' := by
 obtain ⟨aA, cA, rfl⟩ := hv.sl
 have HH := Lib.hid hv; clear hv
 have HOK := Lib.hid hok; clear hok
 generalize hn : es.length = n at *
 have HN := Lib.hid hn; clear hn
 go_enter Tryz.func197, Tryz.ntmps197
 go_wp2
 go_loopw [7] (fun i ww => ∃ k : Nat, k ≤ n ∧ i = .int .i64 k ∧ rightEs none (es.take k) = true ∧ Frm NoS w ww) (fun i _ => n - (intOf i).toNat)
 case atStart => exact ⟨0, Nat.zero_le _, rfl, rfl, Frm.refl _ _⟩
 case round =>
  obtain ⟨k, hk, rfl, hr, hw⟩ := hrel
  have HW := Lib.hid hw; clear hw
  have HR := Lib.hid hr; clear hr
  by_cases hlt : k < n
  · rcases Rd.shape (HH.out.keep0 HW.out) with ⟨ad, he, h0⟩ | ⟨b, off, cc, he, hmax⟩
    · exfalso; have := HN.out; omega
    · injection he with e1 e2 e3
      subst e1 e3
      clear e2
      have hlk : k < es.length := by rw [HN.out]; exact hlt
      have her := HH.out.keep0 HW.out
      obtain ⟨q0, q1, q2, q3⟩ := ent_at her k hlk
      have hsz := (HOK.out.at hlk).2.2.2
      have hfk := (HOK.out.at hlk).2.2.1
      have hbl : b < wr.heap.size := World.block_lt_of_cell? _ _ q0
      rcases Nat.eq_zero_or_pos k with rfl | hk0
      · have hS := rightEs_step0 (l := es) hlk
        generalize es.getD 0 Ent.zero = e at *
        simp only [Nat.zero_mul, Nat.add_zero] at q0 q1 q2 q3
        clear her
        have hbf : Frm NoS wr (wr.alloc (.cells #[.int .i64 e.dc, .int .i64 e.n, .string e.s, .int .i64 e.k] 170)) := Frm.alloc _ _ _
        have HWK := Lib.hid (HW.out.then1 hbf)
        obtain ⟨α, hne, K, hK3, hK0, hK2⟩ := worlds (wr.alloc (.cells #[.int .i64 e.dc, .int .i64 e.n, .string e.s, .int .i64 e.k] 170))
        have hK1 := hK3
        have n0 := (fun s => (hK1 s).cell' (cell_at' (heap_alloc_new wr _) 0 rfl : (wr.alloc (.cells #[.int .i64 e.dc, .int .i64 e.n, .string e.s, .int .i64 e.k] 170)).cell? ⟨wr.heap.size, 0, none⟩ = some (.int .i64 e.dc)) id)
        have n1 := (fun s => (hK1 s).cell' (cell_at' (heap_alloc_new wr _) 1 rfl : (wr.alloc (.cells #[.int .i64 e.dc, .int .i64 e.n, .string e.s, .int .i64 e.k] 170)).cell? ⟨wr.heap.size, 1, none⟩ = some (.int .i64 e.n)) id)
        have n2 := (fun s => (hK1 s).cell' (cell_at' (heap_alloc_new wr _) 2 rfl : (wr.alloc (.cells #[.int .i64 e.dc, .int .i64 e.n, .string e.s, .int .i64 e.k] 170)).cell? ⟨wr.heap.size, 2, none⟩ = some (.string e.s)) id)
        have n3 := (fun s => (hK1 s).cell' (cell_at' (heap_alloc_new wr _) 3 rfl : (wr.alloc (.cells #[.int .i64 e.dc, .int .i64 e.n, .string e.s, .int .i64 e.k] 170)).cell? ⟨wr.heap.size, 3, none⟩ = some (.int .i64 e.k)) id)
        cases hd : dotB e.dc e.n with
        | false =>
         have he : entB e = false := by simp [entB, hd]
         rw [he] at hS
         (try simp only [Bool.false_and] at hS)
         have HS := Lib.hid hS; clear hS he
         have HDR := Lib.hid (fun W => dotRight_any e.dc e.n W)
         rw [hd] at HDR
         have HDC := Lib.hid (fun W => dotCmp_any 0 0 0 0 W)
         clear hd
         go_wp2_with fail
         refine wp_region_new K (by kernel_rfl) (by kernel_rfl) hK0 ?_
         repeat (go_big_quiet_step ((first | (go_at_call 167; exact Calls.in_class hK2 (HDR.out _)) | (go_at_call 188; exact Calls.in_class hK2 (HDC.out _)))))
         refine wpQuiet_nil ?_
         intro w' hw'
         obtain ⟨s, rfl⟩ := hw'
         have hfs := hK1 s
         go_wp2
         go_ret
         exact ⟨ret_bool (not_rightEs HS.out).symm, HWK.out.then1 hfs⟩
        | true =>
         have HDR := Lib.hid (fun W => dotRight_any e.dc e.n W)
         rw [hd] at HDR
         cases h1 : decide (30 < (e.s.size : Int)) with
         | true =>
          have HDC := Lib.hid (fun W => dotCmp_any 0 0 0 0 W)
          have he : entB e = false := by simp at h1; simp [entB]; intros; omega
          rw [he] at hS
          (try simp only [Bool.false_and] at hS)
          have HS := Lib.hid hS; clear hS he
          clear hd
          go_wp2_with fail
          refine wp_region_new K (by kernel_rfl) (by kernel_rfl) hK0 ?_
          repeat (go_big_quiet_step ((first | (go_at_call 167; exact Calls.in_class hK2 (HDR.out _)) | (go_at_call 188; exact Calls.in_class hK2 (HDC.out _)))))
          refine wpQuiet_nil ?_
          intro w' hw'
          obtain ⟨s, rfl⟩ := hw'
          have hfs := hK1 s
          go_wp2
          go_ret
          exact ⟨ret_bool (not_rightEs HS.out).symm, HWK.out.then1 hfs⟩
         | false =>
          cases h2 : decide (1099511627776 < e.k) with
          | true =>
           have HDC := Lib.hid (fun W => dotCmp_any 0 0 0 0 W)
           have he : entB e = false := by simp at h2; simp [entB]; intros; omega
           rw [he] at hS
           (try simp only [Bool.false_and] at hS)
           have HS := Lib.hid hS; clear hS he
           clear hd
           go_wp2_with fail
           refine wp_region_new K (by kernel_rfl) (by kernel_rfl) hK0 ?_
           repeat (go_big_quiet_step ((first | (go_at_call 167; exact Calls.in_class hK2 (HDR.out _)) | (go_at_call 188; exact Calls.in_class hK2 (HDC.out _)))))
           refine wpQuiet_nil ?_
           intro w' hw'
           obtain ⟨s, rfl⟩ := hw'
           have hfs := hK1 s
           go_wp2
           go_ret
           exact ⟨ret_bool (not_rightEs HS.out).symm, HWK.out.then1 hfs⟩
          | false =>
           cases h3 : decide (e.k < -1099511627776) with
           | true =>
            have HDC := Lib.hid (fun W => dotCmp_any 0 0 0 0 W)
            have he : entB e = false := by simp at h3; simp [entB]; intros; omega
            rw [he] at hS
            (try simp only [Bool.false_and] at hS)
            have HS := Lib.hid hS; clear hS he
            clear hd
            go_wp2_with fail
            refine wp_region_new K (by kernel_rfl) (by kernel_rfl) hK0 ?_
            repeat (go_big_quiet_step ((first | (go_at_call 167; exact Calls.in_class hK2 (HDR.out _)) | (go_at_call 188; exact Calls.in_class hK2 (HDC.out _)))))
            refine wpQuiet_nil ?_
            intro w' hw'
            obtain ⟨s, rfl⟩ := hw'
            have hfs := hK1 s
            go_wp2
            go_ret
            exact ⟨ret_bool (not_rightEs HS.out).symm, HWK.out.then1 hfs⟩
           | false =>
            have he : entB e = true := by simp at h1 h2 h3; simp [entB, hd]; omega
            rw [he] at hS
            clear he hd
            have HDC := Lib.hid (fun W => dotCmp_any 0 0 0 0 W)
            have HS := Lib.hid hS; clear hS
            go_wp2_with fail
            refine wp_region_new K (by kernel_rfl) (by kernel_rfl) hK0 ?_
            repeat (go_big_quiet_step ((first | (go_at_call 167; exact Calls.in_class hK2 (HDR.out _)) | (go_at_call 188; exact Calls.in_class hK2 (HDC.out _)))))
            refine wpQuiet_nil ?_
            intro w' hw'
            obtain ⟨s, rfl⟩ := hw'
            have hfs := hK1 s
            go_wp2
            go_roundw
            case rel => exact ⟨0 + 1, by omega, by go_num, HS.out, HWK.out.then1 hfs⟩
            case measure => simp [intOf]; omega
      · obtain ⟨j, rfl⟩ : ∃ j, k = j + 1 := ⟨k - 1, by omega⟩
        obtain ⟨p0, p1, -, -⟩ := ent_at her j (by omega)
        clear her
        have hS := rightEs_step (l := es) (j := j) hlk HR.out
        generalize es.getD (j + 1) Ent.zero = e at *
        generalize es.getD j Ent.zero = pe at *
        have hbf : Frm NoS wr (wr.alloc (.cells #[.int .i64 e.dc, .int .i64 e.n, .string e.s, .int .i64 e.k] 170)) := Frm.alloc _ _ _
        have HWK := Lib.hid (HW.out.then1 hbf)
        obtain ⟨α, hne, K, hK3, hK0, hK2⟩ := worlds (wr.alloc (.cells #[.int .i64 e.dc, .int .i64 e.n, .string e.s, .int .i64 e.k] 170))
        have hK1 := hK3
        have n0 := (fun s => (hK1 s).cell' (cell_at' (heap_alloc_new wr _) 0 rfl : (wr.alloc (.cells #[.int .i64 e.dc, .int .i64 e.n, .string e.s, .int .i64 e.k] 170)).cell? ⟨wr.heap.size, 0, none⟩ = some (.int .i64 e.dc)) id)
        have n1 := (fun s => (hK1 s).cell' (cell_at' (heap_alloc_new wr _) 1 rfl : (wr.alloc (.cells #[.int .i64 e.dc, .int .i64 e.n, .string e.s, .int .i64 e.k] 170)).cell? ⟨wr.heap.size, 1, none⟩ = some (.int .i64 e.n)) id)
        have n2 := (fun s => (hK1 s).cell' (cell_at' (heap_alloc_new wr _) 2 rfl : (wr.alloc (.cells #[.int .i64 e.dc, .int .i64 e.n, .string e.s, .int .i64 e.k] 170)).cell? ⟨wr.heap.size, 2, none⟩ = some (.string e.s)) id)
        have n3 := (fun s => (hK1 s).cell' (cell_at' (heap_alloc_new wr _) 3 rfl : (wr.alloc (.cells #[.int .i64 e.dc, .int .i64 e.n, .string e.s, .int .i64 e.k] 170)).cell? ⟨wr.heap.size, 3, none⟩ = some (.int .i64 e.k)) id)
        have m0 := (fun s => (hK1 s).cell' (hbf.cell' p0 id) id)
        have m1 := (fun s => (hK1 s).cell' (hbf.cell' p1 id) id)
        clear p0 p1
        cases hd : dotB e.dc e.n with
        | false =>
         have he : entB e = false := by simp [entB, hd]
         rw [he] at hS
         (try simp only [Bool.false_and] at hS)
         have HS := Lib.hid hS; clear hS he
         have HDR := Lib.hid (fun W => dotRight_any e.dc e.n W)
         rw [hd] at HDR
         have HDC := Lib.hid (fun W => dotCmp_any 0 0 0 0 W)
         clear hd
         go_wp2_with fail
         refine wp_region_new K (by kernel_rfl) (by kernel_rfl) hK0 ?_
         repeat (go_big_quiet_step ((first | (go_at_call 167; exact Calls.in_class hK2 (HDR.out _)) | (go_at_call 188; exact Calls.in_class hK2 (HDC.out _)))))
         refine wpQuiet_nil ?_
         intro w' hw'
         obtain ⟨s, rfl⟩ := hw'
         have hfs := hK1 s
         go_wp2
         go_ret
         exact ⟨ret_bool (not_rightEs HS.out).symm, HWK.out.then1 hfs⟩
        | true =>
         have HDR := Lib.hid (fun W => dotRight_any e.dc e.n W)
         rw [hd] at HDR
         cases h1 : decide (30 < (e.s.size : Int)) with
         | true =>
          have HDC := Lib.hid (fun W => dotCmp_any 0 0 0 0 W)
          have he : entB e = false := by simp at h1; simp [entB]; intros; omega
          rw [he] at hS
          (try simp only [Bool.false_and] at hS)
          have HS := Lib.hid hS; clear hS he
          clear hd
          go_wp2_with fail
          refine wp_region_new K (by kernel_rfl) (by kernel_rfl) hK0 ?_
          repeat (go_big_quiet_step ((first | (go_at_call 167; exact Calls.in_class hK2 (HDR.out _)) | (go_at_call 188; exact Calls.in_class hK2 (HDC.out _)))))
          refine wpQuiet_nil ?_
          intro w' hw'
          obtain ⟨s, rfl⟩ := hw'
          have hfs := hK1 s
          go_wp2
          go_ret
          exact ⟨ret_bool (not_rightEs HS.out).symm, HWK.out.then1 hfs⟩
         | false =>
          cases h2 : decide (1099511627776 < e.k) with
          | true =>
           have HDC := Lib.hid (fun W => dotCmp_any 0 0 0 0 W)
           have he : entB e = false := by simp at h2; simp [entB]; intros; omega
           rw [he] at hS
           (try simp only [Bool.false_and] at hS)
           have HS := Lib.hid hS; clear hS he
           clear hd
           go_wp2_with fail
           refine wp_region_new K (by kernel_rfl) (by kernel_rfl) hK0 ?_
           repeat (go_big_quiet_step ((first | (go_at_call 167; exact Calls.in_class hK2 (HDR.out _)) | (go_at_call 188; exact Calls.in_class hK2 (HDC.out _)))))
           refine wpQuiet_nil ?_
           intro w' hw'
           obtain ⟨s, rfl⟩ := hw'
           have hfs := hK1 s
           go_wp2
           go_ret
           exact ⟨ret_bool (not_rightEs HS.out).symm, HWK.out.then1 hfs⟩
          | false =>
           cases h3 : decide (e.k < -1099511627776) with
           | true =>
            have HDC := Lib.hid (fun W => dotCmp_any 0 0 0 0 W)
            have he : entB e = false := by simp at h3; simp [entB]; intros; omega
            rw [he] at hS
            (try simp only [Bool.false_and] at hS)
            have HS := Lib.hid hS; clear hS he
            clear hd
            go_wp2_with fail
            refine wp_region_new K (by kernel_rfl) (by kernel_rfl) hK0 ?_
            repeat (go_big_quiet_step ((first | (go_at_call 167; exact Calls.in_class hK2 (HDR.out _)) | (go_at_call 188; exact Calls.in_class hK2 (HDC.out _)))))
            refine wpQuiet_nil ?_
            intro w' hw'
            obtain ⟨s, rfl⟩ := hw'
            have hfs := hK1 s
            go_wp2
            go_ret
            exact ⟨ret_bool (not_rightEs HS.out).symm, HWK.out.then1 hfs⟩
           | false =>
            have he : entB e = true := by simp at h1 h2 h3; simp [entB, hd]; omega
            rw [he] at hS
            clear he hd
            rw [Bool.true_and] at hS
            have HDC := Lib.hid (fun W => dotCmp_any pe.dc pe.n e.dc e.n W)
            have hge := dotC_ge pe.dc pe.n e.dc e.n
            rw [← hge] at hS
            generalize dotC pe.dc pe.n e.dc e.n = cc at *
            cases hl : decide (0 ≤ cc) with
            | true =>
             rw [hl] at hS
             have hS := hS
             have HS := Lib.hid hS; clear hS hge
             go_wp2_with fail
             refine wp_region_new K (by kernel_rfl) (by kernel_rfl) hK0 ?_
             repeat (go_big_quiet_step ((first | (go_at_call 167; exact Calls.in_class hK2 (HDR.out _)) | (go_at_call 188; exact Calls.in_class hK2 (HDC.out _)))))
             refine wpQuiet_nil ?_
             intro w' hw'
             obtain ⟨s, rfl⟩ := hw'
             have hfs := hK1 s
             go_wp2
             go_ret
             exact ⟨ret_bool (not_rightEs HS.out).symm, HWK.out.then1 hfs⟩
            | false =>
             rw [hl] at hS
             have HS := Lib.hid hS; clear hS hge
             go_wp2_with fail
             refine wp_region_new K (by kernel_rfl) (by kernel_rfl) hK0 ?_
             repeat (go_big_quiet_step ((first | (go_at_call 167; exact Calls.in_class hK2 (HDR.out _)) | (go_at_call 188; exact Calls.in_class hK2 (HDC.out _)))))
             refine wpQuiet_nil ?_
             intro w' hw'
             obtain ⟨s, rfl⟩ := hw'
             have hfs := hK1 s
             go_wp2
             go_roundw
             case rel => exact ⟨j + 1 + 1, by omega, by go_num, HS.out, HWK.out.then1 hfs⟩
             case measure => simp [intOf]; omega
  · obtain rfl : n = k := by omega
    rw [List.take_of_length_le (by rw [HN.out]; exact Nat.le_refl _)] at HR
    go_wp2
    go_ret
    exact ⟨ret_bool HR.out.symm, HW.out⟩
theorem rightKs_step {ks : KidsL} {d : Nat} {es : List Ent} (he : rightEs none es = true) : rightT (d + 1) es ks = rightKs ks d none := by
 rw [rightT, Nat.add_sub_cancel, he]; simp
theorem tright_any (Q : Nat → Prop) : ∀ (N : Nat) (es : List Ent) (ks : KidsL) (d : Nat) (w : World) (ev kv : Value), sizeK ks < N → TreeAt Q w ev kv es ks → TrOk es ks → d ≤ 100 →
 Calls Tryz.prog 163 #[.agg #[ev, kv], .int .i64 d] w fun e w' => e = .returned (.bool (rightT d es ks)) ∧ Frm NoS w w' := by
 intro N
 induction N with
 | zero => intros; exfalso; omega
 | succ N IHN =>
  intro es ks d w ev kv hN ht hok hd
  obtain ⟨ae, ce, rfl⟩ := ht.ents.rd.sl
  obtain ⟨os, hkr, hfor⟩ := ht.kids
  obtain ⟨ak, ck, rfl⟩ := hkr.rd.sl
  have HT := Lib.hid ht; clear ht
  have HKR := Lib.hid hkr.rd; clear hkr
  have HFOR := Lib.hid hfor; clear hfor
  have IH := Lib.hid IHN; clear IHN
  have HWB := Lib.hid (Frm.alloc NoS w (.cells #[.slice ae es.length ce, .slice ak ks.len ck] 28))
  have box0 : (w.alloc (.cells #[.slice ae es.length ce, .slice ak ks.len ck] 28)).cell? ⟨w.heap.size, 0, none⟩ = some (.slice ae es.length ce) := cell_at' (heap_alloc_new w _) 0 rfl
  have box1 : (w.alloc (.cells #[.slice ae es.length ce, .slice ak ks.len ck] 28)).cell? ⟨w.heap.size, 1, none⟩ = some (.slice ak ks.len ck) := cell_at' (heap_alloc_new w _) 1 rfl
  have B0 := Lib.hid box0; clear box0
  have B1 := Lib.hid box1; clear box1
  have HEL := Lib.hid hok.es.len
  have HKL := Lib.hid hok.len
  have HOK := Lib.hid hok; clear hok
  have HSZ := Lib.hid hN; clear hN
  cases d with
  | zero =>
   go_enter Tryz.func163, Tryz.ntmps163
   go_wp2
   go_ret
   exact ⟨ret_bool (by simp [rightT]), HWB.out⟩
  | succ d =>
   generalize hes : es.length = n at *
   have HN := Lib.hid hes; clear hes
   generalize hkl : ks.len = m at *
   have HM := Lib.hid hkl; clear hkl
   have hd9 : (d : Int) ≤ 100 := by omega
   have hd1 : ¬ (((d + 1 : Nat) : Int) < 1) := by omega
   have HD := Lib.hid hd; clear hd
   cases hre : rightEs none es with
   | false =>
    have HENT := Lib.hid (fun W (h : Frm NoS (w.alloc (.cells #[.slice ae n ce, .slice ak m ck] 28)) W) => tentries_any W (.slice ae n ce) es (by have := (HT.out.keep0 HWB.out).ents.rd; rw [HN.out] at this ⊢; exact this.keep0 h) HOK.out.es)
    rw [hre] at HENT
    have b0 := B0.out
    go_enter Tryz.func163, Tryz.ntmps163
    go_wp2_with (go_at_call 197; refine (HENT.out _ (Frm.refl _ _)).mono ?_; rintro e w1 ⟨rfl, hw1⟩; have HW1 := Lib.hid hw1; clear hw1)
    go_ret
    exact ⟨ret_bool (by rw [rightT, hre]; simp), HWB.out.then1 HW1.out⟩
   | true =>
    have HENT := Lib.hid (fun W (h : Frm NoS (w.alloc (.cells #[.slice ae n ce, .slice ak m ck] 28)) W) => tentries_any W (.slice ae n ce) es (by have := (HT.out.keep0 HWB.out).ents.rd; rw [HN.out] at this ⊢; exact this.keep0 h) HOK.out.es)
    rw [hre] at HENT
    have HRE := Lib.hid hre; clear hre
    have b0 := B0.out
    go_enter Tryz.func163, Tryz.ntmps163
    go_wp2_with (go_at_call 197; refine (HENT.out _ (Frm.refl _ _)).mono ?_; rintro e w1 ⟨rfl, hw1⟩; have HW := Lib.hid hw1; clear hw1; have b1 := HW.out.cell' B1.out id)
    clear b0 b1
    go_loopw [18] (fun i ww => ∃ (k : Nat) (p : Option ByteArray), k ≤ m ∧ i = .int .i64 k ∧ PrevK ks k p ∧ rightKs ks d none = rightKs (ks.drop k) d p ∧ Frm NoS (w.alloc (.cells #[.slice ae n ce, .slice ak m ck] 28)) ww) (fun i _ => m - (intOf i).toNat)
    case atStart => exact ⟨0, none, Nat.zero_le _, rfl, .inl ⟨rfl, rfl⟩, rfl, HW.out⟩
    case round =>
     obtain ⟨k, p, hk, rfl, hp, hr, hw⟩ := hrel
     have HWK := Lib.hid hw; clear hw
     have HP := Lib.hid hp; clear hp
     have b1 := HWK.out.cell' B1.out id
     by_cases hlt : k < m
     · obtain ⟨key, es', sub, rest, hdr⟩ := KidsL.drop_some (n := k) (ks := ks) (by rw [HM.out]; exact hlt)
       have hmm : (m : Int) ≤ 9223372036854775807 := by have := HKL.out; omega
       rcases Rd.shape (HKR.out.keep0 (HWB.out.then1 HWK.out)) with ⟨ad, he, h0⟩ | ⟨b, off, cc, he, hmax⟩
       · exfalso; have := HM.out; omega
       · injection he with e1 e2 e3
         subst e1 e3
         clear e2 hmax
         obtain ⟨ev', kv', c0, c1, c2, hta⟩ := kid_at (HKR.out.keep0 (HWB.out.then1 HWK.out)) (HFOR.out.keep0 (HWB.out.then1 HWK.out)) hdr
         obtain ⟨ae', ce', rfl⟩ := hta.ents.rd.sl
         obtain ⟨os', hkr', hfor'⟩ := hta.kids
         obtain ⟨ak', ck', rfl⟩ := hkr'.rd.sl
         clear hkr' hfor'
         have hok' := HOK.out.ks.drop k
         rw [hdr] at hok'
         have hkz := hok'.1
         have hsub : TrOk es' sub := ⟨hok'.2.1, hok'.2.2.1, hok'.2.2.2.1⟩
         have l1 : ((es'.length : Nat) : Int) ≤ 140737488351232 := by have := hsub.es.len; omega
         have l2 : ((sub.len : Nat) : Int) ≤ 140737488351232 := by have := hsub.len; omega
         have HSUB := Lib.hid hsub; clear hsub hok'
         have HSS := Lib.hid (size_sub k hdr)
         rw [rightKs_drop hdr] at hr
         have HDR := Lib.hid hdr; clear hdr
         have hbf : Frm NoS wr (wr.alloc (.cells #[.string key, .slice ae' es'.length ce', .slice ak' sub.len ck'] 172)) := Frm.alloc _ _ _
         have n0 : (wr.alloc (.cells #[.string key, .slice ae' es'.length ce', .slice ak' sub.len ck'] 172)).cell? ⟨wr.heap.size, 0, none⟩ = some (.string key) := cell_at' (heap_alloc_new wr _) 0 rfl
         have n1 : (wr.alloc (.cells #[.string key, .slice ae' es'.length ce', .slice ak' sub.len ck'] 172)).cell? ⟨wr.heap.size, 1, none⟩ = some (.slice ae' es'.length ce') := cell_at' (heap_alloc_new wr _) 1 rfl
         have n2 : (wr.alloc (.cells #[.string key, .slice ae' es'.length ce', .slice ak' sub.len ck'] 172)).cell? ⟨wr.heap.size, 2, none⟩ = some (.slice ak' sub.len ck') := cell_at' (heap_alloc_new wr _) 2 rfl
         have HTA := Lib.hid (hta.keep0 hbf); clear hta
         have HWK0 := HWK; clear HWK
         have HWK := Lib.hid (HWK0.out.then1 hbf)
         have kk : ∀ j key0 es0 sub0 rest0, ks.drop j = .cons key0 es0 sub0 rest0 → wr.cell? ⟨b, off + j * 3, none⟩ = some (.string key0) := fun j key0 es0 sub0 rest0 h => by
          obtain ⟨_, _, h0, _⟩ := kid_at (HKR.out.keep0 (HWB.out.then1 HWK0.out)) (HFOR.out.keep0 (HWB.out.then1 HWK0.out)) h
          exact h0
         have KK := Lib.hid kk; clear kk
         have HIH := Lib.hid (fun w' (h : Frm NoS (wr.alloc (.cells #[.string key, .slice ae' es'.length ce', .slice ak' sub.len ck'] 172)) w') => IH.out es' sub d w' _ _ (by have := HSS.out; have := HSZ.out; omega) (HTA.out.keep0 h) HSUB.out (by have := HD.out; omega))
         have hem : ∀ W, Calls Tryz.prog 162 #[.agg #[.slice ae' es'.length ce', .slice ak' sub.len ck']] W fun e w' => e = .returned (.bool (isNil es' sub)) ∧ Frm NoS W w' := fun W => empty_any ae' ak' es'.length sub.len ce' ck' W
         have HEM := Lib.hid hem; clear hem
         generalize es'.length = n' at *
         generalize sub.len = m' at *
         obtain ⟨α, hne, K, hK3, hK0, hK2⟩ := worlds (wr.alloc (.cells #[.string key, .slice ae' n' ce', .slice ak' m' ck'] 172))
         have hK1 := hK3
         have kb1 := fun s => (hK1 s).cell' (hbf.cell' b1 id) id
         have kn0 := fun s => (hK1 s).cell' n0 id
         have kn1 := fun s => (hK1 s).cell' n1 id
         have kn2 := fun s => (hK1 s).cell' n2 id
         clear n0 n1 n2
         have hge := geq_str
         rcases HP.out with ⟨rfl, rfl⟩ | ⟨j, key0, es0, sub0, rest0, rfl, hdj, rfl⟩
         · simp only [Nat.zero_mul, Nat.add_zero] at c0 c1 c2
           cases g1 : keyB key with
           | false =>
            rw [g1] at hr
            simp only [Bool.false_and] at hr
            have hst : rightT (d + 1) es ks = false := by rw [rightT, Nat.add_sub_cancel, hr]; simp
            have HST := Lib.hid hst; clear hst hr
            go_wp2_with fail
            refine wp_region_new K (by kernel_rfl) (by kernel_rfl) hK0 ?_
            repeat (go_big_quiet_step ((first | (go_at_call 198; exact Calls.in_class hK2 (Calls.frm_of_same (tkey_any key _ hkz))) | (go_at_call 162; exact Calls.in_class hK2 (HEM.out _)) | (go_at_call 163; exact Calls.in_class hK2 (HIH.out _ (hK3 _))))))
            refine wpQuiet_nil ?_
            intro w' hw'
            obtain ⟨s, rfl⟩ := hw'
            have hfs := hK1 s
            go_wp2
            go_ret
            exact ⟨ret_bool HST.out.symm, HWB.out.then1 (HWK.out.then1 hfs)⟩
           | true =>
            cases g3 : isNil es' sub with
            | true =>
             rw [g1, g3] at hr
             rw [g3] at HEM
             simp only [Bool.not_true, Bool.and_false, Bool.false_and] at hr
             have hst : rightT (d + 1) es ks = false := by rw [rightT, Nat.add_sub_cancel, hr]; simp
             have HST := Lib.hid hst; clear hst hr
             go_wp2_with fail
             refine wp_region_new K (by kernel_rfl) (by kernel_rfl) hK0 ?_
             repeat (go_big_quiet_step ((first | (go_at_call 198; exact Calls.in_class hK2 (Calls.frm_of_same (tkey_any key _ hkz))) | (go_at_call 162; exact Calls.in_class hK2 (HEM.out _)) | (go_at_call 163; exact Calls.in_class hK2 (HIH.out _ (hK3 _))))))
             refine wpQuiet_nil ?_
             intro w' hw'
             obtain ⟨s, rfl⟩ := hw'
             have hfs := hK1 s
             go_wp2
             go_ret
             exact ⟨ret_bool HST.out.symm, HWB.out.then1 (HWK.out.then1 hfs)⟩
            | false =>
             rw [g3] at HEM
             cases g4 : rightT d es' sub with
             | false =>
              rw [g1, g3, g4] at hr
              rw [g4] at HIH
              simp only [Bool.and_false, Bool.false_and] at hr
              have hst : rightT (d + 1) es ks = false := by rw [rightT, Nat.add_sub_cancel, hr]; simp
              have HST := Lib.hid hst; clear hst hr
              go_wp2_with fail
              refine wp_region_new K (by kernel_rfl) (by kernel_rfl) hK0 ?_
              repeat (go_big_quiet_step ((first | (go_at_call 198; exact Calls.in_class hK2 (Calls.frm_of_same (tkey_any key _ hkz))) | (go_at_call 162; exact Calls.in_class hK2 (HEM.out _)) | (go_at_call 163; exact Calls.in_class hK2 (HIH.out _ (hK3 _))))))
              refine wpQuiet_nil ?_
              intro w' hw'
              obtain ⟨s, rfl⟩ := hw'
              have hfs := hK1 s
              go_wp2
              go_ret
              exact ⟨ret_bool HST.out.symm, HWB.out.then1 (HWK.out.then1 hfs)⟩
             | true =>
              rw [g1, g3, g4] at hr
              rw [g4] at HIH
              simp only [ltK, Bool.not_false, Bool.and_true, Bool.true_and] at hr
              have HST := Lib.hid hr; clear hr
              go_wp2_with fail
              refine wp_region_new K (by kernel_rfl) (by kernel_rfl) hK0 ?_
              repeat (go_big_quiet_step ((first | (go_at_call 198; exact Calls.in_class hK2 (Calls.frm_of_same (tkey_any key _ hkz))) | (go_at_call 162; exact Calls.in_class hK2 (HEM.out _)) | (go_at_call 163; exact Calls.in_class hK2 (HIH.out _ (hK3 _))))))
              refine wpQuiet_nil ?_
              intro w' hw'
              obtain ⟨s, rfl⟩ := hw'
              have hfs := hK1 s
              go_wp2
              go_roundw
              case rel => exact ⟨0 + 1, some key, by omega, by go_num, .inr ⟨0, key, es', sub, rest, rfl, HDR.out, rfl⟩, HST.out, HWK.out.then1 hfs⟩
              case measure => simp [intOf]; omega
         · have pk := KK.out j key0 es0 sub0 rest0 hdj
           clear hdj
           have kpk := (fun s => (hK1 s).cell' (hbf.cell' pk id) id)
           clear pk
           cases g1 : keyB key with
           | false =>
            rw [g1] at hr
            simp only [Bool.false_and] at hr
            have hst : rightT (d + 1) es ks = false := by rw [rightT, Nat.add_sub_cancel, hr]; simp
            have HST := Lib.hid hst; clear hst hr
            go_wp2_with fail
            refine wp_region_new K (by kernel_rfl) (by kernel_rfl) hK0 ?_
            repeat (go_big_quiet_step ((first | (go_at_call 198; exact Calls.in_class hK2 (Calls.frm_of_same (tkey_any key _ hkz))) | (go_at_call 162; exact Calls.in_class hK2 (HEM.out _)) | (go_at_call 163; exact Calls.in_class hK2 (HIH.out _ (hK3 _))))))
            refine wpQuiet_nil ?_
            intro w' hw'
            obtain ⟨s, rfl⟩ := hw'
            have hfs := hK1 s
            go_wp2
            go_ret
            exact ⟨ret_bool HST.out.symm, HWB.out.then1 (HWK.out.then1 hfs)⟩
           | true =>
            cases g2 : Op.bytesLess key0.toList key.toList with
            | false =>
             rw [show ltK (some key0) key = false from g2] at hr
             simp only [Bool.and_false, Bool.false_and] at hr
             have hst : rightT (d + 1) es ks = false := by rw [rightT, Nat.add_sub_cancel, hr]; simp
             have HST := Lib.hid hst; clear hst hr
             go_wp2_with fail
             refine wp_region_new K (by kernel_rfl) (by kernel_rfl) hK0 ?_
             repeat (go_big_quiet_step ((first | (go_at_call 198; exact Calls.in_class hK2 (Calls.frm_of_same (tkey_any key _ hkz))) | (go_at_call 162; exact Calls.in_class hK2 (HEM.out _)) | (go_at_call 163; exact Calls.in_class hK2 (HIH.out _ (hK3 _))))))
             refine wpQuiet_nil ?_
             intro w' hw'
             obtain ⟨s, rfl⟩ := hw'
             have hfs := hK1 s
             go_wp2
             go_ret
             exact ⟨ret_bool HST.out.symm, HWB.out.then1 (HWK.out.then1 hfs)⟩
            | true =>
             cases g3 : isNil es' sub with
             | true =>
              rw [g3] at hr
              rw [g3] at HEM
              simp only [Bool.not_true, Bool.and_false, Bool.false_and] at hr
              have hst : rightT (d + 1) es ks = false := by rw [rightT, Nat.add_sub_cancel, hr]; simp
              have HST := Lib.hid hst; clear hst hr
              go_wp2_with fail
              refine wp_region_new K (by kernel_rfl) (by kernel_rfl) hK0 ?_
              repeat (go_big_quiet_step ((first | (go_at_call 198; exact Calls.in_class hK2 (Calls.frm_of_same (tkey_any key _ hkz))) | (go_at_call 162; exact Calls.in_class hK2 (HEM.out _)) | (go_at_call 163; exact Calls.in_class hK2 (HIH.out _ (hK3 _))))))
              refine wpQuiet_nil ?_
              intro w' hw'
              obtain ⟨s, rfl⟩ := hw'
              have hfs := hK1 s
              go_wp2
              go_ret
              exact ⟨ret_bool HST.out.symm, HWB.out.then1 (HWK.out.then1 hfs)⟩
             | false =>
              rw [g3] at HEM
              cases g4 : rightT d es' sub with
              | false =>
               rw [g4] at hr
               rw [g4] at HIH
               simp only [Bool.and_false, Bool.false_and] at hr
               have hst : rightT (d + 1) es ks = false := by rw [rightT, Nat.add_sub_cancel, hr]; simp
               have HST := Lib.hid hst; clear hst hr
               go_wp2_with fail
               refine wp_region_new K (by kernel_rfl) (by kernel_rfl) hK0 ?_
               repeat (go_big_quiet_step ((first | (go_at_call 198; exact Calls.in_class hK2 (Calls.frm_of_same (tkey_any key _ hkz))) | (go_at_call 162; exact Calls.in_class hK2 (HEM.out _)) | (go_at_call 163; exact Calls.in_class hK2 (HIH.out _ (hK3 _))))))
               refine wpQuiet_nil ?_
               intro w' hw'
               obtain ⟨s, rfl⟩ := hw'
               have hfs := hK1 s
               go_wp2
               go_ret
               exact ⟨ret_bool HST.out.symm, HWB.out.then1 (HWK.out.then1 hfs)⟩
              | true =>
               rw [g1, g3, g4, show ltK (some key0) key = true from g2] at hr
               rw [g4] at HIH
               simp only [Bool.not_false, Bool.and_true, Bool.true_and] at hr
               have HST := Lib.hid hr; clear hr
               go_wp2_with fail
               refine wp_region_new K (by kernel_rfl) (by kernel_rfl) hK0 ?_
               repeat (go_big_quiet_step ((first | (go_at_call 198; exact Calls.in_class hK2 (Calls.frm_of_same (tkey_any key _ hkz))) | (go_at_call 162; exact Calls.in_class hK2 (HEM.out _)) | (go_at_call 163; exact Calls.in_class hK2 (HIH.out _ (hK3 _))))))
               refine wpQuiet_nil ?_
               intro w' hw'
               obtain ⟨s, rfl⟩ := hw'
               have hfs := hK1 s
               go_wp2
               go_roundw
               case rel => exact ⟨(j + 1) + 1, some key, by omega, by go_num, .inr ⟨(j + 1), key, es', sub, rest, rfl, HDR.out, rfl⟩, HST.out, HWK.out.then1 hfs⟩
               case measure => simp [intOf]; omega
     · obtain rfl : m = k := by omega
       rw [KidsL.drop_none (by rw [HM.out]; exact Nat.le_refl _)] at hr
       have HRR := Lib.hid hr; clear hr
       go_wp2
       go_ret
       exact ⟨ret_bool (by rw [rightKs_step HRE.out, HRR.out]; simp [rightKs]), HWB.out.then1 HWK.out⟩
structure KidQ where
 key : ByteArray
 es : List Ent
 sub : KidsL
 ev : Value
 kv : Value
instance : Inhabited KidQ := ⟨⟨ByteArray.empty, [], .nil, .slice none 0 0, .slice none 0 0⟩⟩
def KidQ.cells (q : KidQ) : List Value := [.string q.key, q.ev, q.kv]
def appK : List KidQ → KidsL → KidsL
 | [], r => r
 | q :: l, r => .cons q.key q.es q.sub (appK l r)
def mkK (l : List KidQ) : KidsL := appK l .nil
def outK (l : List KidQ) : List (Value × Value) := l.map fun q => (q.ev, q.kv)
theorem appK_snoc : ∀ (l : List KidQ) (q : KidQ) (r : KidsL), appK (l ++ [q]) r = appK l (.cons q.key q.es q.sub r)
 | [], _, _ => rfl
 | x :: l, q, r => by show KidsL.cons _ _ _ (appK (l ++ [q]) r) = _; rw [appK_snoc l q r]; rfl
theorem mkK_len : ∀ l : List KidQ, (mkK l).len = l.length
 | [] => rfl
 | q :: l => by show (mkK l).len + 1 = _; rw [mkK_len l]; rfl
theorem mkK_cells : ∀ l : List KidQ, kidC (mkK l) (outK l) = l.flatMap KidQ.cells
 | [] => rfl
 | q :: l => by show _ :: _ :: _ :: kidC (mkK l) (outK l) = _; rw [mkK_cells l]; rfl
theorem mkK_for {Q : Nat → Prop} {w : World} : ∀ {l : List KidQ}, (∀ q ∈ l, TreeAt Q w q.ev q.kv q.es q.sub) → ForAt Q w (mkK l) (outK l)
 | [], _ => rfl
 | q :: l, h => by
  obtain ⟨h1, os, h2, h3⟩ := h q List.mem_cons_self
  exact ⟨q.ev, q.kv, outK l, os, rfl, h1, h2, h3, mkK_for fun x hx => h x (List.mem_cons_of_mem _ hx)⟩
theorem mkK_ok : ∀ {l : List KidQ}, (∀ q ∈ l, q.key.size ≤ 9223372036854775807 ∧ TrOk q.es q.sub) → (mkK l).Ok
 | [], _ => trivial
 | q :: l, h => by
  obtain ⟨h1, h2⟩ := h q List.mem_cons_self
  exact ⟨h1, h2.es, h2.len, h2.ks, mkK_ok fun x hx => h x (List.mem_cons_of_mem _ hx)⟩
theorem RdQ.turn {Q Q' : Nat → Prop} {w w' : World} {v : Value} {n : Nat} {xs : List Value} (h : RdQ Q w v n xs) (f : ∀ b, b < w.heap.size → Q b → w'.heap[b]? = w.heap[b]? ∧ Q' b) : RdQ Q' w' v n xs := by
 rcases h.rd with ⟨ad, h1, h2, h3⟩ | ⟨b, off, c, rfl, h1, h2, h3⟩
 · exact ⟨.inl ⟨ad, h1, h2, h3⟩, fun hx => absurd h3 hx⟩
 · have key_ : ∀ j u, xs[j]? = some u → w'.cell? ⟨b, off + j, none⟩ = some u ∧ Q' b := fun j u hu => by
    have hc := h3 j u hu
    have hlt : b < w.heap.size := World.block_lt_of_cell? _ _ hc
    obtain ⟨g1, g2⟩ := f b hlt (h.q (fun e => by rw [e] at hu; simp at hu) b rfl)
    exact ⟨(World.cell?_of_block (w := w) g1).trans hc, g2⟩
   refine ⟨.inr ⟨b, off, c, rfl, h1, h2, fun j u hu => (key_ j u hu).1⟩, fun hx k hk => ?_⟩
   simp [Value.ownBlock] at hk
   subst hk
   cases xs with
   | nil => exact absurd rfl hx
   | cons x xs => exact (key_ 0 x rfl).2
theorem ForAt.turn {Q Q' : Nat → Prop} {w w' : World} (f : ∀ b, b < w.heap.size → Q b → w'.heap[b]? = w.heap[b]? ∧ Q' b) : ∀ {ks : KidsL} {os : List (Value × Value)}, ForAt Q w ks os → ForAt Q' w' ks os
 | .nil, _, h => h
 | .cons _ _ _ _, _, ⟨ev, kv, outs', os, h1, h2, h3, h4, h5⟩ => ⟨ev, kv, outs', os, h1, h2.turn f, h3.turn f, h4.turn f, h5.turn f⟩
theorem TreeAt.turn {Q Q' : Nat → Prop} {w w' : World} {ev kv : Value} {es : List Ent} {ks : KidsL} (h : TreeAt Q w ev kv es ks) (f : ∀ b, b < w.heap.size → Q b → w'.heap[b]? = w.heap[b]? ∧ Q' b) : TreeAt Q' w' ev kv es ks :=
 ⟨h.ents.turn f, let ⟨os, h1, h2⟩ := h.kids; ⟨os, h1.turn f, h2.turn f⟩⟩
theorem OwnAt.rdq {w0 w : World} {e : TypeId} {size : Nat} {v : Value} {n : Nat} {xs : List Value} (h : OwnAt w0 w e size v n xs) : RdQ (fun k => w0.heap.size ≤ k) w v n xs := ⟨h.rd, fun _ k hk => h.new k hk⟩
theorem info_entry : (Tryz.prog.info? 170).map (fun i => (i.zero, i.size, i.bytes)) = some (some (.agg #[.int .i64 0, .int .i64 0, .string ByteArray.empty, .int .i64 0]), 4, 40) := by kernel_rfl
theorem OwnAt.empty {w0 w : World} (f : Frm NoS w0 w) (e : TypeId) (size : Nat) : OwnAt w0 (w.alloc (.cells #[] e)) e size (.slice (some ⟨w.heap.size, 0, none⟩) 0 0) 0 [] :=
 ⟨⟨by simp, .inr ⟨w.heap.size, 0, #[], rfl, Nat.zero_le _, heap_alloc_new w _, Nat.le_refl _, Nat.zero_le _, by simp, by simp⟩⟩, fun k hk => by
  simp [Value.ownBlock] at hk
  have := f.size
  omega, f.trans (Frm.alloc _ _ _) fun _ _ h => h⟩
theorem enClone_any (w : World) (v : Value) (es : List Ent) (hv : Rd w v es.length (entC es)) (hl : es.length ≤ 100000) :
 Calls Tryz.prog 201 #[v] w fun e w' => ∃ v', e = .returned v' ∧ OwnAt w w' 170 4 v' es.length (entC es) := by
 obtain ⟨i0, hi, hz0, hz1, hz2⟩ := info_parts info_entry
 obtain ⟨aA, cA, rfl⟩ := hv.sl
 have HH := Lib.hid hv; clear hv
 generalize hn : es.length = n at *
 have HN := Lib.hid hn; clear hn
 by_cases hnil : aA = none
 · subst hnil
   rcases HH.out with ⟨ad, he, h0, hx⟩ | ⟨b, off, cc, he, _⟩
   · injection he with e1 e2 e3
     subst e1 e2 e3
     have hx0 : entC es = [] := hx
     rw [hx0]
     have hq := Lib.run_eql_slice_nil (P := Tryz.prog) w 25 170 none 0 0 0 0 Tryz.underlying25
     go_enter Tryz.func201, Tryz.ntmps201
     go_wp2
     go_ret
     exact ⟨_, rfl, OwnAt.nil (Frm.refl _ _) _ _⟩
   · injection he with e1 e2 e3
     cases e1
 · obtain ⟨ad, rfl⟩ := Option.ne_none_iff_exists'.1 hnil
   clear hnil
   have hq := Lib.run_eql_slice_nil (P := Tryz.prog) w 25 170 (some ad) n cA 0 0 Tryz.underlying25
   go_enter Tryz.func201, Tryz.ntmps201
   go_wp2_with (at_builtin; refine wpList_appR w _ _ rfl (.tmp 5) (.tmp 6) 25 25 rfl 170 170 i0 _ 4 40 Tryz.underlying25 Tryz.underlying25 hi hz0 hz1 hz2 (by decide) (by decide) _ _ _ (OwnAt.empty (Frm.refl _ _) 170 4) _ n rfl rfl (HH.out.keep0 (Frm.alloc _ _ _)) (by rw [entC_length, HN.out]) (entC_oneCell _) (by simp only [maxLen]; omega) (by omega) ?_; intro ad cc w5 own5; have OW := Lib.hid own5; clear own5)
   go_ret
   exact ⟨_, rfl, by have := OW.out; simpa using this⟩
theorem spClone_any (w : World) (v : Value) (c : CtxL) (hv : CtxAt w v c) (hl : c.length ≤ 100000) :
 Calls Tryz.prog 138 #[v] w fun e w' => ∃ v', e = .returned v' ∧ OwnAt w w' 122 3 v' c.length (spC c) := by
 obtain ⟨i0, hi, hz0, hz1, hz2⟩ := info_parts info_span
 obtain ⟨aA, cA, rfl⟩ := hv.sl
 have HH := Lib.hid hv; clear hv
 generalize hn : c.length = n at *
 have HN := Lib.hid hn; clear hn
 by_cases hnil : aA = none
 · subst hnil
   rcases HH.out with ⟨ad, he, h0, hx⟩ | ⟨b, off, cc, he, _⟩
   · injection he with e1 e2 e3
     subst e1 e3
     have hx0 : spC c = [] := hx
     have hn0 : n = 0 := by rw [← HN.out]; exact h0
     subst hn0
     rw [hx0]
     have hq := Lib.run_eql_slice_nil (P := Tryz.prog) w 30 122 none 0 0 0 0 Tryz.underlying30
     go_enter Tryz.func138, Tryz.ntmps138
     go_wp2
     go_ret
     exact ⟨_, rfl, OwnAt.nil (Frm.refl _ _) _ _⟩
   · injection he with e1 e2 e3
     cases e1
 · obtain ⟨ad, rfl⟩ := Option.ne_none_iff_exists'.1 hnil
   clear hnil
   have hq := Lib.run_eql_slice_nil (P := Tryz.prog) w 30 122 (some ad) n cA 0 0 Tryz.underlying30
   go_enter Tryz.func138, Tryz.ntmps138
   go_wp2_with (at_builtin; refine wpList_appR w _ _ rfl (.tmp 5) (.tmp 6) 30 30 rfl 122 122 i0 _ 3 24 Tryz.underlying30 Tryz.underlying30 hi hz0 hz1 hz2 (by decide) (by decide) _ _ _ (OwnAt.empty (Frm.refl _ _) 122 3) _ n rfl rfl (HN.out ▸ HH.out.keep0 (Frm.alloc _ _ _)) (by rw [spC_length, HN.out]) (spC_oneCell _) (by simp only [maxLen]; omega) (by omega) ?_; intro ad cc w5 own5; have OW := Lib.hid own5; clear own5)
   go_ret
   exact ⟨_, rfl, by have := OW.out; simpa using this⟩
theorem info_kid : (Tryz.prog.info? 172).map (fun i => (i.zero, i.size, i.bytes)) = some (some (.agg #[.string ByteArray.empty, .slice none 0 0, .slice none 0 0]), 3, 64) := by kernel_rfl
def ClnQ (w : World) (h2 h3 : Nat) (v : Value) (b : Nat) : Prop := w.heap.size ≤ b ∧ b ≠ h2 ∧ b ≠ h3 ∧ v.ownBlock ≠ some b
structure ClnAt (w ww : World) (h2 h3 : Nat) (n : Nat) (ev kv : Value) (es : List Ent) (ks : KidsL) (k : Nat) (l : List KidQ) : Prop where
 frm : Frm NoS w ww
 b2 : ww.heap[h2]? = some (.cells #[.slice none 0 0, .slice none 0 0] 28 (0, 0))
 b3 : ww.heap[h3]? = some (.cells #[ev, kv] 28 (0, 0))
 new2 : w.heap.size ≤ h2
 new3 : w.heap.size ≤ h3
 ne : h2 ≠ h3
 own : OwnBut (fun b => b = h2 ∨ b = h3) w ww 172 3 kv k (l.flatMap KidQ.cells)
 ents : RdQ (ClnQ w h2 h3 kv) ww ev n (entC es)
 kids : ∀ q ∈ l, TreeAt (ClnQ w h2 h3 kv) ww q.ev q.kv q.es q.sub
 len : l.length = k
 all : ks = appK l (ks.drop k)
theorem ClnAt.keep {w ww w' : World} {h2 h3 n : Nat} {ev kv : Value} {es : List Ent} {ks : KidsL} {k : Nat} {l : List KidQ} (h : ClnAt w ww h2 h3 n ev kv es ks k l) (f : Frm NoS ww w') : ClnAt w w' h2 h3 n ev kv es ks k l :=
 ⟨h.frm.then1 f, f.blk h.b2 id, f.blk h.b3 id, h.new2, h.new3, h.ne, h.own.keep f, h.ents.keep f (fun _ _ s => s.elim), fun q hq => (h.kids q hq).keep0 f, h.len, h.all⟩
theorem ClnAt.step {w w1 w' : World} {h2 h3 n : Nat} {ev kv kv' : Value} {es : List Ent} {ks : KidsL} {k : Nat} {l : List KidQ} (h : ClnAt w w1 h2 h3 n ev kv es ks k l) {q : KidQ} {rest : KidsL} (hd : ks.drop k = .cons q.key q.es q.sub rest)
 (hq : TreeAt (ClnQ w h2 h3 kv) w1 q.ev q.kv q.es q.sub)
 (own : w'.ownsRow 0 172 3 kv' (k + 1) (l.flatMap KidQ.cells ++ q.cells)) (fm : Frm (RowS kv) w1 w') (fr : Fresh w1 kv kv') :
 ClnAt w (w'.setCell ⟨h3, 1, none⟩ kv') h2 h3 n ev kv' es ks (k + 1) (l ++ [q]) := by
 have hb3 : ¬ RowS kv h3 := fun hs => h.own.but h3 hs (.inr rfl)
 have hb2 : ¬ RowS kv h2 := fun hs => h.own.but h2 hs (.inl rfl)
 have hset : Frm (fun b => b = h3) w' (w'.setCell ⟨h3, 1, none⟩ kv') := Frm.setCell (S := fun b => b = h3) w' (p := ⟨h3, 1, none⟩) (.inl rfl) _
 have l2 := lt_of_block h.b2
 have l3 := lt_of_block h.b3
 have hne' : ∀ b, kv'.ownBlock = some b → b ≠ h2 ∧ b ≠ h3 := fun b hb => by
  rcases fr b hb with h1 | h1
  · exact ⟨fun e => h.own.but b h1 (.inl e), fun e => h.own.but b h1 (.inr e)⟩
  · exact ⟨fun e => by omega, fun e => by omega⟩
 have turn : ∀ b, b < w1.heap.size → ClnQ w h2 h3 kv b → (w'.setCell ⟨h3, 1, none⟩ kv').heap[b]? = w1.heap[b]? ∧ ClnQ w h2 h3 kv' b := fun b hb hQ => by
  refine ⟨?_, hQ.1, hQ.2.1, hQ.2.2.1, fun e => ?_⟩
  · rw [hset.block b (Nat.lt_of_lt_of_le hb fm.size) hQ.2.2.1, fm.block b hb hQ.2.2.2]
  · rcases fr b e with h1 | h1
    · exact hQ.2.2.2 h1
    · omega
 have hown : OwnBut (fun b => b = h2 ∨ b = h3) w w' 172 3 kv' (k + 1) (l.flatMap KidQ.cells ++ q.cells) :=
  ⟨h.own.at_.step own fm fr, fun b hb hn => by
   have := hne' b hb
   rcases hn with hn | hn
   · exact this.1 hn
   · exact this.2 hn⟩
 refine ⟨hown.at_.frm.set1 (.inr h.new3), ?_, ?_, h.new2, h.new3, h.ne, ?_, h.ents.turn turn, fun x hx => ?_, by rw [List.length_append, h.len]; rfl, ?_⟩
 · exact hset.blk (fm.blk h.b2 hb2) h.ne
 · exact set_at' (fm.blk h.b3 hb3) 1 kv'
 · rw [List.flatMap_append]
   simp only [List.flatMap_cons, List.flatMap_nil, List.append_nil]
   exact hown.set (.inr rfl) h.new3 _
 · rcases List.mem_append.1 hx with hx | hx
   · exact (h.kids x hx).turn turn
   · simp only [List.mem_singleton] at hx; subst hx; exact hq.turn turn
 · rw [appK_snoc, KidsL.drop_succ k ks hd, ← hd]
   exact h.all
theorem ClnAt.done {w ww : World} {h2 h3 n : Nat} {ev kv : Value} {es : List Ent} {ks : KidsL} {k : Nat} {l : List KidQ} (h : ClnAt w ww h2 h3 n ev kv es ks k l) (hn : n = es.length) (hk : ks.len ≤ k) :
 TreeAt (fun b => w.heap.size ≤ b) ((ww.setCell ⟨h2, 0, none⟩ ev).setCell ⟨h2, 1, none⟩ kv) ev kv es ks ∧ Frm NoS w ((ww.setCell ⟨h2, 0, none⟩ ev).setCell ⟨h2, 1, none⟩ kv) ∧
  ((ww.setCell ⟨h2, 0, none⟩ ev).setCell ⟨h2, 1, none⟩ kv).heap[h2]? = some (.cells #[ev, kv] 28 (0, 0)) := by
 have hks : ks = mkK l := by
  have := h.all
  rw [KidsL.drop_none hk] at this
  exact this
 have fset : Frm (fun b => b = h2) ww ((ww.setCell ⟨h2, 0, none⟩ ev).setCell ⟨h2, 1, none⟩ kv) :=
  (Frm.setCell (S := fun b => b = h2) ww (p := ⟨h2, 0, none⟩) (.inl rfl) ev).trans (Frm.setCell (S := fun b => b = h2) _ (p := ⟨h2, 1, none⟩) (.inl rfl) kv) fun _ _ h => h
 have turn : ∀ b, b < ww.heap.size → ClnQ w h2 h3 kv b → ((ww.setCell ⟨h2, 0, none⟩ ev).setCell ⟨h2, 1, none⟩ kv).heap[b]? = ww.heap[b]? ∧ w.heap.size ≤ b := fun b hb hQ => ⟨fset.block b hb hQ.2.1, hQ.1⟩
 refine ⟨⟨hn ▸ h.ents.turn turn, outK l, ?_, ?_⟩, (h.frm.set1 (p := ⟨h2, 0, none⟩) (.inr h.new2)).set1 (p := ⟨h2, 1, none⟩) (.inr h.new2), set_at' (set_at' h.b2 0 ev) 1 kv⟩
 · rw [hks, mkK_len, mkK_cells, h.len]
   have ho := fset.owns h.own.at_.own fun b hb he => h.own.but b hb (.inl he)
   exact ⟨Rd.own ho, fun _ b hb => h.own.at_.new b hb⟩
 · rw [hks]
   exact mkK_for fun q hq => (h.kids q hq).turn turn
end Go.Proofs.YtcahemkomfaabaaGreat
