/- Words for the law PackLong: TAll. -/
import Derived.Test.YtafdclkpeomomaaPackLongG5
import Derived.Test.YtafdclkpeomomaaPackLongG7
import Derived.Test.YtafdclkpeomomaaPackLongG9
set_option linter.unusedSimpArgs false
set_option linter.unusedVariables false
/- tree: all: the walk. -/
namespace Go.Proofs.Ytafdclkpeomomaa
open Go.RowKit

theorem info_dot : (Try.prog.info? 35).map (fun i => (i.zero, i.size, i.bytes)) = some (some (.agg #[.int .i64 0, .int .i64 0]), 2, 16) := by kernel_rfl
theorem dotsE_take_succ {l : List Ent} {k : Nat} (hk : k < l.length) : dotsE (l.take (k + 1)) = dotsE (l.take k) ++ [((l.getD k Ent.zero).dc, (l.getD k Ent.zero).n)] := by
  rw [take_succ Ent.zero hk]; simp [dotsE]
theorem dotsK_drop {ks : KidsL} {n : Nat} {key : ByteArray} {es : List Ent} {sub rest : KidsL} (h : ks.drop n = .cons key es sub rest) : dotsK (ks.drop n) = dotsT es sub ++ dotsK (ks.drop (n + 1)) := by
  rw [h, KidsL.drop_succ n ks h]; rfl
theorem sizeT_sub : ∀ (n : Nat) {ks : KidsL} {key : ByteArray} {es : List Ent} {sub rest : KidsL}, ks.drop n = .cons key es sub rest → sizeT es sub ≤ sizeK ks
  | 0, .cons _ _ _ _, _, _, _, _, h => by
    cases h
    simp only [sizeK, sizeT]
    omega
  | 0, .nil, _, _, _, _, h => by cases h
  | n + 1, .nil, _, _, _, _, h => by cases h
  | n + 1, .cons _ _ _ r, _, _, _, _, h => by
    have h1 : r.drop n = _ := h
    have := sizeT_sub n h1
    simp only [sizeK]
    omega
theorem len_le_sizeK : ∀ ks : KidsL, ks.len ≤ sizeK ks
  | .nil => Nat.le_refl _
  | .cons _ _ _ r => by have := len_le_sizeK r; simp only [KidsL.len, sizeK]; omega
set_option maxHeartbeats 4000000 in
set_option maxRecDepth 1000000 in
theorem tall_any (Q : Nat → Prop) : ∀ (N : Nat) (es : List Ent) (ks : KidsL) (w : World) (ev kv : Value), sizeK ks < N → TreeAt Q w ev kv es ks → sizeT es ks ≤ 100000 →
    Calls Try.prog 31 #[.agg #[ev, kv]] w fun e w' => ∃ v', e = .returned v' ∧ OwnAt w w' 35 2 v' (dotsT es ks).length (ruC (dotsT es ks)) := by
  intro N
  induction N with
  | zero => intros; exfalso; omega
  | succ N IHN =>
    intro es ks w ev kv hN ht hsz
    obtain ⟨i0, hi, hz0, hz1, hz2⟩ := info_parts info_dot
    obtain ⟨ae, ce, rfl⟩ := ht.ents.rd.sl
    obtain ⟨os, hkr, hfor⟩ := ht.kids
    obtain ⟨ak, ck, rfl⟩ := hkr.rd.sl
    have HE := Lib.hid ht.ents.rd
    have HKR := Lib.hid hkr.rd; clear hkr ht
    have HFOR := Lib.hid hfor; clear hfor
    have IH := Lib.hid IHN; clear IHN
    have HWB := Lib.hid (Frm.alloc NoS w (.cells #[.slice ae es.length ce, .slice ak ks.len ck] 27))
    have box0 : (w.alloc (.cells #[.slice ae es.length ce, .slice ak ks.len ck] 27)).cell? ⟨w.heap.size, 0, none⟩ = some (.slice ae es.length ce) := cell_at' (heap_alloc_new w _) 0 rfl
    have box1 : (w.alloc (.cells #[.slice ae es.length ce, .slice ak ks.len ck] 27)).cell? ⟨w.heap.size, 1, none⟩ = some (.slice ak ks.len ck) := cell_at' (heap_alloc_new w _) 1 rfl
    have B0 := Lib.hid box0; clear box0
    have B1 := Lib.hid box1; clear box1
    have HDL := Lib.hid (Nat.le_trans (dotsT_length_le es ks) hsz)
    have hn5 : es.length ≤ 100000 := by unfold sizeT at hsz; omega
    have hm5 : ks.len ≤ 100000 := by have := len_le_sizeK ks; unfold sizeT at hsz; omega
    have HSZ := Lib.hid hsz; clear hsz
    have HNN := Lib.hid hN; clear hN
    generalize hes : es.length = n at *
    have HN := Lib.hid hes; clear hes
    generalize hkl : ks.len = m at *
    have HM := Lib.hid hkl; clear hkl
    go_enter Try.func31, Try.ntmps31
    go_wp2_with fail
    have b0 := B0.out
    go_wp2
    clear b0
    go_loopw [3, 11] (fun v i ww => ∃ k : Nat, k ≤ n ∧ i = .int .i64 k ∧ OwnAt (w.alloc (.cells #[.slice ae n ce, .slice ak m ck] 27)) ww 35 2 v k (ruC (dotsE (es.take k)))) (fun _ i _ => n - (intOf i).toNat)
    case atStart => exact ⟨0, Nat.zero_le _, rfl, OwnAt.nil (Frm.refl _ _) _ _⟩
    case round =>
      obtain ⟨k, hk, rfl, ho⟩ := hrel
      obtain ⟨av, cv, rfl⟩ := ho.shape
      have HO := Lib.hid ho; clear ho
      by_cases hlt : k < n
      · rcases Rd.shape HE.out with ⟨ad, he, h0⟩ | ⟨b, off, cc, he, hmax⟩
        · exfalso; have := HN.out; omega
        · injection he with e1 e2 e3
          subst e1 e3
          clear e2
          have hlk : k < es.length := by rw [HN.out]; exact hlt
          obtain ⟨p0, p1, p2, p3⟩ := ent_at HE.out k hlk
          have f2 := HWB.out.then1 HO.out.frm
          have q0 := f2.cell' p0 id
          have q1 := f2.cell' p1 id
          have q2 := f2.cell' p2 id
          have q3 := f2.cell' p3 id
          clear p0 p1 p2 p3 f2
          have hE := dotsE_take_succ hlk
          generalize es.getD k Ent.zero = e at *
          have HEE := Lib.hid hE; clear hE
          go_wp2_with (at_builtin; go_loud (refine wpList_appO _ _ [.int .i64 e.dc, .int .i64 e.n] rfl (.tmp 15) (.tmp 18) 75 rfl 35 i0 _ 2 16 Try.underlying75 hi hz0 hz1 hz2 (by decide) (by decide) _ _ _ (HO.out.keep (Frm.alloc _ _ _)) 1 1 rfl (by simp [Act.eval]) rfl (by simp [Value.oneCell']) (by simp only [maxLen]; omega) (by omega) ?_); intro ad2 cc2 w2 own2; have OW := Lib.hid own2; clear own2)
          go_roundw
          case rel => exact ⟨k + 1, by omega, by go_num, by rw [HEE.out, ruC_append]; exact OW.out⟩
          case measure => simp [intOf]; omega
      · obtain rfl : n = k := by omega
        rw [List.take_of_length_le (by rw [HN.out]; exact Nat.le_refl _)] at HO
        have b1 := HO.out.frm.cell' B1.out id
        go_wp2
        clear b1
        go_loopw [3, 24] (fun v i ww => ∃ (k : Nat) (out : RunL), k ≤ m ∧ i = .int .i64 k ∧ OwnAt (w.alloc (.cells #[.slice ae n ce, .slice ak m ck] 27)) ww 35 2 v out.length (ruC out) ∧ dotsT es ks = out ++ dotsK (ks.drop k)) (fun _ i _ => m - (intOf i).toNat)
        case atStart => exact ⟨0, dotsE es, Nat.zero_le _, rfl, by rw [dotsE_length, HN.out]; exact HO.out, rfl⟩
        case round =>
          obtain ⟨k, out, hk, rfl, ho, hd⟩ := hrel
          obtain ⟨av, cv, rfl⟩ := ho.shape
          have HOK := Lib.hid ho; clear ho
          have HD := Lib.hid hd; clear hd
          by_cases hlt : k < m
          · obtain ⟨key, es', sub, rest, hdr⟩ := KidsL.drop_some (n := k) (ks := ks) (by rw [HM.out]; exact hlt)
            rcases Rd.shape HKR.out with ⟨ad, he, h0⟩ | ⟨b, off, cc, he, hmax⟩
            · exfalso; have := HM.out; omega
            · injection he with e1 e2 e3
              subst e1 e3
              clear e2
              have f2 := HWB.out.then1 HOK.out.frm
              obtain ⟨ev', kv', c0, c1, c2, hta⟩ := kid_at (HKR.out.keep0 f2) (HFOR.out.keep0 f2) hdr
              obtain ⟨ae', ce', rfl⟩ := hta.ents.rd.sl
              obtain ⟨os', hkr', hfor'⟩ := hta.kids
              obtain ⟨ak', ck', rfl⟩ := hkr'.rd.sl
              clear hkr' hfor' f2
              have HDS := Lib.hid (dotsK_drop hdr)
              have HSS := Lib.hid (size_sub k hdr)
              have HST := Lib.hid (sizeT_sub k hdr)
              have HTA := Lib.hid hta; clear hta
              have HIH := Lib.hid (fun w' (h : Frm NoS wr w') => IH.out es' sub w' _ _ (by have := HSS.out; have := HNN.out; omega) (HTA.out.keep0 h) (by have := HST.out; have := HSZ.out; unfold sizeT at *; omega))
              have hlen : out.length + (dotsT es' sub).length ≤ 100000 := by
                have h1 := HDL.out
                rw [HD.out, HDS.out, List.length_append, List.length_append] at h1
                omega
              have HLEN := Lib.hid hlen; clear hlen
              clear hdr
              generalize es'.length = n' at *
              generalize sub.len = m' at *
              go_wp2_with (first
                | (go_at_call 31; refine (HIH.out _ (Frm.alloc _ _ _)).mono ?_; rintro e w3 ⟨v3, rfl, ho3⟩; obtain ⟨a3, c3, rfl⟩ := ho3.shape; have HO3 := Lib.hid ho3; clear ho3; have HKK := Lib.hid (HOK.out.keep ((Frm.alloc NoS _ _).then1 HO3.out.frm)))
                | (at_builtin; go_loud (refine wpList_appR _ _ _ rfl (.tmp 28) (.tmp 31) 75 75 rfl 35 35 i0 _ 2 16 Try.underlying75 Try.underlying75 hi hz0 hz1 hz2 (by decide) (by decide) _ _ _ HKK.out _ (dotsT es' sub).length rfl rfl HO3.out.rd (by rw [ruC_length]) (ruC_oneCell _) (by have := HLEN.out; simp only [maxLen]; omega) (by have := HLEN.out; omega) ?_); intro ad cc w5 own5; have OW := Lib.hid own5; clear own5))
              go_roundw
              case rel => exact ⟨k + 1, out ++ dotsT es' sub, by omega, by go_num, by rw [List.length_append, ruC_append]; exact OW.out, by rw [HD.out, HDS.out, List.append_assoc]⟩
              case measure => simp [intOf]; omega
          · obtain rfl : m = k := by omega
            have hd := HD.out
            rw [KidsL.drop_none (by rw [HM.out]; exact Nat.le_refl _)] at hd
            have hd2 : dotsT es ks = out := by rw [hd]; simp [dotsK]
            have HD2 := Lib.hid hd2; clear hd2 hd
            go_wp2
            go_ret
            refine ⟨_, rfl, ?_⟩
            rw [HD2.out]
            exact HOK.out.base HWB.out
end Go.Proofs.Ytafdclkpeomomaa
