/- Words for the law BundleSame: CloneF3, CloneF4, BClone, R8Clone, R9Clone, Scrib, Scrib2. -/
import Derived.Test.YtclfajhdonabhaaGreatBundleSameG1
import Derived.Test.YtclfajhdonabhaaGreatBundleReadyG13
import Derived.Test.YtclfajhdonabhaaGreatBundleReadyG17
import Derived.Test.YtclfajhdonabhaaGreatBundleReadyG10
import Derived.Test.YtclfajhdonabhaaGreatBundleReadyG6
set_option linter.unusedSimpArgs false
set_option linter.unusedVariables false
/- tree: clone: the walk, once more. Printed by wip/cloneFgen.py. -/
namespace Go.Proofs.YtclfajhdonabhaaGreat
open Go.RowKit

def ClonePostF (w : World) (es : List Ent) (ks : KidsL) (e : Ending) (w' : World) : Prop :=
  ∃ ev' kv', e = .returned (.agg #[ev', kv']) ∧ TreeAt (fun b => w.heap.size ≤ b ∧ Free w' b) w' ev' kv' es ks ∧ Frm NoS w w'
set_option maxHeartbeats 4000000 in
set_option maxRecDepth 1000000 in
theorem tcloneF_any (Q : Nat → Prop) : ∀ (N : Nat) (es : List Ent) (ks : KidsL) (w : World) (ev kv : Value), sizeK ks < N → TreeAt Q w ev kv es ks → sizeT es ks ≤ 100000 →
    Calls Tryz.prog 89 #[.agg #[ev, kv]] w (ClonePostF w es ks) := by
  intro N
  induction N with
  | zero => intros; exfalso; omega
  | succ N IHN =>
    intro es ks w ev kv hN ht hsz
    obtain ⟨i0, hi, hz0, hz1, hz2⟩ := info_parts info_kid
    obtain ⟨ae, ce, rfl⟩ := ht.ents.rd.sl
    obtain ⟨os, hkr, hfor⟩ := ht.kids
    obtain ⟨ak, ck, rfl⟩ := hkr.rd.sl
    have HE := Lib.hid ht.ents.rd
    have HKR := Lib.hid hkr.rd; clear hkr ht
    have HFOR := Lib.hid hfor; clear hfor
    have IH := Lib.hid IHN; clear IHN
    have hn5 : es.length ≤ 100000 := by unfold sizeT at hsz; omega
    have hm5 : ks.len ≤ 100000 := by have := len_le_sizeK ks; unfold sizeT at hsz; omega
    have HEN := Lib.hid (fun W (h : Frm NoS w W) => enClone_any W (.slice ae es.length ce) es (HE.out.keep0 h) hn5)
    have HSZ := Lib.hid hsz; clear hsz
    have HNN := Lib.hid hN; clear hN
    generalize hes : es.length = n at *
    have HN := Lib.hid hes; clear hes
    generalize hkl : ks.len = m at *
    have HM := Lib.hid hkl; clear hkl
    obtain ⟨WB, hWB⟩ : ∃ WB, WB = (w.alloc (.cells #[.slice ae n ce, .slice ak m ck] 27)).alloc (.cells #[.slice none 0 0, .slice none 0 0] 27) := ⟨_, rfl⟩
    have hfb : Frm NoS w WB := by rw [hWB]; exact (Frm.alloc _ _ _).alloc1
    have hb0 : WB.heap[w.heap.size]? = some (.cells #[.slice ae n ce, .slice ak m ck] 27 (0, 0)) := by rw [hWB, Below.heap_alloc _ _ _ (by simp)]; exact heap_alloc_new w _
    have hb2 : WB.heap[w.heap.size + 1]? = some (.cells #[.slice none 0 0, .slice none 0 0] 27 (0, 0)) := by
      rw [hWB]
      have := heap_alloc_new (w.alloc (.cells #[.slice ae n ce, .slice ak m ck] 27)) (.cells #[.slice none 0 0, .slice none 0 0] 27)
      simpa using this
    have hbs : WB.heap.size = w.heap.size + 1 + 1 := by rw [hWB]; simp
    have HFB := Lib.hid hfb; clear hfb
    have HB0 := Lib.hid hb0; clear hb0
    have HB2 := Lib.hid hb2; clear hb2
    have HBS := Lib.hid hbs; clear hbs
    have hcall : ∀ W, W = WB → Calls Tryz.prog 105 #[.slice ae n ce] W fun e w' => ∃ v', e = .returned v' ∧ OwnAt WB w' 74 4 v' n (entC es) := fun W hW => by rw [hW]; exact HEN.out WB HFB.out
    have HCALL := Lib.hid hcall; clear hcall
    have HWB := Lib.hid hWB.symm; clear hWB
    go_enter Tryz.func89, Tryz.ntmps89
    go_wp2_with (go_at_call 105; refine (HCALL.out _ HWB.out).mono ?_; rintro e w1 ⟨v1, rfl, ho1⟩; obtain ⟨a1, c1, rfl⟩ := ho1.shape; have HO1 := Lib.hid ho1; clear ho1; have b1 : w1.cell? ⟨w.heap.size, 1, none⟩ = some (.slice ak m ck) := HO1.out.frm.cell' (cell_at' HB0.out 1 rfl) id; have hlt1 : w.heap.size < w1.heap.size := World.block_lt_of_cell? _ _ b1)
    have hln : Frm NoS w (w1.alloc (.cells #[.slice a1 n c1, .slice none 0 0] 27)) := (HFB.out.then1 HO1.out.frm).alloc1
    have hc0 : ClnAtF w (w1.alloc (.cells #[.slice a1 n c1, .slice none 0 0] 27)) (w.heap.size + 1) w1.heap.size n (.slice a1 n c1) (.slice none 0 0) es ks 0 [] := by
      have hs1 := HO1.out.frm.size
      have hbs := HBS.out
      refine ⟨hln, (Frm.alloc NoS _ _).blk (HO1.out.frm.blk HB2.out id) id, heap_alloc_new w1 _, by omega, by have := HFB.out.size; omega, by omega, OwnBut.nil hln _ _, ?_, fun q hq => (by cases hq), rfl, rfl⟩
      refine HO1.out.rdqF.turn fun b hb hQ => ?_
      obtain ⟨hQ, hfree⟩ := hQ
      exact ⟨Below.heap_alloc _ _ _ hb, ⟨by omega, by omega, by omega, by simp [Value.ownBlock]⟩, Free.of (Below.heap_alloc _ _ _ hb) hfree⟩
    have HC0 := Lib.hid hc0; clear hc0
    have HLN := Lib.hid hln; clear hln
    clear b1 hlt1
    go_loopw [13] (fun i ww => ∃ (k : Nat) (l : List KidQ) (kvv : Value), k ≤ m ∧ i = .int .i64 k ∧ ClnAtF w ww (w.heap.size + 1) w1.heap.size n (.slice a1 n c1) kvv es ks k l) (fun i _ => m - (intOf i).toNat)
    case atStart => exact ⟨0, [], _, Nat.zero_le _, rfl, HC0.out⟩
    case round =>
      obtain ⟨k, l, kvv, hk, rfl, hc⟩ := hrel
      obtain ⟨av, cv, rfl⟩ := hc.own.at_.shape
      have HC := Lib.hid hc; clear hc
      by_cases hlt : k < m
      · obtain ⟨key, es', sub, rest, hdr⟩ := KidsL.drop_some (n := k) (ks := ks) (by rw [HM.out]; exact hlt)
        rcases Rd.shape HKR.out with ⟨ad, he, h0⟩ | ⟨b, off, cc, he, hmax⟩
        · exfalso; have := HM.out; omega
        · injection he with e1 e2 e3
          subst e1 e3
          clear e2
          obtain ⟨ev', kv', q0, q1, q2, hta⟩ := kid_at (HKR.out.keep0 HC.out.frm) (HFOR.out.keep0 HC.out.frm) hdr
          obtain ⟨ae', ce', rfl⟩ := hta.ents.rd.sl
          obtain ⟨os', hkr', hfor'⟩ := hta.kids
          obtain ⟨ak', ck', rfl⟩ := hkr'.rd.sl
          clear hkr' hfor'
          have HSS := Lib.hid (size_sub k hdr)
          have HST := Lib.hid (sizeT_sub k hdr)
          have HTA := Lib.hid hta; clear hta
          have HIH := Lib.hid (fun w' (h : Frm NoS wr w') => IH.out es' sub w' _ _ (by have := HSS.out; have := HNN.out; omega) (HTA.out.keep0 h) (by have := HST.out; have := HSZ.out; unfold sizeT at *; omega))
          have HDR := Lib.hid hdr; clear hdr
          have hkp : k ≤ 100000 := by omega
          generalize es'.length = n' at *
          generalize sub.len = m' at *
          have hsp : (wr.alloc (.cells #[.string key, .slice ae' n' ce', .slice ak' m' ck'] 76)).heap[wr.heap.size]? = some (.cells #[.string key, .slice ae' n' ce', .slice ak' m' ck'] 76 (0, 0)) := heap_alloc_new wr _
          have HSP := Lib.hid hsp; clear hsp
          have h3lt := lt_of_block HC.out.b3
          have h2lt := lt_of_block HC.out.b2
          have hvlt : ∀ b, (Value.slice av k cv).ownBlock = some b → b < wr.heap.size := fun b hb => HC.out.own.at_.lt b hb
          have HVLT := Lib.hid hvlt; clear hvlt
          have hfa : Frm NoS wr (wr.alloc (.cells #[.string key, .slice ae' n' ce', .slice ak' m' ck'] 76)).drew := (Frm.alloc _ _ _).drew1
          have HFA := Lib.hid hfa; clear hfa
          have hsz0 : (wr.alloc (.cells #[.string key, .slice ae' n' ce', .slice ak' m' ck'] 76)).drew.heap.size = wr.heap.size + 1 := by show (wr.alloc _).heap.size = _; simp
          have HSZ0 := Lib.hid hsz0; clear hsz0
          go_wp2_with fail
          refine wp_region_G (S := fun w' => w'.cell? ⟨wr.heap.size, 0, none⟩ = some (.string key) ∧ w'.cell? ⟨wr.heap.size, 1, none⟩ = some (.slice ae' n' ce') ∧ w'.cell? ⟨wr.heap.size, 2, none⟩ = some (.slice ak' m' ck') ∧ w'.cell? ⟨w1.heap.size, 1, none⟩ = some (.slice av k cv)) 11 (by kernel_rfl) ⟨cell_at' HSP.out 0 rfl, cell_at' HSP.out 1 rfl, cell_at' HSP.out 2 rfl, HFA.out.cell' (cell_at' HC.out.b3 1 rfl) id⟩ ?_
          intro hS
          generalize (wr.alloc (.cells #[.string key, .slice ae' n' ce', .slice ak' m' ck'] 76)).drew = Y0 at *
          refine take_opG 0 17 (v := ?_) rfl rfl (by kernel_rfl) (by kernel_rfl) (by decide) (by kernel_rfl) (by kernel_rfl) (fun _ _ _ h => h) (Or.inl ⟨by rfl, ?_⟩) (by assumption) ?_
          rotate_left 1
          · (intro w hSw; (try dsimp only at hSw); go_simp; (try with_reducible rfl))
          try simp only [Act.put, List.setIfInBounds_toArray, List.set_cons_zero, List.set_cons_succ]
          refine take_opG 1 18 (v := ?_) rfl rfl (by kernel_rfl) (by kernel_rfl) (by decide) (by kernel_rfl) (by kernel_rfl) (fun _ _ _ h => h) (Or.inl ⟨by rfl, ?_⟩) (by assumption) ?_
          rotate_left 1
          · (intro w hSw; (try dsimp only at hSw); go_simp; (try with_reducible rfl))
          try simp only [Act.put, List.setIfInBounds_toArray, List.set_cons_zero, List.set_cons_succ]
          refine take_opG 2 19 (v := ?_) rfl rfl (by kernel_rfl) (by kernel_rfl) (by decide) (by kernel_rfl) (by kernel_rfl) (fun _ _ _ h => h) (Or.inl ⟨by rfl, ?_⟩) (by assumption) ?_
          rotate_left 1
          · (intro w hSw; (try dsimp only at hSw); go_simp; (try with_reducible rfl))
          try simp only [Act.put, List.setIfInBounds_toArray, List.set_cons_zero, List.set_cons_succ]
          refine take_opG 3 20 (v := ?_) rfl rfl (by kernel_rfl) (by kernel_rfl) (by decide) (by kernel_rfl) (by kernel_rfl) (fun _ _ _ h => h) (Or.inl ⟨by rfl, ?_⟩) (by assumption) ?_
          rotate_left 1
          · (intro w hSw; (try dsimp only at hSw); go_simp; (try with_reducible rfl))
          try simp only [Act.put, List.setIfInBounds_toArray, List.set_cons_zero, List.set_cons_succ]
          refine take_opG 4 21 (v := ?_) rfl rfl (by kernel_rfl) (by kernel_rfl) (by decide) (by kernel_rfl) (by kernel_rfl) (fun _ _ _ h => h) (Or.inl ⟨by rfl, ?_⟩) (by assumption) ?_
          rotate_left 1
          · (intro w hSw; (try dsimp only at hSw); go_simp; (try with_reducible rfl))
          try simp only [Act.put, List.setIfInBounds_toArray, List.set_cons_zero, List.set_cons_succ]
          refine take_opG 5 22 (v := ?_) rfl rfl (by kernel_rfl) (by kernel_rfl) (by decide) (by kernel_rfl) (by kernel_rfl) (fun _ _ _ h => h) (Or.inl ⟨by rfl, ?_⟩) (by assumption) ?_
          rotate_left 1
          · (intro w hSw; (try dsimp only at hSw); go_simp; (try with_reducible rfl))
          try simp only [Act.put, List.setIfInBounds_toArray, List.set_cons_zero, List.set_cons_succ]
          refine one_opG (i := 6) (by kernel_rfl) rfl (fun K hK => ?_)
          go_simp
          refine (HIH.out _ HFA.out).mono ?_
          rintro e Y ⟨ev3, kv3, rfl, hta3, hf3⟩
          obtain ⟨a3, c3, rfl⟩ := hta3.ents.rd.sl
          obtain ⟨os3, hkr3, -⟩ := hta3.kids
          obtain ⟨a4, c4, rfl⟩ := hkr3.rd.sl
          clear hkr3
          have HTA3 := Lib.hid hta3; clear hta3
          have HF3 := Lib.hid hf3; clear hf3
          generalize es'.length = n3 at *
          generalize sub.len = m3 at *
          have hS3 : Y.cell? ⟨wr.heap.size, 0, none⟩ = some (.string key) ∧ Y.cell? ⟨wr.heap.size, 1, none⟩ = some (.slice ae' n' ce') ∧ Y.cell? ⟨wr.heap.size, 2, none⟩ = some (.slice ak' m' ck') ∧ Y.cell? ⟨w1.heap.size, 1, none⟩ = some (.slice av k cv) := ⟨HF3.out.cell' hS.1 id, HF3.out.cell' hS.2.1 id, HF3.out.cell' hS.2.2.1 id, HF3.out.cell' hS.2.2.2 id⟩
          refine hK.out _ _ hS3 ?_
          clear hK K hS
          try simp only [Act.put, List.setIfInBounds_toArray, List.set_cons_zero, List.set_cons_succ]
          refine take_opG 7 24 (v := ?_) rfl rfl (by kernel_rfl) (by kernel_rfl) (by decide) (by kernel_rfl) (by kernel_rfl) (fun _ _ _ h => h) (Or.inl ⟨by rfl, ?_⟩) (by assumption) ?_
          rotate_left 1
          · (intro w hSw; (try dsimp only at hSw); go_simp; (try with_reducible rfl))
          try simp only [Act.put, List.setIfInBounds_toArray, List.set_cons_zero, List.set_cons_succ]
          refine one_opG (i := 8) (by kernel_rfl) rfl (fun K hK => ?_)
          go_simp
          have hS4 : (Y.alloc (.cells #[.string key, .slice a3 n3 c3, .slice a4 m3 c4] 76)).cell? ⟨wr.heap.size, 0, none⟩ = some (.string key) ∧ (Y.alloc (.cells #[.string key, .slice a3 n3 c3, .slice a4 m3 c4] 76)).cell? ⟨wr.heap.size, 1, none⟩ = some (.slice ae' n' ce') ∧ (Y.alloc (.cells #[.string key, .slice a3 n3 c3, .slice a4 m3 c4] 76)).cell? ⟨wr.heap.size, 2, none⟩ = some (.slice ak' m' ck') ∧ (Y.alloc (.cells #[.string key, .slice a3 n3 c3, .slice a4 m3 c4] 76)).cell? ⟨w1.heap.size, 1, none⟩ = some (.slice av k cv) := ⟨(Frm.alloc NoS Y _).cell' hS3.1 id, (Frm.alloc NoS Y _).cell' hS3.2.1 id, (Frm.alloc NoS Y _).cell' hS3.2.2.1 id, (Frm.alloc NoS Y _).cell' hS3.2.2.2 id⟩
          refine hK.out _ _ hS4 ?_
          clear hK K
          try simp only [Act.put, List.setIfInBounds_toArray, List.set_cons_zero, List.set_cons_succ]
          refine one_opG (i := 9) (by kernel_rfl) rfl (fun K hK => ?_)
          have HCY := Lib.hid ((HC.out.keep HFA.out).keep HF3.out)
          have hsY : wr.heap.size < Y.heap.size := by have := HF3.out.size; have := HSZ0.out; omega
          refine step_appB (fun b => b < Y.heap.size ∧ (Value.slice av k cv).ownBlock ≠ some b) w Y [.string key, .slice a3 n3 c3, .slice a4 m3 c4] rfl (.tmp 18) (.tmp 25) 25 rfl 76 i0 _ 3 64 Tryz.underlying25 hi hz0 hz1 hz2 (by decide) (by decide) (.slice av k cv) k _ ⟨HCY.out.own.at_, fun b hb hn => hn.2 hb⟩ (fun b hb => hb.1) 1 1 (by simp [Act.eval]) (by simp [Act.eval]) rfl (by simp [Value.oneCell']) (by simp only [maxLen]; omega) (by omega) ?_
          intro ad cc2 w2 own2 kp2
          have hnk : ∀ b, b ≤ wr.heap.size → (Value.slice av k cv).ownBlock ≠ some b → b < Y.heap.size ∧ (Value.slice av k cv).ownBlock ≠ some b := fun b hb hn => ⟨by omega, hn⟩
          have hle3 : w1.heap.size ≤ wr.heap.size := Nat.le_of_lt h3lt
          have hn5 : (Value.slice av k cv).ownBlock ≠ some wr.heap.size := fun h => by have := HVLT.out _ h; omega
          have hn3 : (Value.slice av k cv).ownBlock ≠ some w1.heap.size := fun h => HC.out.own.but _ h (.inr rfl)
          have hS5 : w2.cell? ⟨wr.heap.size, 0, none⟩ = some (.string key) ∧ w2.cell? ⟨wr.heap.size, 1, none⟩ = some (.slice ae' n' ce') ∧ w2.cell? ⟨wr.heap.size, 2, none⟩ = some (.slice ak' m' ck') ∧ w2.cell? ⟨w1.heap.size, 1, none⟩ = some (.slice av k cv) := ⟨kp2.cell (hnk _ (Nat.le_refl _) hn5) hS3.1, kp2.cell (hnk _ (Nat.le_refl _) hn5) hS3.2.1, kp2.cell (hnk _ (Nat.le_refl _) hn5) hS3.2.2.1, kp2.cell (hnk _ hle3 hn3) hS3.2.2.2⟩
          refine hK.out _ _ hS5 ?_
          clear hK K hS4
          have hcf : w2.frozen? ⟨w1.heap.size, 1, none⟩ = false := kp2.frozen (p := ⟨w1.heap.size, 1, none⟩) (hnk _ hle3 hn3) (free_at' HCY.out.b3 1)
          have hfm : Frm (RowS (.slice av k cv)) Y w2 := ⟨own2.at_.frm.os.trans HCY.out.frm.os.symm, own2.at_.frm.tape.trans HCY.out.frm.tape.symm, own2.at_.frm.output.trans HCY.out.frm.output.symm, kp2.1, fun b hb hn => kp2.2 b ⟨hb, hn⟩⟩
          have hfr : Fresh Y (.slice av k cv) (.slice ad (k + 1) cc2) := fun b hb => by
            by_cases h1 : (Value.slice av k cv).ownBlock = some b
            · exact .inl h1
            · refine .inr ?_
              have := own2.but b hb
              rcases Nat.lt_or_ge b Y.heap.size with h2 | h2
              · exact absurd ⟨h2, h1⟩ this
              · exact h2
          have hq3 : TreeAt (ClnQF w (w.heap.size + 1) w1.heap.size (.slice av k cv) Y) Y (.slice a3 n3 c3) (.slice a4 m3 c4) es' sub := HTA3.out.turn fun b hb hQ => by
            obtain ⟨hQ, hfree⟩ := hQ
            have h0 := HSZ0.out
            have h1 := HC.out.frm.size
            refine ⟨rfl, ⟨by omega, by omega, by omega, fun h => ?_⟩, hfree⟩
            have := HVLT.out _ h
            omega
          have HSTP := Lib.hid (HCY.out.step (q := ⟨key, es', sub, .slice a3 n3 c3, .slice a4 m3 c4⟩) HDR.out hq3 own2.at_.own hfm hfr)
          clear own2 kp2 hfm hfr hq3 hnk hn5 hn3 hsY
          try simp only [Act.put, List.setIfInBounds_toArray, List.set_cons_zero, List.set_cons_succ]
          refine take_opG 10 27 (v := ?_) rfl rfl (by kernel_rfl) (by kernel_rfl) (by decide) (by kernel_rfl) (by kernel_rfl) (fun _ _ _ h => h) (Or.inl ⟨by rfl, ?_⟩) (by assumption) ?_
          rotate_left 1
          · (intro w hSw; (try dsimp only at hSw); go_simp; (try with_reducible rfl))
          try simp only [Act.put, List.setIfInBounds_toArray, List.set_cons_zero, List.set_cons_succ]
          refine last_opG (by kernel_rfl) (by kernel_rfl) rfl (fun K hK => ?_)
          have hcz := hS5.2.2.2
          clear hS5 hS3
          go_simp
          refine hK.out _ _ ?_
          clear hK K hcz hcf
          go_wp2
          go_roundw
          case rel => exact ⟨k + 1, _, _, by omega, by go_num, HSTP.out⟩
          case measure => simp [intOf]; omega
      · obtain rfl : m = k := by omega
        have hdn := HC.out.done HN.out.symm (by rw [HM.out]; exact Nat.le_refl _)
        have HDN := Lib.hid hdn; clear hdn
        have y0 := cell_at' HC.out.b3 0 rfl
        have y1 := cell_at' HC.out.b3 1 rfl
        have z0 := cell_at' HC.out.b2 0 rfl
        have z1 := cell_at' HC.out.b2 1 rfl
        have f0 := free_at' HC.out.b2 0
        have f1 := free_at' HC.out.b2 1
        go_wp2
        clear y0 y1 z0 z1
        have y0 := cell_at' HDN.out.2.2 0 rfl
        have y1 := cell_at' HDN.out.2.2 1 rfl
        exact bodyPost_ret (v := .agg #[.slice a1 n c1, .slice av m cv]) (by simp [results, Tryz.results89, go_sem, y0, y1]) rfl ⟨_, _, rfl, HDN.out.1, HDN.out.2.1⟩
end Go.Proofs.YtclfajhdonabhaaGreat

/- tree: Clone; causal: Clone: the walks, once more. Printed by wip/cloneFgen.py. -/
namespace Go.Proofs.YtclfajhdonabhaaGreat
open Go.RowKit

set_option maxRecDepth 100000 in
theorem tCloneF_any (Q : Nat → Prop) (es : List Ent) (ks : KidsL) (w : World) (ev kv : Value) (ht : TreeAt Q w ev kv es ks) (hok : TrOk es ks) (hsz : sizeT es ks ≤ 4000) (hr : rightT 5 es ks = true) :
    Calls Tryz.prog 63 #[.agg #[ev, kv]] w (ClonePostF w es ks) := by
  obtain ⟨ae, ce, rfl⟩ := ht.ents.rd.sl
  obtain ⟨os, hkr, hfor⟩ := ht.kids
  obtain ⟨ak, ck, rfl⟩ := hkr.rd.sl
  have HR := Lib.hid (fun W (f : Frm NoS w W) => tRight_any Q es ks W _ _ (ht.keep0 f) hok)
  have HA := Lib.hid (fun w' (h : Frm NoS w w') => tcloneF_any Q _ es ks w' _ _ (Nat.lt_succ_self _) (ht.keep0 h) (by omega))
  rw [hr] at HR
  clear hkr hfor ht hok hsz hr
  generalize hes : es.length = n at *
  generalize hkl : ks.len = m at *
  obtain ⟨hb2, hfb, hbs⟩ := two_blocks w (.cells #[.slice ae n ce, .slice ak m ck] 27) #[.slice none 0 0, .slice none 0 0] 27
  have HB2 := Lib.hid hb2; clear hb2
  have HFB := Lib.hid hfb; clear hfb
  have HBS := Lib.hid hbs; clear hbs
  have HES := Lib.hid hes; clear hes
  have HKL := Lib.hid hkl; clear hkl
  go_enter Tryz.func63, Tryz.ntmps63
  go_wp2_with (first
    | (go_at_call 74; refine (HR.out _ HFB.out).mono ?_; rintro e w1 ⟨rfl, hw1⟩; obtain ⟨y0, y1⟩ := box2 w _ _ _ w1 ((Frm.alloc NoS _ _).then1 hw1); have HW1 := Lib.hid hw1; clear hw1)
    | (go_at_call 89; refine (HA.out _ (HFB.out.then1 HW1.out)).mono ?_; rintro e w2 ⟨ev3, kv3, rfl, hta3, hf3⟩; obtain ⟨a3, c3, rfl⟩ := hta3.ents.rd.sl; obtain ⟨os3, hkr3, -⟩ := hta3.kids; obtain ⟨a4, c4, rfl⟩ := hkr3.rd.sl; clear hkr3; have hblk := hf3.blk (HW1.out.blk HB2.out id) id; have y0 := cell_at' hblk 0 rfl; have y1 := cell_at' hblk 1 rfl; have g0 := free_at' hblk 0; have g1 := free_at' hblk 1; have hsb := Lib.hid (lt_of_block hblk); have HR2 := Lib.hid (res2 hblk ((HFB.out.then1 HW1.out).then1 hf3) (by omega) (.slice a3 es.length c3) (.slice a4 ks.len c4)); have hs1 := HW1.out.size; have HP := Lib.hid (hta3.turn (Q' := fun b => w.heap.size ≤ b ∧ Free ((w2.setCell ⟨w.heap.size + 1, 0, none⟩ (.slice a3 es.length c3)).setCell ⟨w.heap.size + 1, 1, none⟩ (.slice a4 ks.len c4)) b) fun b hb hQ => ⟨HR2.out.2.2 b (by have := HBS.out; have := hQ.1; omega), by have := HBS.out; have := hQ.1; omega, Free.of (HR2.out.2.2 b (by have := HBS.out; have := hQ.1; omega)) hQ.2⟩); clear hta3 hf3 hblk hs1; rw [HES.out, HKL.out] at HR2 HP; rw [HES.out, HKL.out]))
  clear y0 y1
  have y0 := cell_at' HR2.out.1 0 rfl
  have y1 := cell_at' HR2.out.1 1 rfl
  exact bodyPost_ret (v := .agg #[.slice a3 n c3, .slice a4 m c4]) (by simp [results, Tryz.results63, go_sem, y0, y1]) rfl ⟨_, _, rfl, HP.out, HR2.out.2.1⟩
/-- What a clone is: new memory that reads the same. -/
def CauPostF (w : World) (es : List Ent) (ks : KidsL) (c : CtxL) (e : Ending) (w' : World) : Prop :=
  ∃ ev kv cv, e = .returned (.agg #[ev, kv, cv]) ∧ TreeAt (fun b => w.heap.size ≤ b ∧ Free w' b) w' ev kv es ks ∧ OwnAt w w' 61 3 cv c.length (spC c)
set_option maxRecDepth 100000 in
theorem caCloneF_ok (Q : Nat → Prop) (es : List Ent) (ks : KidsL) (c : CtxL) (w : World) (ev kv cv : Value) (h : CauAt Q w ev kv cv es ks c) (hok : CauOk es ks c) (hr : CauRight es ks c) :
    Calls Tryz.prog 41 #[.agg #[ev, kv, cv]] w (CauPostF w es ks c) := by
  obtain ⟨a0, c0, a1, c1, a2, c2, rfl, rfl, rfl⟩ := h.shape
  have HR := Lib.hid (fun w' (f : Frm NoS w w') => tf_true hr ▸ caRight_any Q es ks c w' _ _ _ (h.keep0 f) hok)
  have HT := Lib.hid (fun w' (f : Frm NoS w w') => tCloneF_any Q es ks w' _ _ (h.tree.keep0 f) hok.tree (Nat.le_trans hok.small (by decide)) hr.tree)
  have HS := Lib.hid (fun w' (f : Frm NoS w w') => spClone_any w' _ c (Rd.keep0 h.ctx f) (by have := hok.len; omega))
  clear h hok hr
  generalize hes : es.length = n at *
  generalize hkl : ks.len = m at *
  generalize hcl : c.length = k at *
  have HES := Lib.hid hes; clear hes
  have HKL := Lib.hid hkl; clear hkl
  have HCL := Lib.hid hcl; clear hcl
  have htb : ((w.alloc (.cells #[.slice a0 n c0, .slice a1 m c1, .slice a2 k c2] 31)).alloc (.cells #[.slice none 0 0, .slice none 0 0, .slice none 0 0] 31)).heap[w.heap.size + 1]? = some (.cells #[.slice none 0 0, .slice none 0 0, .slice none 0 0] 31 (0, 0)) := (two_blocks w _ _ _).1
  have HTB := Lib.hid htb; clear htb
  have hfb : Frm NoS (w.alloc (.cells #[.slice a0 n c0, .slice a1 m c1, .slice a2 k c2] 31)) ((w.alloc (.cells #[.slice a0 n c0, .slice a1 m c1, .slice a2 k c2] 31)).alloc (.cells #[.slice none 0 0, .slice none 0 0, .slice none 0 0] 31)) := Frm.alloc _ _ _
  have HFB := Lib.hid hfb; clear hfb
  have HBX := Lib.hid (box3 w (.slice a0 n c0) (.slice a1 m c1) (.slice a2 k c2) 31)
  go_enter Tryz.func41, Tryz.ntmps41
  go_wp2_with (go_at_call 48; refine (HR.out _ ((Frm.alloc NoS _ _).then1 HFB.out)).mono ?_; rintro e w1 ⟨rfl, hw1⟩; obtain ⟨y0, y1, y2⟩ := HBX.out w1 (HFB.out.then1 hw1); have hblk := hw1.blk HTB.out id; have HBLK := Lib.hid hblk; clear hblk; have HW1 := Lib.hid (((Frm.alloc NoS _ _).then1 HFB.out).then1 hw1); clear hw1)
  refine wp_region_G (S := fun w' => w'.cell? ⟨w.heap.size, 0, none⟩ = some (.slice a0 n c0) ∧ w'.cell? ⟨w.heap.size, 1, none⟩ = some (.slice a1 m c1) ∧ w'.cell? ⟨w.heap.size, 2, none⟩ = some (.slice a2 k c2)) 7 (by kernel_rfl) ⟨y0, y1, y2⟩ ?_
  intro hS
  have HFY := Lib.hid (HW1.out.then1 (Frm.drew NoS w1))
  have HBY := Lib.hid ((Frm.drew NoS w1).blk HBLK.out id)
  have hsb : w.heap.size + 1 < w1.drew.heap.size := lt_of_block HBY.out
  clear y0 y1 y2 HW1 HBLK
  generalize w1.drew = Y at *
  refine take_opG 0 7 (v := ?_) rfl rfl (by kernel_rfl) (by kernel_rfl) (by decide) (by kernel_rfl) (by kernel_rfl) (fun _ _ _ h => h) (Or.inl ⟨by rfl, ?_⟩) (by assumption) ?_
  rotate_left 1
  · (intro w hSw; (try dsimp only at hSw); go_simp; (try with_reducible rfl))
  try simp only [Act.put, List.setIfInBounds_toArray, List.set_cons_zero, List.set_cons_succ]
  refine take_opG 1 8 (v := ?_) rfl rfl (by kernel_rfl) (by kernel_rfl) (by decide) (by kernel_rfl) (by kernel_rfl) (fun _ _ _ h => h) (Or.inl ⟨by rfl, ?_⟩) (by assumption) ?_
  rotate_left 1
  · (intro w hSw; (try dsimp only at hSw); go_simp; (try with_reducible rfl))
  try simp only [Act.put, List.setIfInBounds_toArray, List.set_cons_zero, List.set_cons_succ]
  refine take_opG 3 10 (v := ?_) rfl rfl (by kernel_rfl) (by kernel_rfl) (by decide) (by kernel_rfl) (by kernel_rfl) (fun _ _ _ h => h) (Or.inl ⟨by rfl, ?_⟩) (by assumption) ?_
  rotate_left 1
  · (intro w hSw; (try dsimp only at hSw); go_simp; (try with_reducible rfl))
  try simp only [Act.put, List.setIfInBounds_toArray, List.set_cons_zero, List.set_cons_succ]
  refine take_opG 4 11 (v := ?_) rfl rfl (by kernel_rfl) (by kernel_rfl) (by decide) (by kernel_rfl) (by kernel_rfl) (fun _ _ _ h => h) (Or.inl ⟨by rfl, ?_⟩) (by assumption) ?_
  rotate_left 1
  · (intro w hSw; (try dsimp only at hSw); go_simp; (try with_reducible rfl))
  try simp only [Act.put, List.setIfInBounds_toArray, List.set_cons_zero, List.set_cons_succ]
  refine one_opG (i := 2) (by kernel_rfl) rfl (fun K hK => ?_)
  go_simp
  refine (HT.out _ HFY.out).mono ?_
  rintro e Y1 ⟨ev3, kv3, rfl, hta3, hf3⟩
  obtain ⟨a3, c3, rfl⟩ := hta3.ents.rd.sl
  obtain ⟨os3, hkr3, -⟩ := hta3.kids
  obtain ⟨a4, c4, rfl⟩ := hkr3.rd.sl
  clear hkr3
  have hS := (⟨hf3.cell' hS.1 id, hf3.cell' hS.2.1 id, hf3.cell' hS.2.2 id⟩ : Y1.cell? ⟨w.heap.size, 0, none⟩ = some (.slice a0 n c0) ∧ Y1.cell? ⟨w.heap.size, 1, none⟩ = some (.slice a1 m c1) ∧ Y1.cell? ⟨w.heap.size, 2, none⟩ = some (.slice a2 k c2))
  rw [HES.out, HKL.out]
  refine hK.out _ _ hS ?_
  clear hK K
  have HTA3 := Lib.hid hta3; clear hta3
  have HF3 := Lib.hid hf3; clear hf3
  try simp only [Act.put, List.setIfInBounds_toArray, List.set_cons_zero, List.set_cons_succ]
  refine one_opG (i := 5) (by kernel_rfl) rfl (fun K hK => ?_)
  go_simp
  refine (HS.out _ (HFY.out.then1 HF3.out)).mono ?_
  rintro e Y2 ⟨v5, rfl, ho5⟩
  obtain ⟨a5, c5, rfl⟩ := ho5.shape
  have hS := (⟨ho5.frm.cell' hS.1 id, ho5.frm.cell' hS.2.1 id, ho5.frm.cell' hS.2.2 id⟩ : Y2.cell? ⟨w.heap.size, 0, none⟩ = some (.slice a0 n c0) ∧ Y2.cell? ⟨w.heap.size, 1, none⟩ = some (.slice a1 m c1) ∧ Y2.cell? ⟨w.heap.size, 2, none⟩ = some (.slice a2 k c2))
  refine hK.out _ _ hS ?_
  clear hK K
  have HO5 := Lib.hid ho5; clear ho5
  try simp only [Act.put, List.setIfInBounds_toArray, List.set_cons_zero, List.set_cons_succ]
  refine take_opG 6 13 (v := ?_) rfl rfl (by kernel_rfl) (by kernel_rfl) (by decide) (by kernel_rfl) (by kernel_rfl) (fun _ _ _ h => h) (Or.inl ⟨by rfl, ?_⟩) (by assumption) ?_
  rotate_left 1
  · (intro w hSw; (try dsimp only at hSw); go_simp; (try with_reducible rfl))
  try simp only [Act.put, List.setIfInBounds_toArray, List.set_cons_zero, List.set_cons_succ]
  refine last_opG (by kernel_rfl) (by kernel_rfl) rfl (fun K hK => ?_)
  have hblk := HO5.out.frm.blk (HF3.out.blk HBY.out id) id
  have HR3 := Lib.hid (res3 hblk ((HFY.out.then1 HF3.out).then1 HO5.out.frm) (by omega) (.slice a3 n c3) (.slice a4 m c4) (.slice a5 k c5))
  have hs3 := HF3.out.size
  have hsb2 := lt_of_block hblk
  have HP := Lib.hid (HTA3.out.turn (w' := (((Y2.setCell ⟨w.heap.size + 1, 0, none⟩ (.slice a3 n c3)).setCell ⟨w.heap.size + 1, 1, none⟩ (.slice a4 m c4)).setCell ⟨w.heap.size + 1, 2, none⟩ (.slice a5 k c5))) (Q' := fun b => w.heap.size ≤ b ∧ Free (((Y2.setCell ⟨w.heap.size + 1, 0, none⟩ (.slice a3 n c3)).setCell ⟨w.heap.size + 1, 1, none⟩ (.slice a4 m c4)).setCell ⟨w.heap.size + 1, 2, none⟩ (.slice a5 k c5)) b) fun b hb hQ => by
    have h1 := hQ.1
    have he := (HR3.out.2.2 b (by omega)).trans (HO5.out.frm.block b hb id)
    exact ⟨he, by omega, Free.of he hQ.2⟩)
  have hown : OwnAt w (((Y2.setCell ⟨w.heap.size + 1, 0, none⟩ (.slice a3 n c3)).setCell ⟨w.heap.size + 1, 1, none⟩ (.slice a4 m c4)).setCell ⟨w.heap.size + 1, 2, none⟩ (.slice a5 k c5)) 61 3 (.slice a5 k c5) k (spC c) := by
    have hnew := HO5.out.new
    have hbut : OwnBut (fun b => b = w.heap.size + 1) w Y2 61 3 (.slice a5 k c5) k (spC c) := ⟨HO5.out.base (HFY.out.then1 HF3.out), fun b hb hn => by have := hnew b hb; omega⟩
    exact (((hbut.set (p := ⟨w.heap.size + 1, 0, none⟩) rfl (Nat.le_succ _) _).set (p := ⟨w.heap.size + 1, 1, none⟩) rfl (Nat.le_succ _) _).set (p := ⟨w.heap.size + 1, 2, none⟩) rfl (Nat.le_succ _) _).at_
  have HOW := Lib.hid hown; clear hown
  have y0 := cell_at' hblk 0 rfl
  have y1 := cell_at' hblk 1 rfl
  have y2 := cell_at' hblk 2 rfl
  have g0 := free_at' hblk 0
  have g1 := free_at' hblk 1
  have g2 := free_at' hblk 2
  clear hS hblk
  go_simp
  refine hK.out _ _ ?_
  clear hK K y0 y1 y2 g0 g1 g2
  go_wp2
  have y0 := cell_at' HR3.out.1 0 rfl
  have y1 := cell_at' HR3.out.1 1 rfl
  have y2 := cell_at' HR3.out.1 2 rfl
  exact bodyPost_ret (v := .agg #[.slice a3 n c3, .slice a4 m c4, .slice a5 k c5]) (by simp [results, Tryz.results41, go_sem, y0, y1, y2]) rfl ⟨_, _, _, rfl, by have := HP.out; rw [HES.out, HKL.out] at this; exact this, HCL.out.symm ▸ HOW.out⟩
end Go.Proofs.YtclfajhdonabhaaGreat

/- bundle: Clone: the walk. Printed by wip/bclonegen.py. -/
namespace Go.Proofs.YtclfajhdonabhaaGreat
open Go.RowKit

set_option maxHeartbeats 4000000 in
set_option maxRecDepth 1000000 in
theorem bClone_no (Q : Nat → Prop) (es : List Ent) (ks : KidsL) (c : CtxL) (w : World) (dc af la v0 v1 v2 v3 : Int) (ev kv cv : Value) (h : CauAt Q w ev kv cv es ks c) (hok : CauOk es ks c) (hr : ¬ BunRight dc af la (vecF v0 v1 v2 v3) es ks c) :
    Calls Tryz.prog 17 #[.agg #[.int .i64 dc, .int .i64 af, .int .i64 la, .int .i64 v0, .int .i64 v1, .int .i64 v2, .int .i64 v3, ev, kv, cv]] w fun e w' => e = .returned (.agg #[.int .i64 0, .int .i64 0, .int .i64 0, .int .i64 0, .int .i64 0, .int .i64 0, .int .i64 0, .slice none 0 0, .slice none 0 0, .slice none 0 0]) ∧ Frm NoS w w' := by
  have HR := Lib.hid (fun W (f : Frm NoS w W) => tf_false hr ▸ bRight_any Q es ks c W dc af la v0 v1 v2 v3 _ _ _ (h.keep0 f) hok)
  obtain ⟨a0, c0, a1, c1, a2, c2, rfl, rfl, rfl⟩ := h.shape
  clear h hok hr
  generalize es.length = n at *
  generalize ks.len = m at *
  generalize c.length = k at *
  have HTW := Lib.hid (two_blocks w (.cells #[.int .i64 dc, .int .i64 af, .int .i64 la, .int .i64 v0, .int .i64 v1, .int .i64 v2, .int .i64 v3, .slice a0 n c0, .slice a1 m c1, .slice a2 k c2] 36) #[.int .i64 0, .int .i64 0, .int .i64 0, .int .i64 0, .int .i64 0, .int .i64 0, .int .i64 0, .slice none 0 0, .slice none 0 0, .slice none 0 0] 36)
  have hb0 : ((w.alloc (.cells #[.int .i64 dc, .int .i64 af, .int .i64 la, .int .i64 v0, .int .i64 v1, .int .i64 v2, .int .i64 v3, .slice a0 n c0, .slice a1 m c1, .slice a2 k c2] 36)).alloc (.cells #[.int .i64 0, .int .i64 0, .int .i64 0, .int .i64 0, .int .i64 0, .int .i64 0, .int .i64 0, .slice none 0 0, .slice none 0 0, .slice none 0 0] 36)).heap[w.heap.size]? = some (.cells #[.int .i64 dc, .int .i64 af, .int .i64 la, .int .i64 v0, .int .i64 v1, .int .i64 v2, .int .i64 v3, .slice a0 n c0, .slice a1 m c1, .slice a2 k c2] 36 (0, 0)) := (Frm.alloc NoS _ _).blk (heap_alloc_new w _) id
  have HB0 := Lib.hid hb0; clear hb0
  go_enter Tryz.func17, Tryz.ntmps17
  go_wp2_with (go_at_call 27; go_loud (refine (HR.out _ HTW.out.2.1).mono ?_); rintro e w1 ⟨rfl, hw1⟩; have hr1 := hw1.blk HTW.out.1 id; have z0 := cell_at' hr1 0 rfl; have g0 := free_at' hr1 0; have z1 := cell_at' hr1 1 rfl; have g1 := free_at' hr1 1; have z2 := cell_at' hr1 2 rfl; have g2 := free_at' hr1 2; have z3 := cell_at' hr1 3 rfl; have g3 := free_at' hr1 3; have z4 := cell_at' hr1 4 rfl; have g4 := free_at' hr1 4; have z5 := cell_at' hr1 5 rfl; have g5 := free_at' hr1 5; have z6 := cell_at' hr1 6 rfl; have g6 := free_at' hr1 6; have z7 := cell_at' hr1 7 rfl; have g7 := free_at' hr1 7; have z8 := cell_at' hr1 8 rfl; have g8 := free_at' hr1 8; have z9 := cell_at' hr1 9 rfl; have g9 := free_at' hr1 9; have HR1 := Lib.hid (res10 hr1 (HTW.out.2.1.then1 hw1) (Nat.le_succ _) (.int .i64 0) (.int .i64 0) (.int .i64 0) (.int .i64 0) (.int .i64 0) (.int .i64 0) (.int .i64 0) (.slice none 0 0) (.slice none 0 0) (.slice none 0 0)); clear hw1 hr1)
  clear z0 g0 z1 g1 z2 g2 z3 g3 z4 g4 z5 g5 z6 g6 z7 g7 z8 g8 z9 g9
  generalize ((((((((((w1.setCell ⟨w.heap.size + 1, 0, none⟩ (.int .i64 0)).setCell ⟨w.heap.size + 1, 1, none⟩ (.int .i64 0)).setCell ⟨w.heap.size + 1, 2, none⟩ (.int .i64 0)).setCell ⟨w.heap.size + 1, 3, none⟩ (.int .i64 0)).setCell ⟨w.heap.size + 1, 4, none⟩ (.int .i64 0)).setCell ⟨w.heap.size + 1, 5, none⟩ (.int .i64 0)).setCell ⟨w.heap.size + 1, 6, none⟩ (.int .i64 0)).setCell ⟨w.heap.size + 1, 7, none⟩ (.slice none 0 0)).setCell ⟨w.heap.size + 1, 8, none⟩ (.slice none 0 0)).setCell ⟨w.heap.size + 1, 9, none⟩ (.slice none 0 0)) = X at *
  have y0 := cell_at' HR1.out.1 0 rfl
  have y1 := cell_at' HR1.out.1 1 rfl
  have y2 := cell_at' HR1.out.1 2 rfl
  have y3 := cell_at' HR1.out.1 3 rfl
  have y4 := cell_at' HR1.out.1 4 rfl
  have y5 := cell_at' HR1.out.1 5 rfl
  have y6 := cell_at' HR1.out.1 6 rfl
  have y7 := cell_at' HR1.out.1 7 rfl
  have y8 := cell_at' HR1.out.1 8 rfl
  have y9 := cell_at' HR1.out.1 9 rfl
  exact bodyPost_ret (v := .agg #[.int .i64 0, .int .i64 0, .int .i64 0, .int .i64 0, .int .i64 0, .int .i64 0, .int .i64 0, .slice none 0 0, .slice none 0 0, .slice none 0 0]) (by simp [results, Tryz.results17, go_sem, y0, y1, y2, y3, y4, y5, y6, y7, y8, y9]) rfl ⟨rfl, HR1.out.2.1⟩
/-- What bundle.Clone answers of a right one. -/
def BClonePost (w : World) (dc af la v0 v1 v2 v3 : Int) (es : List Ent) (ks : KidsL) (c : CtxL) (e : Ending) (w' : World) : Prop :=
  ∃ ev kv cv, e = .returned (.agg #[.int .i64 dc, .int .i64 af, .int .i64 la, .int .i64 v0, .int .i64 v1, .int .i64 v2, .int .i64 v3, ev, kv, cv]) ∧ TreeAt (fun b => w.heap.size ≤ b ∧ Free w' b) w' ev kv es ks ∧ CtxAt w' cv c ∧ (∀ b, c ≠ [] → cv.ownBlock = some b → w.heap.size ≤ b) ∧ Frm NoS w w'
set_option maxHeartbeats 4000000 in
set_option maxRecDepth 1000000 in
theorem bClone_ok (Q : Nat → Prop) (es : List Ent) (ks : KidsL) (c : CtxL) (w : World) (dc af la v0 v1 v2 v3 : Int) (ev kv cv : Value) (h : CauAt Q w ev kv cv es ks c) (hok : CauOk es ks c) (hr : BunRight dc af la (vecF v0 v1 v2 v3) es ks c) :
    Calls Tryz.prog 17 #[.agg #[.int .i64 dc, .int .i64 af, .int .i64 la, .int .i64 v0, .int .i64 v1, .int .i64 v2, .int .i64 v3, ev, kv, cv]] w (BClonePost w dc af la v0 v1 v2 v3 es ks c) := by
  have HR := Lib.hid (fun W (f : Frm NoS w W) => tf_true hr ▸ bRight_any Q es ks c W dc af la v0 v1 v2 v3 _ _ _ (h.keep0 f) hok)
  have HCL := Lib.hid (fun W (f : Frm NoS w W) => caCloneF_ok Q es ks c W _ _ _ (h.keep0 f) hok ⟨hr.tree, hr.ctx, hr.dots⟩)
  obtain ⟨a0, c0, a1, c1, a2, c2, rfl, rfl, rfl⟩ := h.shape
  clear h hok hr
  have HTW := Lib.hid (two_blocks w (.cells #[.int .i64 dc, .int .i64 af, .int .i64 la, .int .i64 v0, .int .i64 v1, .int .i64 v2, .int .i64 v3, .slice a0 es.length c0, .slice a1 ks.len c1, .slice a2 c.length c2] 36) #[.int .i64 0, .int .i64 0, .int .i64 0, .int .i64 0, .int .i64 0, .int .i64 0, .int .i64 0, .slice none 0 0, .slice none 0 0, .slice none 0 0] 36)
  have hb0 : ((w.alloc (.cells #[.int .i64 dc, .int .i64 af, .int .i64 la, .int .i64 v0, .int .i64 v1, .int .i64 v2, .int .i64 v3, .slice a0 es.length c0, .slice a1 ks.len c1, .slice a2 c.length c2] 36)).alloc (.cells #[.int .i64 0, .int .i64 0, .int .i64 0, .int .i64 0, .int .i64 0, .int .i64 0, .int .i64 0, .slice none 0 0, .slice none 0 0, .slice none 0 0] 36)).heap[w.heap.size]? = some (.cells #[.int .i64 dc, .int .i64 af, .int .i64 la, .int .i64 v0, .int .i64 v1, .int .i64 v2, .int .i64 v3, .slice a0 es.length c0, .slice a1 ks.len c1, .slice a2 c.length c2] 36 (0, 0)) := (Frm.alloc NoS _ _).blk (heap_alloc_new w _) id
  have HB0 := Lib.hid hb0; clear hb0
  go_enter Tryz.func17, Tryz.ntmps17
  go_wp2_with (first
    | (go_at_call 27; go_loud (refine (HR.out _ HTW.out.2.1).mono ?_); rintro e w1 ⟨rfl, hw1⟩; have hb1 := hw1.blk HB0.out id; have y0 := cell_at' hb1 0 rfl; have y1 := cell_at' hb1 1 rfl; have y2 := cell_at' hb1 2 rfl; have y3 := cell_at' hb1 3 rfl; have y4 := cell_at' hb1 4 rfl; have y5 := cell_at' hb1 5 rfl; have y6 := cell_at' hb1 6 rfl; have y7 := cell_at' hb1 7 rfl; have y8 := cell_at' hb1 8 rfl; have y9 := cell_at' hb1 9 rfl; have HB1 := Lib.hid hb1; clear hb1; have HR1 := Lib.hid (hw1.blk HTW.out.1 id); have HW1 := Lib.hid (HTW.out.2.1.then1 hw1); clear hw1)
    | (go_at_call 41; go_loud (refine (HCL.out _ HW1.out).mono ?_); rintro e w2 ⟨ev3, kv3, cv3, rfl, hta, hoc⟩; obtain ⟨a3, d3, rfl⟩ := hta.ents.rd.sl; obtain ⟨os3, hkr3, -⟩ := hta.kids; obtain ⟨a4, d4, rfl⟩ := hkr3.rd.sl; clear hkr3; obtain ⟨a5, d5, rfl⟩ := hoc.shape; clear y0 y1 y2 y3 y4 y5 y6 y7 y8 y9; have hf2 := hoc.frm; have hb2 := hf2.blk HB1.out id; have hr2 := hf2.blk HR1.out id; have y0 := cell_at' hb2 0 rfl; have y1 := cell_at' hb2 1 rfl; have y2 := cell_at' hb2 2 rfl; have y3 := cell_at' hb2 3 rfl; have y4 := cell_at' hb2 4 rfl; have y5 := cell_at' hb2 5 rfl; have y6 := cell_at' hb2 6 rfl; have y7 := cell_at' hb2 7 rfl; have y8 := cell_at' hb2 8 rfl; have y9 := cell_at' hb2 9 rfl; have q7 := free_at' hb2 7; have q8 := free_at' hb2 8; have q9 := free_at' hb2 9; have z0 := cell_at' hr2 0 rfl; have g0 := free_at' hr2 0; have z1 := cell_at' hr2 1 rfl; have g1 := free_at' hr2 1; have z2 := cell_at' hr2 2 rfl; have g2 := free_at' hr2 2; have z3 := cell_at' hr2 3 rfl; have g3 := free_at' hr2 3; have z4 := cell_at' hr2 4 rfl; have g4 := free_at' hr2 4; have z5 := cell_at' hr2 5 rfl; have g5 := free_at' hr2 5; have z6 := cell_at' hr2 6 rfl; have g6 := free_at' hr2 6; have z7 := cell_at' hr2 7 rfl; have g7 := free_at' hr2 7; have z8 := cell_at' hr2 8 rfl; have g8 := free_at' hr2 8; have z9 := cell_at' hr2 9 rfl; have g9 := free_at' hr2 9; have hl1 := lt_of_block HR1.out; have hl2 := lt_of_block hr2; have HR2 := Lib.hid hr2; have HTA := Lib.hid hta; have HOC := Lib.hid hoc; have HF2 := Lib.hid (HW1.out.then1 hf2); clear hta hoc hf2 hb2 hr2))
  clear y0 y1 y2 y3 y4 y5 y6 y7 y8 y9 q7 q8 q9 z0 g0 z1 g1 z2 g2 z3 g3 z4 g4 z5 g5 z6 g6 z7 g7 z8 g8 z9 g9
  have hf3 : Frm NoS w (((w2.setCell ⟨w.heap.size, 7, none⟩ (.slice a3 es.length d3)).setCell ⟨w.heap.size, 8, none⟩ (.slice a4 ks.len d4)).setCell ⟨w.heap.size, 9, none⟩ (.slice a5 c.length d5)) := ((HF2.out.set1 (p := ⟨w.heap.size, 7, none⟩) (.inr (Nat.le_refl _))).set1 (p := ⟨w.heap.size, 8, none⟩) (.inr (Nat.le_refl _))).set1 (p := ⟨w.heap.size, 9, none⟩) (.inr (Nat.le_refl _))
  have helse : ∀ b, b ≠ w.heap.size → (((w2.setCell ⟨w.heap.size, 7, none⟩ (.slice a3 es.length d3)).setCell ⟨w.heap.size, 8, none⟩ (.slice a4 ks.len d4)).setCell ⟨w.heap.size, 9, none⟩ (.slice a5 c.length d5)).heap[b]? = w2.heap[b]? := fun b hb => ((set_else hb).trans (set_else hb)).trans (set_else hb)
  have hr3 : (((w2.setCell ⟨w.heap.size, 7, none⟩ (.slice a3 es.length d3)).setCell ⟨w.heap.size, 8, none⟩ (.slice a4 ks.len d4)).setCell ⟨w.heap.size, 9, none⟩ (.slice a5 c.length d5)).heap[w.heap.size + 1]? = some (.cells #[.int .i64 0, .int .i64 0, .int .i64 0, .int .i64 0, .int .i64 0, .int .i64 0, .int .i64 0, .slice none 0 0, .slice none 0 0, .slice none 0 0] 36 (0, 0)) := (helse _ (by omega)).trans HR2.out
  generalize (((w2.setCell ⟨w.heap.size, 7, none⟩ (.slice a3 es.length d3)).setCell ⟨w.heap.size, 8, none⟩ (.slice a4 ks.len d4)).setCell ⟨w.heap.size, 9, none⟩ (.slice a5 c.length d5)) = X3 at *
  have HR4 := Lib.hid (res10 hr3 hf3 (Nat.le_succ _) (.int .i64 dc) (.int .i64 af) (.int .i64 la) (.int .i64 v0) (.int .i64 v1) (.int .i64 v2) (.int .i64 v3) (.slice a3 es.length d3) (.slice a4 ks.len d4) (.slice a5 c.length d5))
  clear hr3 hf3
  have HEL := Lib.hid helse; clear helse
  generalize ((((((((((X3.setCell ⟨w.heap.size + 1, 0, none⟩ (.int .i64 dc)).setCell ⟨w.heap.size + 1, 1, none⟩ (.int .i64 af)).setCell ⟨w.heap.size + 1, 2, none⟩ (.int .i64 la)).setCell ⟨w.heap.size + 1, 3, none⟩ (.int .i64 v0)).setCell ⟨w.heap.size + 1, 4, none⟩ (.int .i64 v1)).setCell ⟨w.heap.size + 1, 5, none⟩ (.int .i64 v2)).setCell ⟨w.heap.size + 1, 6, none⟩ (.int .i64 v3)).setCell ⟨w.heap.size + 1, 7, none⟩ (.slice a3 es.length d3)).setCell ⟨w.heap.size + 1, 8, none⟩ (.slice a4 ks.len d4)).setCell ⟨w.heap.size + 1, 9, none⟩ (.slice a5 c.length d5)) = X at *
  have y0 := cell_at' HR4.out.1 0 rfl
  have y1 := cell_at' HR4.out.1 1 rfl
  have y2 := cell_at' HR4.out.1 2 rfl
  have y3 := cell_at' HR4.out.1 3 rfl
  have y4 := cell_at' HR4.out.1 4 rfl
  have y5 := cell_at' HR4.out.1 5 rfl
  have y6 := cell_at' HR4.out.1 6 rfl
  have y7 := cell_at' HR4.out.1 7 rfl
  have y8 := cell_at' HR4.out.1 8 rfl
  have y9 := cell_at' HR4.out.1 9 rfl
  have htree : TreeAt (fun b => w.heap.size ≤ b ∧ Free X b) X (.slice a3 es.length d3) (.slice a4 ks.len d4) es ks := HTA.out.turn fun b hb hQ => by
    have h1 := hQ.1
    have he := (HR4.out.2.2 b (by omega)).trans (HEL.out b (by omega))
    exact ⟨he, by omega, Free.of he hQ.2⟩
  have hctx := HOC.out.rdq.turn (w' := X) (Q' := fun b => w.heap.size ≤ b) fun b hb hQ => ⟨(HR4.out.2.2 b (by omega)).trans (HEL.out b (by omega)), by omega⟩
  have HTREE := Lib.hid htree; clear htree
  have HCTX := Lib.hid hctx; clear hctx
  refine bodyPost_ret (v := .agg #[.int .i64 dc, .int .i64 af, .int .i64 la, .int .i64 v0, .int .i64 v1, .int .i64 v2, .int .i64 v3, .slice a3 es.length d3, .slice a4 ks.len d4, .slice a5 c.length d5]) (by simp [results, Tryz.results17, go_sem, y0, y1, y2, y3, y4, y5, y6, y7, y8, y9]) rfl ⟨_, _, _, rfl, HTREE.out, HCTX.out.rd, fun b hc hb => HCTX.out.q (fun h => hc ?_) b hb, HR4.out.2.1⟩
  have := congrArg List.length h
  rw [spC_length] at this
  exact List.eq_nil_of_length_eq_zero (by simp at this; omega)
end Go.Proofs.YtclfajhdonabhaaGreat

/- tributaryref08: Clone; tributaryref09: Clone: the walks. -/
namespace Go.Proofs.YtclfajhdonabhaaGreat
open Go.RowKit

set_option maxHeartbeats 4000000 in
set_option maxRecDepth 1000000 in
theorem r8Clone_any (Q : Nat → Prop) : ∀ (N : Nat) (es : List Ent) (ks : KidsL) (w : World) (ev kv : Value), sizeK ks < N → TreeAt Q w ev kv es ks → sizeT es ks ≤ 100000 →
    Calls Tryz.prog 40 #[.agg #[ev, kv]] w (ClonePost w es ks) := by
  intro N
  induction N with
  | zero => intros; exfalso; omega
  | succ N IHN =>
    intro es ks w ev kv hN ht hsz
    obtain ⟨i0, hi, hz0, hz1, hz2⟩ := info_parts info_kid
    obtain ⟨j0, hj, hy0, hy1, hy2⟩ := info_parts info_entry
    obtain ⟨ae, ce, rfl⟩ := ht.ents.rd.sl
    obtain ⟨os, hkr, hfor⟩ := ht.kids
    obtain ⟨ak, ck, rfl⟩ := hkr.rd.sl
    have HE := Lib.hid ht.ents.rd
    have HKR := Lib.hid hkr.rd; clear hkr ht
    have HFOR := Lib.hid hfor; clear hfor
    have IH := Lib.hid IHN; clear IHN
    have hn5 : es.length ≤ 100000 := by unfold sizeT at hsz; omega
    have hm5 : ks.len ≤ 100000 := by have := len_le_sizeK ks; unfold sizeT at hsz; omega
    have HEL := Lib.hid (entC_length es)
    have HSZ := Lib.hid hsz; clear hsz
    have HNN := Lib.hid hN; clear hN
    generalize hes : es.length = n at *
    have HN := Lib.hid hes; clear hes
    generalize hkl : ks.len = m at *
    have HM := Lib.hid hkl; clear hkl
    have HTB := Lib.hid (three_blocks w #[.slice ae n ce, .slice ak m ck] #[.slice none 0 0, .slice none 0 0] #[.slice none 0 0, .slice none 0 0] 27 27 27)
    have hsw : (((w.alloc (.cells #[.slice ae n ce, .slice ak m ck] 27)).alloc (.cells #[.slice none 0 0, .slice none 0 0] 27)).alloc (.cells #[.slice none 0 0, .slice none 0 0] 27)).heap.size = w.heap.size + 1 + 1 + 1 := by simp
    have HSW := Lib.hid hsw; clear hsw
    go_enter Tryz.func40, Tryz.ntmps40
    go_wp2_with (at_builtin; go_loud (refine wpList_appR _ _ (entC es) rfl (.tmp 6) (.tmp 8) 24 24 rfl 74 74 j0 _ 4 40 Tryz.underlying24 Tryz.underlying24 hj hy0 hy1 hy2 (by decide) (by decide) _ 0 [] (OwnAt.nil (Frm.refl _ _) _ _) _ n rfl rfl (HE.out.keep0 (HTB.out _ (Frm.refl _ _)).2.2.2) (by rw [HEL.out]) (entC_oneCell _) (by simp only [maxLen]; omega) (by omega) ?_); intro ad cc1 w1 own1; simp only [Nat.zero_add, List.nil_append] at own1; rw [Nat.zero_add]; obtain ⟨g0, g1, g2, gf⟩ := HTB.out w1 own1.frm; have b1 := cell_at' g0 1 rfl; have o0 := cell_at' g2 0 rfl; have f0 := free_at' g2 0; have hl2 := lt_of_block g2; have HO1 := Lib.hid own1; clear own1; have HG0 := Lib.hid g0; have HG1 := Lib.hid g1; have HG2 := Lib.hid g2; have HGF := Lib.hid gf; clear g0 g1 g2 gf)
    clear b1 o0 f0
    have hx : Frm NoS w (w1.setCell ⟨w.heap.size + 1 + 1, 0, none⟩ (.slice ad n cc1)) := HGF.out.set1 (.inr (by show w.heap.size ≤ w.heap.size + 1 + 1; omega))
    have hc0 : ClnAt w (w1.setCell ⟨w.heap.size + 1 + 1, 0, none⟩ (.slice ad n cc1)) (w.heap.size + 1) (w.heap.size + 1 + 1) n (.slice ad n cc1) (.slice none 0 0) es ks 0 [] := by
      have hsw := HSW.out
      refine ⟨hx, (set_else (by omega)).trans HG1.out, set_at' HG2.out 0 _, by omega, by omega, by omega, OwnBut.nil hx _ _, ?_, fun q hq => (by cases hq), rfl, rfl⟩
      refine HO1.out.rdq.turn fun b hb hQ => ⟨set_else (by omega), by omega, by omega, by omega, by simp [Value.ownBlock]⟩
    have HC0 := Lib.hid hc0; clear hc0
    have hbx : (w1.setCell ⟨w.heap.size + 1 + 1, 0, none⟩ (.slice ad n cc1)).heap[w.heap.size]? = some (.cells #[.slice ae n ce, .slice ak m ck] 27 (0, 0)) := (set_else (by omega)).trans HG0.out
    have HBX := Lib.hid hbx; clear hbx hx hl2
    generalize w1.setCell ⟨w.heap.size + 1 + 1, 0, none⟩ (.slice ad n cc1) = X at *
    go_loopw [14] (fun i ww => ∃ (k : Nat) (l : List KidQ) (kvv : Value), k ≤ m ∧ i = .int .i64 k ∧ ClnAt w ww (w.heap.size + 1) (w.heap.size + 1 + 1) n (.slice ad n cc1) kvv es ks k l ∧ ww.heap[w.heap.size]? = some (.cells #[.slice ae n ce, .slice ak m ck] 27 (0, 0)) ∧ kvv.ownBlock ≠ some w.heap.size) (fun i _ => m - (intOf i).toNat)
    case atStart => exact ⟨0, [], _, Nat.zero_le _, rfl, HC0.out, HBX.out, by simp [Value.ownBlock]⟩
    case round =>
      obtain ⟨k, l, kvv, hk, rfl, hc, hbx, hnb⟩ := hrel
      obtain ⟨av, cv, rfl⟩ := hc.own.at_.shape
      have HC := Lib.hid hc; clear hc
      have HBW := Lib.hid hbx; clear hbx
      have HNB := Lib.hid hnb; clear hnb
      by_cases hlt : k < m
      · obtain ⟨key, es', sub, rest, hdr⟩ := KidsL.drop_some (n := k) (ks := ks) (by rw [HM.out]; exact hlt)
        rcases Rd.shape HKR.out with ⟨ad2, he, h0⟩ | ⟨b, off, cc, he, hmax⟩
        · exfalso; have := HM.out; omega
        · injection he with e1 e2 e3
          subst e1 e3
          clear e2
          obtain ⟨ev', kv', q0, q1, q2, hta⟩ := kid_at (HKR.out.keep0 HC.out.frm) (HFOR.out.keep0 HC.out.frm) hdr
          obtain ⟨ae', ce', rfl⟩ := hta.ents.rd.sl
          obtain ⟨os', hkr', hfor'⟩ := hta.kids
          obtain ⟨ak', ck', rfl⟩ := hkr'.rd.sl
          clear hkr' hfor'
          obtain ⟨_, _, qw0, -, -, -⟩ := kid_at HKR.out HFOR.out hdr
          have hbw : b < w.heap.size := World.block_lt_of_cell? _ _ qw0
          have HSS := Lib.hid (size_sub k hdr)
          have HST := Lib.hid (sizeT_sub k hdr)
          have HTA := Lib.hid hta; clear hta
          have HIH := Lib.hid (fun w' (h : Frm NoS wr w') => IH.out es' sub w' _ _ (by have := HSS.out; have := HNN.out; omega) (HTA.out.keep0 h) (by have := HST.out; have := HSZ.out; unfold sizeT at *; omega))
          have HDR := Lib.hid hdr; clear hdr
          have hkp : k ≤ 100000 := by omega
          clear qw0
          generalize es'.length = n' at *
          generalize sub.len = m' at *
          have h3lt := lt_of_block HC.out.b3
          have h2lt := lt_of_block HC.out.b2
          have HVLT := Lib.hid (fun b hb => HC.out.own.at_.lt b hb)
          have y1 := cell_at' HBW.out 1 rfl
          have z1 := cell_at' HC.out.b3 1 rfl
          go_wp2_with fail
          refine wp_region_G (S := fun w' => w'.cell? ⟨w.heap.size, 1, none⟩ = some (.slice (some ⟨b, off, none⟩) m ck) ∧ w'.cell? ⟨b, off + k * 3, none⟩ = some (.string key) ∧ w'.cell? ⟨b, off + k * 3 + 1, none⟩ = some (.slice ae' n' ce') ∧ w'.cell? ⟨b, off + k * 3 + 2, none⟩ = some (.slice ak' m' ck') ∧ w'.cell? ⟨w.heap.size + 1 + 1, 1, none⟩ = some (.slice av k cv)) 19 (by kernel_rfl) ⟨y1, q0, q1, q2, z1⟩ ?_
          intro hS
          clear y1 q0 q1 q2 z1
          have HFA := Lib.hid (Frm.drew NoS wr)
          have hszd : wr.drew.heap.size = wr.heap.size := rfl
          have HSZ0 := Lib.hid hszd; clear hszd
          generalize wr.drew = Y0 at *
          refine take_opG 0 17 (v := ?_) rfl rfl (by kernel_rfl) (by kernel_rfl) (by decide) (by kernel_rfl) (by kernel_rfl) (fun _ _ _ h => h) (Or.inl ⟨by rfl, ?_⟩) (by assumption) ?_
          rotate_left 1
          · (intro w hSw; (try dsimp only at hSw); go_simp; (try with_reducible rfl))
          try simp only [Act.put, List.setIfInBounds_toArray, List.set_cons_zero, List.set_cons_succ]
          refine take_opG 1 18 (v := ?_) rfl rfl (by kernel_rfl) (by kernel_rfl) (by decide) (by kernel_rfl) (by kernel_rfl) (fun _ _ _ h => h) (Or.inl ⟨by rfl, ?_⟩) (by assumption) ?_
          rotate_left 1
          · (intro w hSw; (try dsimp only at hSw); go_simp; (try with_reducible rfl))
          try simp only [Act.put, List.setIfInBounds_toArray, List.set_cons_zero, List.set_cons_succ]
          refine take_opG 2 19 (v := ?_) rfl rfl (by kernel_rfl) (by kernel_rfl) (by decide) (by kernel_rfl) (by kernel_rfl) (fun _ _ _ h => h) (Or.inl ⟨by rfl, ?_⟩) (by assumption) ?_
          rotate_left 1
          · (intro w hSw; (try dsimp only at hSw); go_simp; (try with_reducible rfl))
          try simp only [Act.put, List.setIfInBounds_toArray, List.set_cons_zero, List.set_cons_succ]
          refine take_opG 3 20 (v := ?_) rfl rfl (by kernel_rfl) (by kernel_rfl) (by decide) (by kernel_rfl) (by kernel_rfl) (fun _ _ _ h => h) (Or.inl ⟨by rfl, ?_⟩) (by assumption) ?_
          rotate_left 1
          · (intro w hSw; (try dsimp only at hSw); go_simp; (try with_reducible rfl))
          try simp only [Act.put, List.setIfInBounds_toArray, List.set_cons_zero, List.set_cons_succ]
          refine take_opG 4 21 (v := ?_) rfl rfl (by kernel_rfl) (by kernel_rfl) (by decide) (by kernel_rfl) (by kernel_rfl) (fun _ _ _ h => h) (Or.inl ⟨by rfl, ?_⟩) (by assumption) ?_
          rotate_left 1
          · (intro w hSw; (try dsimp only at hSw); go_simp; (try with_reducible rfl))
          try simp only [Act.put, List.setIfInBounds_toArray, List.set_cons_zero, List.set_cons_succ]
          refine take_opG 5 22 (v := ?_) rfl rfl (by kernel_rfl) (by kernel_rfl) (by decide) (by kernel_rfl) (by kernel_rfl) (fun _ _ _ h => h) (Or.inl ⟨by rfl, ?_⟩) (by assumption) ?_
          rotate_left 1
          · (intro w hSw; (try dsimp only at hSw); go_simp; (try with_reducible rfl))
          try simp only [Act.put, List.setIfInBounds_toArray, List.set_cons_zero, List.set_cons_succ]
          refine take_opG 6 23 (v := ?_) rfl rfl (by kernel_rfl) (by kernel_rfl) (by decide) (by kernel_rfl) (by kernel_rfl) (fun _ _ _ h => h) (Or.inl ⟨by rfl, ?_⟩) (by assumption) ?_
          rotate_left 1
          · (intro w hSw; (try dsimp only at hSw); go_simp; (try with_reducible rfl))
          try simp only [Act.put, List.setIfInBounds_toArray, List.set_cons_zero, List.set_cons_succ]
          refine take_opG 7 24 (v := ?_) rfl rfl (by kernel_rfl) (by kernel_rfl) (by decide) (by kernel_rfl) (by kernel_rfl) (fun _ _ _ h => h) (Or.inl ⟨by rfl, ?_⟩) (by assumption) ?_
          rotate_left 1
          · (intro w hSw; (try dsimp only at hSw); go_simp; (try with_reducible rfl))
          try simp only [Act.put, List.setIfInBounds_toArray, List.set_cons_zero, List.set_cons_succ]
          refine take_opG 8 25 (v := ?_) rfl rfl (by kernel_rfl) (by kernel_rfl) (by decide) (by kernel_rfl) (by kernel_rfl) (fun _ _ _ h => h) (Or.inl ⟨by rfl, ?_⟩) (by assumption) ?_
          rotate_left 1
          · (intro w hSw; (try dsimp only at hSw); go_simp; (try with_reducible rfl))
          try simp only [Act.put, List.setIfInBounds_toArray, List.set_cons_zero, List.set_cons_succ]
          refine take_opG 9 26 (v := ?_) rfl rfl (by kernel_rfl) (by kernel_rfl) (by decide) (by kernel_rfl) (by kernel_rfl) (fun _ _ _ h => h) (Or.inl ⟨by rfl, ?_⟩) (by assumption) ?_
          rotate_left 1
          · (intro w hSw; (try dsimp only at hSw); go_simp; (try with_reducible rfl))
          try simp only [Act.put, List.setIfInBounds_toArray, List.set_cons_zero, List.set_cons_succ]
          refine take_opG 10 27 (v := ?_) rfl rfl (by kernel_rfl) (by kernel_rfl) (by decide) (by kernel_rfl) (by kernel_rfl) (fun _ _ _ h => h) (Or.inl ⟨by rfl, ?_⟩) (by assumption) ?_
          rotate_left 1
          · (intro w hSw; (try dsimp only at hSw); go_simp; (try with_reducible rfl))
          try simp only [Act.put, List.setIfInBounds_toArray, List.set_cons_zero, List.set_cons_succ]
          refine take_opG 11 28 (v := ?_) rfl rfl (by kernel_rfl) (by kernel_rfl) (by decide) (by kernel_rfl) (by kernel_rfl) (fun _ _ _ h => h) (Or.inl ⟨by rfl, ?_⟩) (by assumption) ?_
          rotate_left 1
          · (intro w hSw; (try dsimp only at hSw); go_simp; (try with_reducible rfl))
          try simp only [Act.put, List.setIfInBounds_toArray, List.set_cons_zero, List.set_cons_succ]
          refine take_opG 12 29 (v := ?_) rfl rfl (by kernel_rfl) (by kernel_rfl) (by decide) (by kernel_rfl) (by kernel_rfl) (fun _ _ _ h => h) (Or.inl ⟨by rfl, ?_⟩) (by assumption) ?_
          rotate_left 1
          · (intro w hSw; (try dsimp only at hSw); go_simp; (try with_reducible rfl))
          try simp only [Act.put, List.setIfInBounds_toArray, List.set_cons_zero, List.set_cons_succ]
          refine take_opG 13 30 (v := ?_) rfl rfl (by kernel_rfl) (by kernel_rfl) (by decide) (by kernel_rfl) (by kernel_rfl) (fun _ _ _ h => h) (Or.inl ⟨by rfl, ?_⟩) (by assumption) ?_
          rotate_left 1
          · (intro w hSw; (try dsimp only at hSw); go_simp; (try with_reducible rfl))
          try simp only [Act.put, List.setIfInBounds_toArray, List.set_cons_zero, List.set_cons_succ]
          refine one_opG (i := 14) (by kernel_rfl) rfl (fun K hK => ?_)
          go_simp
          refine (HIH.out _ HFA.out).mono ?_
          rintro e Y ⟨ev3, kv3, rfl, hta3, hf3⟩
          obtain ⟨a3, c3, rfl⟩ := hta3.ents.rd.sl
          obtain ⟨os3, hkr3, -⟩ := hta3.kids
          obtain ⟨a4, c4, rfl⟩ := hkr3.rd.sl
          clear hkr3
          have HTA3 := Lib.hid hta3; clear hta3
          have HF3 := Lib.hid hf3; clear hf3
          generalize es'.length = n3 at *
          generalize sub.len = m3 at *
          have hS := (⟨HF3.out.cell' hS.1 id, HF3.out.cell' hS.2.1 id, HF3.out.cell' hS.2.2.1 id, HF3.out.cell' hS.2.2.2.1 id, HF3.out.cell' hS.2.2.2.2 id⟩ : Y.cell? ⟨w.heap.size, 1, none⟩ = some (.slice (some ⟨b, off, none⟩) m ck) ∧ Y.cell? ⟨b, off + k * 3, none⟩ = some (.string key) ∧ Y.cell? ⟨b, off + k * 3 + 1, none⟩ = some (.slice ae' n' ce') ∧ Y.cell? ⟨b, off + k * 3 + 2, none⟩ = some (.slice ak' m' ck') ∧ Y.cell? ⟨w.heap.size + 1 + 1, 1, none⟩ = some (.slice av k cv))
          refine hK.out _ _ hS ?_
          clear hK K
          try simp only [Act.put, List.setIfInBounds_toArray, List.set_cons_zero, List.set_cons_succ]
          refine take_opG 15 32 (v := ?_) rfl rfl (by kernel_rfl) (by kernel_rfl) (by decide) (by kernel_rfl) (by kernel_rfl) (fun _ _ _ h => h) (Or.inl ⟨by rfl, ?_⟩) (by assumption) ?_
          rotate_left 1
          · (intro w hSw; (try dsimp only at hSw); go_simp; (try with_reducible rfl))
          try simp only [Act.put, List.setIfInBounds_toArray, List.set_cons_zero, List.set_cons_succ]
          refine one_opG (i := 16) (by kernel_rfl) rfl (fun K hK => ?_)
          go_simp
          have hfq : Frm NoS Y (Y.alloc (.cells #[.string key, .slice a3 n3 c3, .slice a4 m3 c4] 76)) := Frm.alloc _ _ _
          have hS4 := (⟨hfq.cell' hS.1 id, hfq.cell' hS.2.1 id, hfq.cell' hS.2.2.1 id, hfq.cell' hS.2.2.2.1 id, hfq.cell' hS.2.2.2.2 id⟩ : (Y.alloc (.cells #[.string key, .slice a3 n3 c3, .slice a4 m3 c4] 76)).cell? ⟨w.heap.size, 1, none⟩ = some (.slice (some ⟨b, off, none⟩) m ck) ∧ (Y.alloc (.cells #[.string key, .slice a3 n3 c3, .slice a4 m3 c4] 76)).cell? ⟨b, off + k * 3, none⟩ = some (.string key) ∧ (Y.alloc (.cells #[.string key, .slice a3 n3 c3, .slice a4 m3 c4] 76)).cell? ⟨b, off + k * 3 + 1, none⟩ = some (.slice ae' n' ce') ∧ (Y.alloc (.cells #[.string key, .slice a3 n3 c3, .slice a4 m3 c4] 76)).cell? ⟨b, off + k * 3 + 2, none⟩ = some (.slice ak' m' ck') ∧ (Y.alloc (.cells #[.string key, .slice a3 n3 c3, .slice a4 m3 c4] 76)).cell? ⟨w.heap.size + 1 + 1, 1, none⟩ = some (.slice av k cv))
          refine hK.out _ _ hS4 ?_
          clear hK K hfq
          try simp only [Act.put, List.setIfInBounds_toArray, List.set_cons_zero, List.set_cons_succ]
          refine one_opG (i := 17) (by kernel_rfl) rfl (fun K hK => ?_)
          have HCY := Lib.hid ((HC.out.keep HFA.out).keep HF3.out)
          have hsY : wr.heap.size ≤ Y.heap.size := by have := HF3.out.size; have := HSZ0.out; omega
          refine step_appB (fun b => b < Y.heap.size ∧ (Value.slice av k cv).ownBlock ≠ some b) w Y [.string key, .slice a3 n3 c3, .slice a4 m3 c4] rfl (.tmp 18) (.tmp 33) 25 rfl 76 i0 _ 3 64 Tryz.underlying25 hi hz0 hz1 hz2 (by decide) (by decide) (.slice av k cv) k _ ⟨HCY.out.own.at_, fun b hb hn => hn.2 hb⟩ (fun b hb => hb.1) 1 1 (by simp [Act.eval]) (by simp [Act.eval]) rfl (by simp [Value.oneCell']) (by simp only [maxLen]; omega) (by omega) ?_
          intro ad2 cc2 w2 own2 kp2
          have hnk : ∀ b, b < wr.heap.size → (Value.slice av k cv).ownBlock ≠ some b → b < Y.heap.size ∧ (Value.slice av k cv).ownBlock ≠ some b := fun b hb hn => ⟨by omega, hn⟩
          have hwr : w.heap.size < wr.heap.size := by omega
          have hnb : (Value.slice av k cv).ownBlock ≠ some b := fun h => by have := HC.out.own.at_.new b h; omega
          have hn3 : (Value.slice av k cv).ownBlock ≠ some (w.heap.size + 1 + 1) := fun h => HC.out.own.but _ h (.inr rfl)
          have hS5 := (⟨kp2.cell (hnk _ hwr HNB.out) hS.1, kp2.cell (hnk _ (by show b < _; omega) hnb) hS.2.1, kp2.cell (hnk _ (by show b < _; omega) hnb) hS.2.2.1, kp2.cell (hnk _ (by show b < _; omega) hnb) hS.2.2.2.1, kp2.cell (hnk _ h3lt hn3) hS.2.2.2.2⟩ : w2.cell? ⟨w.heap.size, 1, none⟩ = some (.slice (some ⟨b, off, none⟩) m ck) ∧ w2.cell? ⟨b, off + k * 3, none⟩ = some (.string key) ∧ w2.cell? ⟨b, off + k * 3 + 1, none⟩ = some (.slice ae' n' ce') ∧ w2.cell? ⟨b, off + k * 3 + 2, none⟩ = some (.slice ak' m' ck') ∧ w2.cell? ⟨w.heap.size + 1 + 1, 1, none⟩ = some (.slice av k cv))
          have hS := hS5
          refine hK.out _ _ hS ?_
          clear hK K hS4
          have hcf : w2.frozen? ⟨w.heap.size + 1 + 1, 1, none⟩ = false := kp2.frozen (p := ⟨w.heap.size + 1 + 1, 1, none⟩) (hnk _ h3lt hn3) (free_at' HCY.out.b3 1)
          have hbx2 : w2.heap[w.heap.size]? = some (.cells #[.slice ae n ce, .slice (some ⟨b, off, none⟩) m ck] 27 (0, 0)) := kp2.blk (hnk _ hwr HNB.out) (HF3.out.blk (HFA.out.blk HBW.out id) id)
          have hfm : Frm (RowS (.slice av k cv)) Y w2 := ⟨own2.at_.frm.os.trans HCY.out.frm.os.symm, own2.at_.frm.tape.trans HCY.out.frm.tape.symm, own2.at_.frm.output.trans HCY.out.frm.output.symm, kp2.1, fun b hb hn => kp2.2 b ⟨hb, hn⟩⟩
          have hfr : Fresh Y (.slice av k cv) (.slice ad2 (k + 1) cc2) := fun b hb => by
            by_cases h1 : (Value.slice av k cv).ownBlock = some b
            · exact .inl h1
            · refine .inr ?_
              have := own2.but b hb
              rcases Nat.lt_or_ge b Y.heap.size with h2 | h2
              · exact absurd ⟨h2, h1⟩ this
              · exact h2
          have hnw : (Value.slice ad2 (k + 1) cc2).ownBlock ≠ some w.heap.size := fun h => by
            rcases hfr _ h with h1 | h1
            · exact HNB.out h1
            · omega
          have HNW := Lib.hid hnw
          have HB2 := Lib.hid ((set_else (w := w2) (b := w.heap.size + 1 + 1) (j := 1) (k := w.heap.size) (v := .slice ad2 (k + 1) cc2) (by omega)).trans hbx2)
          have hq3 : TreeAt (ClnQ w (w.heap.size + 1) (w.heap.size + 1 + 1) (.slice av k cv)) Y (.slice a3 n3 c3) (.slice a4 m3 c4) es' sub := HTA3.out.turn fun b hb hQ => by
            have h0 := HSZ0.out
            have h1 := HC.out.frm.size
            refine ⟨rfl, by omega, by omega, by omega, fun h => ?_⟩
            have := HVLT.out _ h
            omega
          have HSTP := Lib.hid (HCY.out.step (q := ⟨key, es', sub, .slice a3 n3 c3, .slice a4 m3 c4⟩) HDR.out hq3 own2.at_.own hfm hfr)
          clear own2 kp2 hfm hfr hq3 hnk hn3 hsY hnb hnw hbx2
          try simp only [Act.put, List.setIfInBounds_toArray, List.set_cons_zero, List.set_cons_succ]
          refine take_opG 18 35 (v := ?_) rfl rfl (by kernel_rfl) (by kernel_rfl) (by decide) (by kernel_rfl) (by kernel_rfl) (fun _ _ _ h => h) (Or.inl ⟨by rfl, ?_⟩) (by assumption) ?_
          rotate_left 1
          · (intro w hSw; (try dsimp only at hSw); go_simp; (try with_reducible rfl))
          try simp only [Act.put, List.setIfInBounds_toArray, List.set_cons_zero, List.set_cons_succ]
          refine last_opG (by kernel_rfl) (by kernel_rfl) rfl (fun K hK => ?_)
          have hcz := hS.2.2.2.2
          clear hS hS5
          go_simp
          refine hK.out _ _ ?_
          clear hK K hcz hcf
          go_wp2
          go_roundw
          case rel => exact ⟨k + 1, _, _, by omega, by go_num, HSTP.out, HB2.out, HNW.out⟩
          case measure => simp [intOf]; omega
      · obtain rfl : m = k := by omega
        have hdn := HC.out.done HN.out.symm (by rw [HM.out]; exact Nat.le_refl _)
        have HDN := Lib.hid hdn; clear hdn
        have y0 := cell_at' HC.out.b3 0 rfl
        have y1 := cell_at' HC.out.b3 1 rfl
        have z0 := cell_at' HC.out.b2 0 rfl
        have z1 := cell_at' HC.out.b2 1 rfl
        have f0 := free_at' HC.out.b2 0
        have f1 := free_at' HC.out.b2 1
        go_wp2
        clear y0 y1 z0 z1
        have y0 := cell_at' HDN.out.2.2 0 rfl
        have y1 := cell_at' HDN.out.2.2 1 rfl
        exact bodyPost_ret (v := .agg #[.slice ad n cc1, .slice av m cv]) (by simp [results, Tryz.results40, go_sem, y0, y1]) rfl ⟨_, _, rfl, HDN.out.1, HDN.out.2.1⟩
end Go.Proofs.YtclfajhdonabhaaGreat

/- tributaryref09: Clone: the walk. -/
namespace Go.Proofs.YtclfajhdonabhaaGreat
open Go.RowKit

/-- What a clone is: new memory that reads the same. -/
def Cau9Post (w : World) (es : List Ent) (ks : KidsL) (c : CtxL) (e : Ending) (w' : World) : Prop :=
  ∃ ev kv cv, e = .returned (.agg #[ev, kv, cv]) ∧ CauAt (fun b => w.heap.size ≤ b) w' ev kv cv es ks c ∧ Frm NoS w w'
set_option maxHeartbeats 4000000 in
set_option maxRecDepth 1000000 in
theorem r9Clone_ok (Q : Nat → Prop) (es : List Ent) (ks : KidsL) (c : CtxL) (w : World) (ev kv cv : Value) (h : CauAt Q w ev kv cv es ks c) (hok : CauOk es ks c) :
    Calls Tryz.prog 16 #[.agg #[ev, kv, cv]] w (Cau9Post w es ks c) := by
  obtain ⟨i0, hi, hz0, hz1, hz2⟩ := info_parts info_span
  obtain ⟨a0, c0, a1, c1, a2, c2, rfl, rfl, rfl⟩ := h.shape
  have HT := Lib.hid (fun w' (f : Frm NoS w w') => r8Clone_any Q _ es ks w' _ _ (Nat.lt_succ_self _) (h.tree.keep0 f) (Nat.le_trans hok.small (by decide)))
  have HCX := Lib.hid (fun w' (f : Frm NoS w w') => (show Rd w' (.slice a2 c.length c2) c.length (spC c) from Rd.keep0 h.ctx f))
  have hcl := hok.len
  have HSL := Lib.hid (spC_length c)
  clear h hok
  generalize hes : es.length = n at *
  generalize hkl : ks.len = m at *
  generalize hcl2 : c.length = k at *
  have HES := Lib.hid hes; clear hes
  have HKL := Lib.hid hkl; clear hkl
  have HCL := Lib.hid hcl2; clear hcl2
  have htb : ((w.alloc (.cells #[.slice a0 n c0, .slice a1 m c1, .slice a2 k c2] 31)).alloc (.cells #[.slice none 0 0, .slice none 0 0, .slice none 0 0] 31)).heap[w.heap.size + 1]? = some (.cells #[.slice none 0 0, .slice none 0 0, .slice none 0 0] 31 (0, 0)) := (two_blocks w _ _ _).1
  have HTB := Lib.hid htb; clear htb
  have hfb : Frm NoS (w.alloc (.cells #[.slice a0 n c0, .slice a1 m c1, .slice a2 k c2] 31)) ((w.alloc (.cells #[.slice a0 n c0, .slice a1 m c1, .slice a2 k c2] 31)).alloc (.cells #[.slice none 0 0, .slice none 0 0, .slice none 0 0] 31)) := Frm.alloc _ _ _
  have HBX := Lib.hid (box3 w (.slice a0 n c0) (.slice a1 m c1) (.slice a2 k c2) 31)
  have HFW := Lib.hid ((Frm.alloc NoS w (.cells #[.slice a0 n c0, .slice a1 m c1, .slice a2 k c2] 31)).then1 hfb)
  have HFB := Lib.hid hfb; clear hfb
  go_enter Tryz.func16, Tryz.ntmps16
  go_wp2_with fail
  have hS := HBX.out _ (HFB.out.then1 (Frm.drew NoS _))
  have hFY := HFW.out.then1 (Frm.drew NoS _)
  have hblk := (Frm.drew NoS _).blk HTB.out id
  refine wp_region_G (S := fun w' => w'.cell? ⟨w.heap.size, 0, none⟩ = some (.slice a0 n c0) ∧ w'.cell? ⟨w.heap.size, 1, none⟩ = some (.slice a1 m c1) ∧ w'.cell? ⟨w.heap.size, 2, none⟩ = some (.slice a2 k c2)) 8 (by kernel_rfl) hS ?_
  clear hS
  intro hS
  generalize ((w.alloc (.cells #[.slice a0 n c0, .slice a1 m c1, .slice a2 k c2] 31)).alloc (.cells #[.slice none 0 0, .slice none 0 0, .slice none 0 0] 31)).drew = Y at *
  refine take_opG 0 3 (v := ?_) rfl rfl (by kernel_rfl) (by kernel_rfl) (by decide) (by kernel_rfl) (by kernel_rfl) (fun _ _ _ h => h) (Or.inl ⟨by rfl, ?_⟩) (by assumption) ?_
  rotate_left 1
  · (intro w hSw; (try dsimp only at hSw); go_simp; (try with_reducible rfl))
  try simp only [Act.put, List.setIfInBounds_toArray, List.set_cons_zero, List.set_cons_succ]
  refine take_opG 1 4 (v := ?_) rfl rfl (by kernel_rfl) (by kernel_rfl) (by decide) (by kernel_rfl) (by kernel_rfl) (fun _ _ _ h => h) (Or.inl ⟨by rfl, ?_⟩) (by assumption) ?_
  rotate_left 1
  · (intro w hSw; (try dsimp only at hSw); go_simp; (try with_reducible rfl))
  try simp only [Act.put, List.setIfInBounds_toArray, List.set_cons_zero, List.set_cons_succ]
  refine take_opG 4 7 (v := ?_) rfl rfl (by kernel_rfl) (by kernel_rfl) (by decide) (by kernel_rfl) (by kernel_rfl) (fun _ _ _ h => h) (Or.inl ⟨by rfl, ?_⟩) (by assumption) ?_
  rotate_left 1
  · (intro w hSw; (try dsimp only at hSw); go_simp; (try with_reducible rfl))
  try simp only [Act.put, List.setIfInBounds_toArray, List.set_cons_zero, List.set_cons_succ]
  refine take_opG 5 8 (v := ?_) rfl rfl (by kernel_rfl) (by kernel_rfl) (by decide) (by kernel_rfl) (by kernel_rfl) (fun _ _ _ h => h) (Or.inl ⟨by rfl, ?_⟩) (by assumption) ?_
  rotate_left 1
  · (intro w hSw; (try dsimp only at hSw); go_simp; (try with_reducible rfl))
  try simp only [Act.put, List.setIfInBounds_toArray, List.set_cons_zero, List.set_cons_succ]
  refine two_opG (i := 2) (j := 3) (by kernel_rfl) rfl rfl (fun K hK => ?_) (fun K hK => ?_)
  · go_simp
    refine (HT.out _ hFY).mono ?_
    rintro e Y1 ⟨ev3, kv3, rfl, hta, hf⟩
    obtain ⟨a3, c3, rfl⟩ := hta.ents.rd.sl
    obtain ⟨os3, hkr3, -⟩ := hta.kids
    obtain ⟨a4, c4, rfl⟩ := hkr3.rd.sl
    clear hkr3
    have hlb := lt_of_block hblk
    have hS := (⟨hf.cell' hS.1 id, hf.cell' hS.2.1 id, hf.cell' hS.2.2 id⟩ : Y1.cell? ⟨w.heap.size, 0, none⟩ = some (.slice a0 n c0) ∧ Y1.cell? ⟨w.heap.size, 1, none⟩ = some (.slice a1 m c1) ∧ Y1.cell? ⟨w.heap.size, 2, none⟩ = some (.slice a2 k c2))
    have hFY := hFY.then1 hf
    have hblk := hf.blk hblk id
    (try have hTA : TreeAt (fun b => w.heap.size + 1 < b ∧ b ≠ eb) Y1 (.slice a3 es.length c3) (.slice a4 ks.len c4) es ks := hta.turn fun b hb hQ => ⟨rfl, by omega, by omega⟩)
    (try have hE := hE.keep hf)
    refine hK.out _ _ hS ?_
    clear hK K hf
    generalize Y1 = Y at *
    try simp only [Act.put, List.setIfInBounds_toArray, List.set_cons_zero, List.set_cons_succ]
    refine one_opG (i := 3) (by kernel_rfl) rfl (fun K hK => ?_)
    go_simp
    have hf : Frm NoS Y (Y.alloc (.cells #[] 61)) := Frm.alloc _ _ _
    have hE : OwnAt w (Y.alloc (.cells #[] 61)) 61 3 (.slice (some ⟨Y.heap.size, 0, none⟩) 0 0) 0 [] := OwnAt.empty hFY _ _
    have hS := (⟨hf.cell' hS.1 id, hf.cell' hS.2.1 id, hf.cell' hS.2.2 id⟩ : (Y.alloc (.cells #[] 61)).cell? ⟨w.heap.size, 0, none⟩ = some (.slice a0 n c0) ∧ (Y.alloc (.cells #[] 61)).cell? ⟨w.heap.size, 1, none⟩ = some (.slice a1 m c1) ∧ (Y.alloc (.cells #[] 61)).cell? ⟨w.heap.size, 2, none⟩ = some (.slice a2 k c2))
    have hFY := hFY.then1 hf
    have hlb2 := lt_of_block hblk
    have hblk := hf.blk hblk id
    obtain ⟨eb, heb⟩ : ∃ eb, Y.heap.size = eb := ⟨_, rfl⟩
    have hge : w.heap.size + 1 < eb := by omega
    have hle : eb < (Y.alloc (.cells #[] 61)).heap.size := by rw [← heb]; simp
    (try have hTA : TreeAt (fun b => w.heap.size + 1 < b ∧ b ≠ eb) (Y.alloc (.cells #[] 61)) (.slice a3 es.length c3) (.slice a4 ks.len c4) es ks := hta.turn fun b hb hQ => ⟨Below.heap_alloc _ _ _ hb, by omega, by omega⟩)
    rw [heb] at hE ⊢
    refine hK.out _ _ hS ?_
    clear hK K hf heb
    generalize Y.alloc (.cells #[] 61) = Y at *
    try simp only [Act.put, List.setIfInBounds_toArray, List.set_cons_zero, List.set_cons_succ]
    refine one_opG (i := 6) (by kernel_rfl) rfl (fun K hK => ?_)
    refine step_appR w Y (spC c) rfl (.tmp 6) (.tmp 8) 29 29 rfl 61 61 i0 _ 3 24 Tryz.underlying29 Tryz.underlying29 hi hz0 hz1 hz2 (by decide) (by decide) _ 0 [] hE _ k (by simp [Act.eval]) (by simp [Act.eval]) (HCX.out _ hFY) (by rw [HSL.out]) (spC_oneCell _) (by simp only [maxLen]; omega) (by omega) ?_
    intro ad cc Y2 hO fm fr
    rw [Nat.zero_add, List.nil_append] at hO
    rw [Nat.zero_add]
    have hno : ∀ b, b ≠ eb → ¬ RowS (.slice (some ⟨eb, 0, none⟩) 0 0) b := fun b hb h => by simp [RowS, Value.ownBlock] at h; exact hb h.symm
    have hS := (⟨fm.cell' hS.1 (hno _ (by show w.heap.size ≠ eb; omega)), fm.cell' hS.2.1 (hno _ (by show w.heap.size ≠ eb; omega)), fm.cell' hS.2.2 (hno _ (by show w.heap.size ≠ eb; omega))⟩ : Y2.cell? ⟨w.heap.size, 0, none⟩ = some (.slice a0 n c0) ∧ Y2.cell? ⟨w.heap.size, 1, none⟩ = some (.slice a1 m c1) ∧ Y2.cell? ⟨w.heap.size, 2, none⟩ = some (.slice a2 k c2))
    have hlb3 := lt_of_block hblk
    have hblk2 := fm.blk hblk (hno _ (by omega))
    have hTA2 := hTA.turn (w' := Y2) (Q' := fun b => w.heap.size + 1 < b) fun b hb hQ => ⟨fm.block b hb (hno b hQ.2), hQ.1⟩
    have hfr2 : ∀ b, (Value.slice ad k cc).ownBlock = some b → w.heap.size + 1 < b := fun b hb => by
      have fr := fr b (by rw [Nat.zero_add]; exact hb)
      rcases fr with h1 | h1
      · simp [Value.ownBlock] at h1; omega
      · omega
    refine hK.out _ _ hS ?_
    clear hK K fm fr hE hTA hblk hFY
    have HO := Lib.hid hO; clear hO
    have HTA := Lib.hid hTA2; clear hTA2
    have HBL := Lib.hid hblk2; clear hblk2
    have HFR := Lib.hid hfr2; clear hfr2
    try simp only [Act.put, List.setIfInBounds_toArray, List.set_cons_zero, List.set_cons_succ]
    refine take_opG 7 10 (v := ?_) rfl rfl (by kernel_rfl) (by kernel_rfl) (by decide) (by kernel_rfl) (by kernel_rfl) (fun _ _ _ h => h) (Or.inl ⟨by rfl, ?_⟩) (by assumption) ?_
    rotate_left 1
    · (intro w hSw; (try dsimp only at hSw); go_simp; (try with_reducible rfl))
    try simp only [Act.put, List.setIfInBounds_toArray, List.set_cons_zero, List.set_cons_succ]
    refine last_opG (by kernel_rfl) (by kernel_rfl) rfl (fun K hK => ?_)
    have hblk := HBL.out
    have HR3 := Lib.hid (res3 hblk HO.out.frm (by omega) (.slice a3 es.length c3) (.slice a4 ks.len c4) (.slice ad k cc))
    have HP := Lib.hid (HTA.out.turn (Q' := fun b => w.heap.size ≤ b) fun b hb hQ => ⟨HR3.out.2.2 b (by omega), by omega⟩)
    have HQ := Lib.hid ((⟨HO.out.rd, fun _ => HFR.out⟩ : RdQ (fun b => w.heap.size + 1 < b) Y2 (.slice ad k cc) k (spC c)).turn (Q' := fun b => w.heap.size ≤ b) fun b hb hQ => ⟨HR3.out.2.2 b (by omega), by omega⟩)
    have y0 := cell_at' hblk 0 rfl
    have y1 := cell_at' hblk 1 rfl
    have y2 := cell_at' hblk 2 rfl
    have g0 := free_at' hblk 0
    have g1 := free_at' hblk 1
    have g2 := free_at' hblk 2
    clear hS hblk
    go_simp
    refine hK.out _ _ ?_
    clear hK K y0 y1 y2 g0 g1 g2
    go_wp2
    have y0 := cell_at' HR3.out.1 0 rfl
    have y1 := cell_at' HR3.out.1 1 rfl
    have y2 := cell_at' HR3.out.1 2 rfl
    exact bodyPost_ret (v := .agg #[.slice a3 es.length c3, .slice a4 ks.len c4, .slice ad k cc]) (by simp [results, Tryz.results16, go_sem, y0, y1, y2]) rfl ⟨_, _, _, rfl, ⟨HP.out, by have := HQ.out.rd; unfold CtxAt; rw [HCL.out]; exact this⟩, HR3.out.2.1⟩
  · go_simp
    have hf : Frm NoS Y (Y.alloc (.cells #[] 61)) := Frm.alloc _ _ _
    have hE : OwnAt w (Y.alloc (.cells #[] 61)) 61 3 (.slice (some ⟨Y.heap.size, 0, none⟩) 0 0) 0 [] := OwnAt.empty hFY _ _
    have hS := (⟨hf.cell' hS.1 id, hf.cell' hS.2.1 id, hf.cell' hS.2.2 id⟩ : (Y.alloc (.cells #[] 61)).cell? ⟨w.heap.size, 0, none⟩ = some (.slice a0 n c0) ∧ (Y.alloc (.cells #[] 61)).cell? ⟨w.heap.size, 1, none⟩ = some (.slice a1 m c1) ∧ (Y.alloc (.cells #[] 61)).cell? ⟨w.heap.size, 2, none⟩ = some (.slice a2 k c2))
    have hFY := hFY.then1 hf
    have hlb2 := lt_of_block hblk
    have hblk := hf.blk hblk id
    obtain ⟨eb, heb⟩ : ∃ eb, Y.heap.size = eb := ⟨_, rfl⟩
    have hge : w.heap.size + 1 < eb := by omega
    have hle : eb < (Y.alloc (.cells #[] 61)).heap.size := by rw [← heb]; simp
    (try have hTA : TreeAt (fun b => w.heap.size + 1 < b ∧ b ≠ eb) (Y.alloc (.cells #[] 61)) (.slice a3 es.length c3) (.slice a4 ks.len c4) es ks := hta.turn fun b hb hQ => ⟨Below.heap_alloc _ _ _ hb, by omega, by omega⟩)
    rw [heb] at hE ⊢
    refine hK.out _ _ hS ?_
    clear hK K hf heb
    generalize Y.alloc (.cells #[] 61) = Y at *
    try simp only [Act.put, List.setIfInBounds_toArray, List.set_cons_zero, List.set_cons_succ]
    refine one_opG (i := 2) (by kernel_rfl) rfl (fun K hK => ?_)
    go_simp
    refine (HT.out _ hFY).mono ?_
    rintro e Y1 ⟨ev3, kv3, rfl, hta, hf⟩
    obtain ⟨a3, c3, rfl⟩ := hta.ents.rd.sl
    obtain ⟨os3, hkr3, -⟩ := hta.kids
    obtain ⟨a4, c4, rfl⟩ := hkr3.rd.sl
    clear hkr3
    have hlb := lt_of_block hblk
    have hS := (⟨hf.cell' hS.1 id, hf.cell' hS.2.1 id, hf.cell' hS.2.2 id⟩ : Y1.cell? ⟨w.heap.size, 0, none⟩ = some (.slice a0 n c0) ∧ Y1.cell? ⟨w.heap.size, 1, none⟩ = some (.slice a1 m c1) ∧ Y1.cell? ⟨w.heap.size, 2, none⟩ = some (.slice a2 k c2))
    have hFY := hFY.then1 hf
    have hblk := hf.blk hblk id
    (try have hTA : TreeAt (fun b => w.heap.size + 1 < b ∧ b ≠ eb) Y1 (.slice a3 es.length c3) (.slice a4 ks.len c4) es ks := hta.turn fun b hb hQ => ⟨rfl, by omega, by omega⟩)
    (try have hE := hE.keep hf)
    refine hK.out _ _ hS ?_
    clear hK K hf
    generalize Y1 = Y at *
    try simp only [Act.put, List.setIfInBounds_toArray, List.set_cons_zero, List.set_cons_succ]
    refine one_opG (i := 6) (by kernel_rfl) rfl (fun K hK => ?_)
    refine step_appR w Y (spC c) rfl (.tmp 6) (.tmp 8) 29 29 rfl 61 61 i0 _ 3 24 Tryz.underlying29 Tryz.underlying29 hi hz0 hz1 hz2 (by decide) (by decide) _ 0 [] hE _ k (by simp [Act.eval]) (by simp [Act.eval]) (HCX.out _ hFY) (by rw [HSL.out]) (spC_oneCell _) (by simp only [maxLen]; omega) (by omega) ?_
    intro ad cc Y2 hO fm fr
    rw [Nat.zero_add, List.nil_append] at hO
    rw [Nat.zero_add]
    have hno : ∀ b, b ≠ eb → ¬ RowS (.slice (some ⟨eb, 0, none⟩) 0 0) b := fun b hb h => by simp [RowS, Value.ownBlock] at h; exact hb h.symm
    have hS := (⟨fm.cell' hS.1 (hno _ (by show w.heap.size ≠ eb; omega)), fm.cell' hS.2.1 (hno _ (by show w.heap.size ≠ eb; omega)), fm.cell' hS.2.2 (hno _ (by show w.heap.size ≠ eb; omega))⟩ : Y2.cell? ⟨w.heap.size, 0, none⟩ = some (.slice a0 n c0) ∧ Y2.cell? ⟨w.heap.size, 1, none⟩ = some (.slice a1 m c1) ∧ Y2.cell? ⟨w.heap.size, 2, none⟩ = some (.slice a2 k c2))
    have hlb3 := lt_of_block hblk
    have hblk2 := fm.blk hblk (hno _ (by omega))
    have hTA2 := hTA.turn (w' := Y2) (Q' := fun b => w.heap.size + 1 < b) fun b hb hQ => ⟨fm.block b hb (hno b hQ.2), hQ.1⟩
    have hfr2 : ∀ b, (Value.slice ad k cc).ownBlock = some b → w.heap.size + 1 < b := fun b hb => by
      have fr := fr b (by rw [Nat.zero_add]; exact hb)
      rcases fr with h1 | h1
      · simp [Value.ownBlock] at h1; omega
      · omega
    refine hK.out _ _ hS ?_
    clear hK K fm fr hE hTA hblk hFY
    have HO := Lib.hid hO; clear hO
    have HTA := Lib.hid hTA2; clear hTA2
    have HBL := Lib.hid hblk2; clear hblk2
    have HFR := Lib.hid hfr2; clear hfr2
    try simp only [Act.put, List.setIfInBounds_toArray, List.set_cons_zero, List.set_cons_succ]
    refine take_opG 7 10 (v := ?_) rfl rfl (by kernel_rfl) (by kernel_rfl) (by decide) (by kernel_rfl) (by kernel_rfl) (fun _ _ _ h => h) (Or.inl ⟨by rfl, ?_⟩) (by assumption) ?_
    rotate_left 1
    · (intro w hSw; (try dsimp only at hSw); go_simp; (try with_reducible rfl))
    try simp only [Act.put, List.setIfInBounds_toArray, List.set_cons_zero, List.set_cons_succ]
    refine last_opG (by kernel_rfl) (by kernel_rfl) rfl (fun K hK => ?_)
    have hblk := HBL.out
    have HR3 := Lib.hid (res3 hblk HO.out.frm (by omega) (.slice a3 es.length c3) (.slice a4 ks.len c4) (.slice ad k cc))
    have HP := Lib.hid (HTA.out.turn (Q' := fun b => w.heap.size ≤ b) fun b hb hQ => ⟨HR3.out.2.2 b (by omega), by omega⟩)
    have HQ := Lib.hid ((⟨HO.out.rd, fun _ => HFR.out⟩ : RdQ (fun b => w.heap.size + 1 < b) Y2 (.slice ad k cc) k (spC c)).turn (Q' := fun b => w.heap.size ≤ b) fun b hb hQ => ⟨HR3.out.2.2 b (by omega), by omega⟩)
    have y0 := cell_at' hblk 0 rfl
    have y1 := cell_at' hblk 1 rfl
    have y2 := cell_at' hblk 2 rfl
    have g0 := free_at' hblk 0
    have g1 := free_at' hblk 1
    have g2 := free_at' hblk 2
    clear hS hblk
    go_simp
    refine hK.out _ _ ?_
    clear hK K y0 y1 y2 g0 g1 g2
    go_wp2
    have y0 := cell_at' HR3.out.1 0 rfl
    have y1 := cell_at' HR3.out.1 1 rfl
    have y2 := cell_at' HR3.out.1 2 rfl
    exact bodyPost_ret (v := .agg #[.slice a3 es.length c3, .slice a4 ks.len c4, .slice ad k cc]) (by simp [results, Tryz.results16, go_sem, y0, y1, y2]) rfl ⟨_, _, _, rfl, ⟨HP.out, by have := HQ.out.rd; unfold CtxAt; rw [HCL.out]; exact this⟩, HR3.out.2.1⟩
end Go.Proofs.YtclfajhdonabhaaGreat

/- Memory that turns, kind by kind: a tree stays a tree of the same shape. -/
namespace Go.Proofs.YtclfajhdonabhaaGreat
open Go.RowKit Go.WideShapes

/-- A value of the same kind: an int for an int, a text for a text; else the same. -/
def KindLike (u u' : Value) : Prop := u' = u ∨ (∃ a b, u = .int .i64 a ∧ u' = .int .i64 b) ∨ ∃ s t, u = .string s ∧ u' = .string t
theorem KindLike.trans {u v x : Value} (h : KindLike u v) (k : KindLike v x) : KindLike u x := by
  rcases h with rfl | ⟨a, b, rfl, rfl⟩ | ⟨s, t, rfl, rfl⟩
  · exact k
  · rcases k with rfl | ⟨a', b', h1, rfl⟩ | ⟨s, t, h1, _⟩
    · exact .inr (.inl ⟨a, b, rfl, rfl⟩)
    · exact .inr (.inl ⟨a, b', rfl, rfl⟩)
    · cases h1
  · rcases k with rfl | ⟨a', b', h1, _⟩ | ⟨s', t', h1, rfl⟩
    · exact .inr (.inr ⟨s, t, rfl, rfl⟩)
    · cases h1
    · exact .inr (.inr ⟨s, t', rfl, rfl⟩)
/-- Only blocks with P have turned, each cell to one of its kind; what may be written may be so still. -/
structure Kin (P : Nat → Prop) (w w' : World) : Prop where
  frm : Frm P w w'
  cell : ∀ (b j : Nat) u, w.cell? ⟨b, j, none⟩ = some u → ∃ u', w'.cell? ⟨b, j, none⟩ = some u' ∧ KindLike u u'
  free : ∀ b, b < w.heap.size → Free w b → Free w' b
theorem Kin.refl (P : Nat → Prop) (w : World) : Kin P w w := ⟨Frm.refl _ _, fun _ _ u h => ⟨u, h, .inl rfl⟩, fun _ _ h => h⟩
theorem Kin.trans {P : Nat → Prop} {a b c : World} (h : Kin P a b) (k : Kin P b c) : Kin P a c :=
  ⟨h.frm.trans k.frm fun _ _ h => h, fun x j u hu => by
    obtain ⟨u1, h1, h2⟩ := h.cell x j u hu
    obtain ⟨u2, h3, h4⟩ := k.cell x j u1 h1
    exact ⟨u2, h3, h2.trans h4⟩, fun x hx hf => k.free x (Nat.lt_of_lt_of_le hx h.frm.size) (h.free x hx hf)⟩
theorem Kin.of_frm {P : Nat → Prop} {w w' : World} (f : Frm NoS w w') : Kin P w w' :=
  ⟨f.mono fun _ _ h => h.elim, fun b j u hu => ⟨u, f.cell' hu id, .inl rfl⟩, fun b hb hf => Free.of (f.block b hb id) hf⟩
theorem block_of_cell {w : World} {b j : Nat} {u : Value} (h : w.cell? ⟨b, j, none⟩ = some u) : ∃ cs T f, w.heap[b]? = some (.cells cs T f) ∧ cs[j]? = some u := by
  unfold World.cell? at h
  split at h
  · rename_i cs T f hb
    exact ⟨cs, T, f, hb, by simpa using h⟩
  · cases h
theorem Kin.set {P : Nat → Prop} {w : World} {b j : Nat} {u u' : Value} (hp : P b) (hu : w.cell? ⟨b, j, none⟩ = some u) (hk : KindLike u u') : Kin P w (w.setCell ⟨b, j, none⟩ u') := by
  obtain ⟨cs, T, f, hb, hj⟩ := block_of_cell hu
  have hs := set_at' hb j u'
  have hlt : j < cs.size := (Array.getElem?_eq_some_iff.1 hj).1
  refine ⟨Frm.setCell w (.inl hp) u', fun x i v hv => ?_, fun x hx hf k => ?_⟩
  · by_cases hx : x = b
    · subst hx
      obtain ⟨cs2, T2, f2, hb2, hi2⟩ := block_of_cell hv
      rw [hb] at hb2
      cases hb2
      by_cases hi : j = i
      · subst hi
        rw [hj] at hi2
        cases hi2
        exact ⟨u', cell_at' hs j (by simp [Array.getElem?_setIfInBounds, hlt]), hk⟩
      · exact ⟨v, cell_at' hs i (by rw [Array.getElem?_setIfInBounds, if_neg hi]; exact hi2), .inl rfl⟩
    · exact ⟨v, by rw [World.cell?_of_block (w := w) (a := ⟨x, i, none⟩) (Below.heap_setCell _ _ _ _ hx)]; exact hv, .inl rfl⟩
  · by_cases hx : x = b
    · subst hx
      have := hf k
      simp only [World.frozen?, hb] at this
      simp only [World.frozen?, hs]
      exact this
    · exact (World.frozen?_of_block (w := w) (a := ⟨x, k, none⟩) (Below.heap_setCell _ _ _ _ hx)).trans (hf k)
/-- The entries read as others, as many. -/
theorem ents_kin {P : Nat → Prop} {w w' : World} (k : Kin P w w') {v : Value} {es : List Ent} (h : RdQ (fun b => P b ∧ Free w b) w v es.length (entC es)) : ∃ es' : List Ent, es'.length = es.length ∧ RdQ (fun b => P b ∧ Free w' b) w' v es'.length (entC es') := by
  rcases h.rd with ⟨ad, hv, h0, _⟩ | ⟨b, off, c, rfl, h1, h2, hc⟩
  · exact ⟨[], h0.symm, .inl ⟨ad, hv, rfl, rfl⟩, fun hx => absurd rfl hx⟩
  · have hx : ∀ i, i < es.length → ∃ e : Ent, ∀ j u, e.cells[j]? = some u → w'.cell? ⟨b, off + i * 4 + j, none⟩ = some u := fun i hi => by
      obtain ⟨p0, p1, p2, p3⟩ := ent_at h.rd i hi
      obtain ⟨x0, q0, l0⟩ := k.cell _ _ _ p0
      obtain ⟨x1, q1, l1⟩ := k.cell _ _ _ p1
      obtain ⟨x2, q2, l2⟩ := k.cell _ _ _ p2
      obtain ⟨x3, q3, l3⟩ := k.cell _ _ _ p3
      have hi0 : ∀ {a : Int} {x : Value}, KindLike (.int .i64 a) x → ∃ a', x = .int .i64 a' := fun hl => by
        rcases hl with rfl | ⟨_, b', _, rfl⟩ | ⟨_, _, h, _⟩
        · exact ⟨_, rfl⟩
        · exact ⟨b', rfl⟩
        · cases h
      have hs0 : ∀ {a : ByteArray} {x : Value}, KindLike (.string a) x → ∃ a', x = .string a' := fun hl => by
        rcases hl with rfl | ⟨_, _, h, _⟩ | ⟨_, t, _, rfl⟩
        · exact ⟨_, rfl⟩
        · cases h
        · exact ⟨t, rfl⟩
      obtain ⟨y0, rfl⟩ := hi0 l0
      obtain ⟨y1, rfl⟩ := hi0 l1
      obtain ⟨y2, rfl⟩ := hs0 l2
      obtain ⟨y3, rfl⟩ := hi0 l3
      refine ⟨⟨y0, y1, y2, y3⟩, fun j u hu => ?_⟩
      match j, hu with
      | 0, hu => cases hu; exact q0
      | 1, hu => cases hu; exact q1
      | 2, hu => cases hu; exact q2
      | 3, hu => cases hu; exact q3
    obtain ⟨l, hl, hlp⟩ := list_of_lt hx
    have hrd : Rd w' (.slice (some ⟨b, off, none⟩) es.length c) es.length (entC l) := .inr ⟨b, off, c, rfl, h1, h2, fun j u hu => by
      obtain ⟨g1, g2⟩ := entC_get l j u hu
      have := hlp (j / 4) (by omega) Ent.zero (j % 4) u g2
      rwa [split_at] at this⟩
    refine ⟨l, hl, by rw [hl]; exact hrd, fun hx b' hb' => ?_⟩
    have hne : entC es ≠ [] := fun e => hx (by
      have h3 := entC_length l
      have h4 := congrArg List.length e
      rw [entC_length] at h4
      exact List.eq_nil_of_length_eq_zero (by simp at h4; omega))
    obtain ⟨hp, hfr⟩ := h.q hne b' hb'
    refine ⟨hp, k.free b' ?_ hfr⟩
    simp [Value.ownBlock] at hb'
    subst hb'
    have hpos := List.length_pos_iff.2 hne
    exact World.block_lt_of_cell? _ _ (hc 0 _ (List.getElem?_eq_getElem hpos))
/-- Kids' cells with other keys. -/
def reC : (Nat → ByteArray) → KidsL → List (Value × Value) → List Value
  | keys, .cons _ _ _ rest, o :: outs => .string (keys 0) :: o.1 :: o.2 :: reC (fun i => keys (i + 1)) rest outs
  | _, _, _ => []
theorem for_slices {Q : Nat → Prop} {w : World} : ∀ {ks : KidsL} {os : List (Value × Value)}, ForAt Q w ks os → ∀ o ∈ os, (∃ a n c, o.1 = .slice a n c) ∧ ∃ a n c, o.2 = .slice a n c
  | .nil, _, h => by cases h; intro o ho; cases ho
  | .cons _ es sub rest, _, ⟨ev, kv, outs', os2, he, h1, h2, _, h4⟩ => by
    subst he
    intro o ho
    rcases List.mem_cons.1 ho with rfl | ho
    · obtain ⟨a, c, h⟩ := h1.rd.sl
      obtain ⟨a', c', h'⟩ := h2.rd.sl
      exact ⟨⟨a, _, c, h⟩, a', _, c', h'⟩
    · exact for_slices h4 o ho
/-- Kids' cells behind what has turned kind by kind: other keys, else the same. -/
theorem reC_get : ∀ (ks : KidsL) (os : List (Value × Value)) (keys : Nat → ByteArray), os.length = ks.len → (∀ o ∈ os, (∃ a n c, o.1 = .slice a n c) ∧ ∃ a n c, o.2 = .slice a n c) → ∀ (j : Nat) (u : Value), (reC keys ks os)[j]? = some u →
    (∃ i s, i < ks.len ∧ j = i * 3 ∧ u = .string (keys i) ∧ (kidC ks os)[j]? = some (.string s)) ∨ ((kidC ks os)[j]? = some u ∧ ∃ a n c, u = .slice a n c)
  | .nil, os, keys, _, _, j, u, h => by simp [reC] at h
  | .cons key es sub rest, [], keys, hl, _, j, u, h => by simp [KidsL.len] at hl
  | .cons key es sub rest, o :: outs, keys, hl, hs, j, u, h => by
    have hkc : kidC (.cons key es sub rest) (o :: outs) = .string key :: o.1 :: o.2 :: kidC rest outs := rfl
    have hrc : reC keys (.cons key es sub rest) (o :: outs) = .string (keys 0) :: o.1 :: o.2 :: reC (fun i => keys (i + 1)) rest outs := rfl
    rw [hrc] at h
    rw [hkc]
    match j, h with
    | 0, h => cases h; exact .inl ⟨0, key, by simp [KidsL.len], rfl, rfl, rfl⟩
    | 1, h => cases h; exact .inr ⟨rfl, (hs o List.mem_cons_self).1⟩
    | 2, h => cases h; exact .inr ⟨rfl, (hs o List.mem_cons_self).2⟩
    | j + 3, h =>
      rcases reC_get rest outs (fun i => keys (i + 1)) (by simp [KidsL.len] at hl; exact hl) (fun x hx => hs x (List.mem_cons_of_mem _ hx)) j u h with ⟨i, s, h1, h2, h3, h4⟩ | h1
      · exact .inl ⟨i + 1, s, by simp [KidsL.len]; omega, by omega, h3, h4⟩
      · exact .inr h1
theorem for_len {Q : Nat → Prop} {w : World} : ∀ {ks : KidsL} {os : List (Value × Value)}, ForAt Q w ks os → os.length = ks.len
  | .nil, _, h => by cases h; rfl
  | .cons _ _ _ _, _, ⟨ev, kv, outs', os2, he, _, _, _, h4⟩ => by subst he; simp [KidsL.len, for_len h4]
theorem reC_length : ∀ (ks : KidsL) (os : List (Value × Value)) (keys : Nat → ByteArray), os.length = ks.len → (reC keys ks os).length = ks.len * 3
  | .nil, os, keys, h => by simp [reC, KidsL.len]
  | .cons _ _ _ rest, [], keys, h => by simp [KidsL.len] at h
  | .cons _ _ _ rest, o :: outs, keys, h => by
    have := reC_length rest outs (fun i => keys (i + 1)) (by simpa [KidsL.len] using h)
    simp only [reC, List.length_cons, this, KidsL.len]; omega
theorem kids_kin {P : Nat → Prop} {w w' : World} (k : Kin P w w') {v : Value} {ks : KidsL} {os : List (Value × Value)} (hf : ForAt (fun b => P b ∧ Free w b) w ks os) (h : RdQ (fun b => P b ∧ Free w b) w v ks.len (kidC ks os)) :
    ∃ keys, RdQ (fun b => P b ∧ Free w' b) w' v ks.len (reC keys ks os) := by
  have hl := for_len hf
  rcases h.rd with ⟨ad, hv, h0, h3⟩ | ⟨b, off, c, rfl, h1, h2, hc⟩
  · refine ⟨fun _ => ByteArray.empty, .inl ⟨ad, hv, h0, ?_⟩, fun hx => absurd ?_ hx⟩ <;> exact List.eq_nil_of_length_eq_zero (by rw [reC_length ks os _ hl, h0])
  · have hx : ∀ i, ∃ t : ByteArray, ∀ s, (kidC ks os)[i * 3]? = some (.string s) → w'.cell? ⟨b, off + i * 3, none⟩ = some (.string t) := fun i => by
      by_cases hs : ∃ s, (kidC ks os)[i * 3]? = some (.string s)
      · obtain ⟨s, hs⟩ := hs
        obtain ⟨x, hx, hlk⟩ := k.cell _ _ _ (hc _ _ hs)
        rcases hlk with rfl | ⟨_, _, h, _⟩ | ⟨_, t, _, rfl⟩
        · exact ⟨s, fun _ _ => hx⟩
        · cases h
        · exact ⟨t, fun _ _ => hx⟩
      · exact ⟨ByteArray.empty, fun s h => absurd ⟨s, h⟩ hs⟩
    refine ⟨fun i => Classical.choose (hx i), .inr ⟨b, off, c, rfl, h1, h2, fun j u hu => ?_⟩, fun hne b' hb' => ?_⟩
    · rcases reC_get ks os _ hl (for_slices hf) j u hu with ⟨i, s, hi, rfl, rfl, hs⟩ | ⟨hu2, a, n, c', rfl⟩
      · exact Classical.choose_spec (hx i) s hs
      · obtain ⟨x, hx2, hlk⟩ := k.cell _ _ _ (hc _ _ hu2)
        rcases hlk with rfl | ⟨_, _, h, _⟩ | ⟨_, _, h, _⟩
        · exact hx2
        · cases h
        · cases h
    · have hpos : 0 < (kidC ks os).length := by
        have h3 := List.length_pos_iff.2 hne
        rw [reC_length ks os _ hl] at h3
        rw [hf.length]; exact h3
      have hne2 : kidC ks os ≠ [] := List.ne_nil_of_length_pos hpos
      obtain ⟨hp, hfr⟩ := h.q hne2 b' hb'
      refine ⟨hp, k.free b' ?_ hfr⟩
      simp [Value.ownBlock] at hb'
      subst hb'
      exact World.block_lt_of_cell? _ _ (hc 0 _ (List.getElem?_eq_getElem hpos))
theorem for_kin {P : Nat → Prop} {w w' : World} (k : Kin P w w') : ∀ (ks : KidsL) (os : List (Value × Value)), ForAt (fun b => P b ∧ Free w b) w ks os → ∀ keys : Nat → ByteArray,
    ∃ ks' : KidsL, ks'.len = ks.len ∧ sizeK ks' = sizeK ks ∧ ForAt (fun b => P b ∧ Free w' b) w' ks' os ∧ kidC ks' os = reC keys ks os
  | .nil, os, h, keys => by cases h; exact ⟨.nil, rfl, rfl, rfl, rfl⟩
  | .cons key es sub rest, _, ⟨ev, kv, outs', os2, he, h1, h2, h3, h4⟩, keys => by
    subst he
    obtain ⟨es', hl, hes⟩ := ents_kin k h1
    obtain ⟨kf, hk⟩ := kids_kin k h3 h2
    obtain ⟨sub', a1, a2, a3, a4⟩ := for_kin k sub os2 h3 kf
    obtain ⟨rest', b1, b2, b3, b4⟩ := for_kin k rest outs' h4 fun i => keys (i + 1)
    refine ⟨.cons (keys 0) es' sub' rest', by simp [KidsL.len, b1], by simp [sizeK, hl, a2, b2], ⟨ev, kv, outs', os2, rfl, hes, ?_, a3, b3⟩, ?_⟩
    · rw [a4, a1]; exact hk
    · show _ :: _ :: _ :: kidC rest' outs' = _ :: _ :: _ :: reC _ rest outs'
      rw [b4]
/-- A tree stays a tree of the same shape. -/
theorem tree_kin {P : Nat → Prop} {w w' : World} (k : Kin P w w') {ev kv : Value} {es : List Ent} {ks : KidsL} (h : TreeAt (fun b => P b ∧ Free w b) w ev kv es ks) :
    ∃ es' ks', es'.length = es.length ∧ ks'.len = ks.len ∧ sizeK ks' = sizeK ks ∧ TreeAt (fun b => P b ∧ Free w' b) w' ev kv es' ks' := by
  obtain ⟨es', h1, h2⟩ := ents_kin k h.ents
  obtain ⟨os, h3, h4⟩ := h.kids
  obtain ⟨kf, h5⟩ := kids_kin k h4 h3
  obtain ⟨ks', a1, a2, a3, a4⟩ := for_kin k ks os h4 kf
  exact ⟨es', ks', h1, a1, a2, h2, os, by rw [a4, a1]; exact h5, a3⟩
end Go.Proofs.YtclfajhdonabhaaGreat

/- tributaryref08: Scribble: the walk. -/
namespace Go.Proofs.YtclfajhdonabhaaGreat
open Go.RowKit

abbrev scribT : ByteArray := ⟨#[115, 99, 114, 105, 98, 98, 108, 101]⟩
theorem like_int {a b : Int} {x : Value} (h : KindLike (.int .i64 a) x) : KindLike x (.int .i64 b) := by
  rcases h with rfl | ⟨_, b', _, rfl⟩ | ⟨_, _, h, _⟩
  · exact .inr (.inl ⟨_, _, rfl, rfl⟩)
  · exact .inr (.inl ⟨_, _, rfl, rfl⟩)
  · cases h
theorem like_str {s t : ByteArray} {x : Value} (h : KindLike (.string s) x) : KindLike x (.string t) := by
  rcases h with rfl | ⟨_, _, h, _⟩ | ⟨_, t', _, rfl⟩
  · exact .inr (.inr ⟨_, _, rfl, rfl⟩)
  · cases h
  · exact .inr (.inr ⟨_, _, rfl, rfl⟩)
theorem like_slice {a : Option Addr} {n c : Nat} {x : Value} (h : KindLike (.slice a n c) x) : x = .slice a n c := by
  rcases h with rfl | ⟨_, _, h, _⟩ | ⟨_, _, h, _⟩
  · rfl
  · cases h
  · cases h
theorem Kin.slice {P : Nat → Prop} {w w' : World} (k : Kin P w w') {b j : Nat} {a : Option Addr} {n c : Nat} (h : w.cell? ⟨b, j, none⟩ = some (.slice a n c)) : w'.cell? ⟨b, j, none⟩ = some (.slice a n c) := by
  obtain ⟨x, hx, hl⟩ := k.cell b j _ h
  rw [hx, like_slice hl]
/-- An entry is written. -/
theorem Kin.ent {P : Nat → Prop} {w : World} {b j : Nat} {x0 x1 x3 : Int} {x2 : ByteArray} (hp : P b) (c0 : w.cell? ⟨b, j, none⟩ = some (.int .i64 x0)) (c1 : w.cell? ⟨b, j + 1, none⟩ = some (.int .i64 x1)) (c2 : w.cell? ⟨b, j + 2, none⟩ = some (.string x2)) (c3 : w.cell? ⟨b, j + 3, none⟩ = some (.int .i64 x3)) (y0 y1 y3 : Int) (y2 : ByteArray) :
    Kin P w ((((w.setCell ⟨b, j, none⟩ (.int .i64 y0)).setCell ⟨b, j + 1, none⟩ (.int .i64 y1)).setCell ⟨b, j + 2, none⟩ (.string y2)).setCell ⟨b, j + 3, none⟩ (.int .i64 y3)) := by
  have k0 : Kin P w (w.setCell ⟨b, j, none⟩ (.int .i64 y0)) := Kin.set hp c0 (.inr (.inl ⟨_, _, rfl, rfl⟩))
  obtain ⟨u1, d1, l1⟩ := k0.cell _ _ _ c1
  have k1 := k0.trans (Kin.set hp d1 (like_int (b := y1) l1))
  obtain ⟨u2, d2, l2⟩ := k1.cell _ _ _ c2
  have k2 := k1.trans (Kin.set hp d2 (like_str (t := y2) l2))
  obtain ⟨u3, d3, l3⟩ := k2.cell _ _ _ c3
  exact k2.trans (Kin.set hp d3 (like_int (b := y3) l3))
set_option maxHeartbeats 4000000 in
set_option maxRecDepth 1000000 in
theorem r8Scribble_any (P : Nat → Prop) : ∀ (N : Nat) (es : List Ent) (ks : KidsL) (w : World) (ev kv : Value), sizeK ks < N → TreeAt (fun b => P b ∧ Free w b) w ev kv es ks → sizeT es ks ≤ 100000 →
    Calls Tryz.prog 18 #[.agg #[ev, kv]] w fun e w' => e = .returned (.tuple #[]) ∧ Kin P w w' := by
  intro N
  induction N with
  | zero => intros; exfalso; omega
  | succ N IHN =>
    intro es ks w ev kv hN ht hsz
    have HT := Lib.hid ht
    obtain ⟨ae, ce, rfl⟩ := ht.ents.rd.sl
    obtain ⟨os, hkr, -⟩ := ht.kids
    obtain ⟨ak, ck, rfl⟩ := hkr.rd.sl
    clear hkr ht
    have hn5 : es.length ≤ 100000 := by unfold sizeT at hsz; omega
    have hm5 : ks.len ≤ 100000 := by have := len_le_sizeK ks; unfold sizeT at hsz; omega
    have HSZ := Lib.hid (show sizeK ks ≤ 100000 by unfold sizeT at hsz; omega)
    have HNN := Lib.hid hN
    have IH := Lib.hid IHN
    clear hN hsz IHN
    have HWB := Lib.hid (Kin.of_frm (P := P) (Frm.alloc NoS w (.cells #[.slice ae es.length ce, .slice ak ks.len ck] 27)))
    have hb0 : (w.alloc (.cells #[.slice ae es.length ce, .slice ak ks.len ck] 27)).cell? ⟨w.heap.size, 0, none⟩ = some (.slice ae es.length ce) := cell_at' (heap_alloc_new w _) 0 rfl
    have hb1 : (w.alloc (.cells #[.slice ae es.length ce, .slice ak ks.len ck] 27)).cell? ⟨w.heap.size, 1, none⟩ = some (.slice ak ks.len ck) := cell_at' (heap_alloc_new w _) 1 rfl
    have HB0 := Lib.hid hb0; clear hb0
    have HB1 := Lib.hid hb1; clear hb1
    generalize hes : es.length = n at *
    have HN := Lib.hid hes; clear hes
    generalize hkl : ks.len = m at *
    have HM := Lib.hid hkl; clear hkl
    go_enter Tryz.func18, Tryz.ntmps18
    go_wp2
    go_loopw [7] (fun i ww => ∃ k : Nat, k ≤ n ∧ i = .int .i64 k ∧ Kin P (w.alloc (.cells #[.slice ae n ce, .slice ak m ck] 27)) ww) (fun i _ => n - (intOf i).toNat)
    case atStart => exact ⟨0, Nat.zero_le _, rfl, Kin.refl _ _⟩
    case round =>
      obtain ⟨k, hk, rfl, hw⟩ := hrel
      have HW := Lib.hid hw; clear hw
      by_cases hlt : k < n
      · obtain ⟨es', ks', h1, h2, h3, ht'⟩ := tree_kin (HWB.out.trans HW.out) HT.out
        have hke : k < es'.length := by rw [h1, HN.out]; exact hlt
        have hpos : entC es' ≠ [] := fun e => by
          have := congrArg List.length e
          rw [entC_length] at this
          simp at this; omega
        rcases Rd.shape ht'.ents.rd with ⟨ad, he, h0⟩ | ⟨b, off, cc, he, hmax⟩
        · exfalso; omega
        injection he with e1 e2 e3
        subst e1
        clear e2 e3
        have hrd := ht'.ents.rd
        rw [h1, HN.out] at hrd
        obtain ⟨p0, p1, p2, p3⟩ := ent_at hrd k hke
        obtain ⟨hPb, hfree⟩ := ht'.ents.q hpos b rfl
        have f0 := hfree (off + k * 4)
        have f1 := hfree (off + k * 4 + 1)
        have f2 := hfree (off + k * 4 + 2)
        have f3 := hfree (off + k * 4 + 3)
        have b0 := HW.out.slice HB0.out
        have HKE := Lib.hid (Kin.ent hPb p0 p1 p2 p3 0 0 0 scribT)
        clear ht' hrd hfree hpos h1 h2 h3 hPb hke
        generalize es'.getD k Ent.zero = x at *
        go_wp2
        clear p0 p1 p2 p3 f0 f1 f2 f3 b0
        go_roundw
        case rel => exact ⟨k + 1, by omega, by go_num, HW.out.trans HKE.out⟩
        case measure => simp [intOf]; omega
      · obtain rfl : n = k := by omega
        have b1 := HW.out.slice HB1.out
        go_wp2
        clear b1
        go_loopw [19] (fun i ww => ∃ k : Nat, k ≤ m ∧ i = .int .i64 k ∧ Kin P (w.alloc (.cells #[.slice ae n ce, .slice ak m ck] 27)) ww) (fun i _ => m - (intOf i).toNat)
        case atStart => exact ⟨0, Nat.zero_le _, rfl, HW.out⟩
        case round =>
          obtain ⟨k, hk, rfl, hw⟩ := hrel
          have HK := Lib.hid hw; clear hw
          by_cases hlt : k < m
          · obtain ⟨es', ks', h1, h2, h3, ht'⟩ := tree_kin (HWB.out.trans HK.out) HT.out
            have hkl : k < ks'.len := by rw [h2, HM.out]; exact hlt
            obtain ⟨os', hkr, hfor⟩ := ht'.kids
            have hpos : kidC ks' os' ≠ [] := fun e => by
              have := congrArg List.length e
              rw [hfor.length] at this
              simp at this; omega
            rcases Rd.shape hkr.rd with ⟨ad, he, h0⟩ | ⟨b, off, cc, he, hmax⟩
            · exfalso; omega
            injection he with e1 e2 e3
            subst e1
            clear e2 e3
            have hrd := hkr.rd
            rw [h2, HM.out] at hrd
            obtain ⟨key, es0, sub, rest, hdr⟩ := KidsL.drop_some hkl
            obtain ⟨ev0, kv0, p0, p1, p2, hta⟩ := kid_at hrd hfor hdr
            obtain ⟨hPb, hfree⟩ := hkr.q hpos b rfl
            have f0 := hfree (off + k * 3)
            have hss := size_sub k hdr
            have hst := sizeT_sub k hdr
            have HC := Lib.hid (IH.out es0 sub wr ev0 kv0 (by have := HNN.out; omega) hta (by have := HSZ.out; omega))
            obtain ⟨a0, c0, rfl⟩ := hta.ents.rd.sl
            obtain ⟨o3, hk3, -⟩ := hta.kids
            obtain ⟨a1, c1, rfl⟩ := hk3.rd.sl
            have hlb := World.block_lt_of_cell? _ _ p0
            have HLB := Lib.hid (show b < wr.heap.size from hlb)
            have HFREE := Lib.hid hfree
            have HPB := Lib.hid hPb
            have HP0 := Lib.hid p0
            have HP1 := Lib.hid p1
            have b1 := HK.out.slice HB1.out
            have HB1W := Lib.hid b1
            clear hk3 hta hdr hss hst hrd hkr hfor hpos ht' h1 h2 h3 hkl f0 hfree hPb p0 hlb
            generalize es0.length = n0 at *
            generalize sub.len = m0 at *
            go_wp2_with (go_at_call 18; go_loud (refine HC.out.mono ?_); rintro e w3 ⟨rfl, hk3⟩; clear b1 p1 p2; have b1 := hk3.slice HB1W.out; obtain ⟨x0, p0, l0⟩ := hk3.cell _ _ _ HP0.out; have f0 := hk3.free _ HLB.out HFREE.out (off + k * 3); have HK3 := Lib.hid (HK.out.trans (hk3.trans (Kin.set HPB.out p0 (like_str (t := scribT) l0)))); clear hk3 l0)
            clear b1 p0 f0
            go_roundw
            case rel => exact ⟨k + 1, by omega, by go_num, HK3.out⟩
            case measure => simp [intOf]; omega
          · obtain rfl : m = k := by omega
            go_wp2
            go_end0
            exact ⟨rfl, HWB.out.trans HK.out⟩
end Go.Proofs.YtclfajhdonabhaaGreat
