/- Words for the law MsgSet: TClone3, Res, TDots, HeldTwo, Caus, Bun0. -/
import Derived.Test.YtcahemkomfaabaaGreatMsgSetG4
import Derived.Test.YtcahemkomfaabaaGreatMsgSetG7
import Derived.Test.YtcahemkomfaabaaGreatMsgSetG8
set_option linter.unusedSimpArgs false
set_option linter.unusedVariables false
set_option maxHeartbeats 32000000
set_option maxRecDepth 1000000
namespace Go.Proofs.YtcahemkomfaabaaGreat
open Go.RowKit
def ClonePost (w : World) (es : List Ent) (ks : KidsL) (e : Ending) (w' : World) : Prop :=
 ∃ ev' kv', e = .returned (.agg #[ev', kv']) ∧ TreeAt (fun b => w.heap.size ≤ b) w' ev' kv' es ks ∧ Frm NoS w w'
theorem tclone_any (Q : Nat → Prop) : ∀ (N : Nat) (es : List Ent) (ks : KidsL) (w : World) (ev kv : Value), sizeK ks < N → TreeAt Q w ev kv es ks → sizeT es ks ≤ 100000 →
 Calls Tryz.prog 172 #[.agg #[ev, kv]] w (ClonePost w es ks) := by
 intro N
 induction N with
 | zero => intros; exfalso; omega
 | succ N IHN =>
  intro es ks w ev kv hN ht hsz
  obtain ⟨i0, hi, hz0, hz1, hz2⟩ := info_parts info_kid
  obtain ⟨ae, ce, rfl⟩ := ht.ents.rd.sl
  obtain ⟨os, hkr, hfor⟩ := ht.kids
  obtain ⟨ak, ck, rfl⟩ := hkr.rd.sl
  have HE := Lib.hid ht.ents.rd
  have HKR := Lib.hid hkr.rd; clear hkr ht
  have HFOR := Lib.hid hfor; clear hfor
  have IH := Lib.hid IHN; clear IHN
  have hn5 : es.length ≤ 100000 := by unfold sizeT at hsz; omega
  have hm5 : ks.len ≤ 100000 := by have := len_le_sizeK ks; unfold sizeT at hsz; omega
  have HEN := Lib.hid (fun W (h : Frm NoS w W) => enClone_any W (.slice ae es.length ce) es (HE.out.keep0 h) hn5)
  have HSZ := Lib.hid hsz; clear hsz
  have HNN := Lib.hid hN; clear hN
  generalize hes : es.length = n at *
  have HN := Lib.hid hes; clear hes
  generalize hkl : ks.len = m at *
  have HM := Lib.hid hkl; clear hkl
  obtain ⟨WB, hWB⟩ : ∃ WB, WB = (w.alloc (.cells #[.slice ae n ce, .slice ak m ck] 28)).alloc (.cells #[.slice none 0 0, .slice none 0 0] 28) := ⟨_, rfl⟩
  have hfb : Frm NoS w WB := by rw [hWB]; exact (Frm.alloc _ _ _).alloc1
  have hb0 : WB.heap[w.heap.size]? = some (.cells #[.slice ae n ce, .slice ak m ck] 28 (0, 0)) := by rw [hWB, Below.heap_alloc _ _ _ (by simp)]; exact heap_alloc_new w _
  have hb2 : WB.heap[w.heap.size + 1]? = some (.cells #[.slice none 0 0, .slice none 0 0] 28 (0, 0)) := by
   rw [hWB]
   have := heap_alloc_new (w.alloc (.cells #[.slice ae n ce, .slice ak m ck] 28)) (.cells #[.slice none 0 0, .slice none 0 0] 28)
   simpa using this
  have hbs : WB.heap.size = w.heap.size + 1 + 1 := by rw [hWB]; simp
  have HFB := Lib.hid hfb; clear hfb
  have HB0 := Lib.hid hb0; clear hb0
  have HB2 := Lib.hid hb2; clear hb2
  have HBS := Lib.hid hbs; clear hbs
  have hcall : ∀ W, W = WB → Calls Tryz.prog 201 #[.slice ae n ce] W fun e w' => ∃ v', e = .returned v' ∧ OwnAt WB w' 170 4 v' n (entC es) := fun W hW => by rw [hW]; exact HEN.out WB HFB.out
  have HCALL := Lib.hid hcall; clear hcall
  have HWB := Lib.hid hWB.symm; clear hWB
  go_enter Tryz.func172, Tryz.ntmps172
  go_wp2_with (go_at_call 201; refine (HCALL.out _ HWB.out).mono ?_; rintro e w1 ⟨v1, rfl, ho1⟩; obtain ⟨a1, c1, rfl⟩ := ho1.shape; have HO1 := Lib.hid ho1; clear ho1; have b1 : w1.cell? ⟨w.heap.size, 1, none⟩ = some (.slice ak m ck) := HO1.out.frm.cell' (cell_at' HB0.out 1 rfl) id; have hlt1 : w.heap.size < w1.heap.size := World.block_lt_of_cell? _ _ b1)
  have hln : Frm NoS w (w1.alloc (.cells #[.slice a1 n c1, .slice none 0 0] 28)) := (HFB.out.then1 HO1.out.frm).alloc1
  have hc0 : ClnAt w (w1.alloc (.cells #[.slice a1 n c1, .slice none 0 0] 28)) (w.heap.size + 1) w1.heap.size n (.slice a1 n c1) (.slice none 0 0) es ks 0 [] := by
   have hs1 := HO1.out.frm.size
   have hbs := HBS.out
   refine ⟨hln, (Frm.alloc NoS _ _).blk (HO1.out.frm.blk HB2.out id) id, heap_alloc_new w1 _, by omega, by have := HFB.out.size; omega, by omega, OwnBut.nil hln _ _, ?_, fun q hq => (by cases hq), rfl, rfl⟩
   refine HO1.out.rdq.turn fun b hb hQ => ⟨Below.heap_alloc _ _ _ hb, by omega, by omega, by omega, by simp [Value.ownBlock]⟩
  have HC0 := Lib.hid hc0; clear hc0
  have HLN := Lib.hid hln; clear hln
  clear b1 hlt1
  go_loopw [13] (fun i ww => ∃ (k : Nat) (l : List KidQ) (kvv : Value), k ≤ m ∧ i = .int .i64 k ∧ ClnAt w ww (w.heap.size + 1) w1.heap.size n (.slice a1 n c1) kvv es ks k l) (fun i _ => m - (intOf i).toNat)
  case atStart => exact ⟨0, [], _, Nat.zero_le _, rfl, HC0.out⟩
  case round =>
   obtain ⟨k, l, kvv, hk, rfl, hc⟩ := hrel
   obtain ⟨av, cv, rfl⟩ := hc.own.at_.shape
   have HC := Lib.hid hc; clear hc
   by_cases hlt : k < m
   · obtain ⟨key, es', sub, rest, hdr⟩ := KidsL.drop_some (n := k) (ks := ks) (by rw [HM.out]; exact hlt)
     rcases Rd.shape HKR.out with ⟨ad, he, h0⟩ | ⟨b, off, cc, he, hmax⟩
     · exfalso; have := HM.out; omega
     · injection he with e1 e2 e3
       subst e1 e3
       clear e2
       obtain ⟨ev', kv', q0, q1, q2, hta⟩ := kid_at (HKR.out.keep0 HC.out.frm) (HFOR.out.keep0 HC.out.frm) hdr
       obtain ⟨ae', ce', rfl⟩ := hta.ents.rd.sl
       obtain ⟨os', hkr', hfor'⟩ := hta.kids
       obtain ⟨ak', ck', rfl⟩ := hkr'.rd.sl
       clear hkr' hfor'
       have HSS := Lib.hid (size_sub k hdr)
       have HST := Lib.hid (sizeT_sub k hdr)
       have HTA := Lib.hid hta; clear hta
       have HIH := Lib.hid (fun w' (h : Frm NoS wr w') => IH.out es' sub w' _ _ (by have := HSS.out; have := HNN.out; omega) (HTA.out.keep0 h) (by have := HST.out; have := HSZ.out; unfold sizeT at *; omega))
       have HDR := Lib.hid hdr; clear hdr
       have hkp : k ≤ 100000 := by omega
       generalize es'.length = n' at *
       generalize sub.len = m' at *
       have hsp : (wr.alloc (.cells #[.string key, .slice ae' n' ce', .slice ak' m' ck'] 172)).heap[wr.heap.size]? = some (.cells #[.string key, .slice ae' n' ce', .slice ak' m' ck'] 172 (0, 0)) := heap_alloc_new wr _
       have HSP := Lib.hid hsp; clear hsp
       have h3lt := lt_of_block HC.out.b3
       have h2lt := lt_of_block HC.out.b2
       have hvlt : ∀ b, (Value.slice av k cv).ownBlock = some b → b < wr.heap.size := fun b hb => HC.out.own.at_.lt b hb
       have HVLT := Lib.hid hvlt; clear hvlt
       have hfa : Frm NoS wr (wr.alloc (.cells #[.string key, .slice ae' n' ce', .slice ak' m' ck'] 172)).drew := (Frm.alloc _ _ _).drew1
       have HFA := Lib.hid hfa; clear hfa
       have hsz0 : (wr.alloc (.cells #[.string key, .slice ae' n' ce', .slice ak' m' ck'] 172)).drew.heap.size = wr.heap.size + 1 := by show (wr.alloc _).heap.size = _; simp
       have HSZ0 := Lib.hid hsz0; clear hsz0
       go_wp2_with fail
       refine wp_region_G (S := fun w' => w'.cell? ⟨wr.heap.size, 0, none⟩ = some (.string key) ∧ w'.cell? ⟨wr.heap.size, 1, none⟩ = some (.slice ae' n' ce') ∧ w'.cell? ⟨wr.heap.size, 2, none⟩ = some (.slice ak' m' ck') ∧ w'.cell? ⟨w1.heap.size, 1, none⟩ = some (.slice av k cv)) 11 (by kernel_rfl) ⟨cell_at' HSP.out 0 rfl, cell_at' HSP.out 1 rfl, cell_at' HSP.out 2 rfl, HFA.out.cell' (cell_at' HC.out.b3 1 rfl) id⟩ ?_
       intro hS
       generalize (wr.alloc (.cells #[.string key, .slice ae' n' ce', .slice ak' m' ck'] 172)).drew = Y0 at *
       refine tkG 0 17 rfl rfl (v := ?_) (.inl ⟨by rfl, ?_⟩) ?_
       rotate_left 1
       · (intro w hSw; (try dsimp only at hSw); go_simp; (try with_reducible rfl))
       refine tkG 1 18 rfl rfl (v := ?_) (.inl ⟨by rfl, ?_⟩) ?_
       rotate_left 1
       · (intro w hSw; (try dsimp only at hSw); go_simp; (try with_reducible rfl))
       try simp only [Act.put, List.setIfInBounds_toArray, List.set_cons_zero, List.set_cons_succ]
       refine tkG 2 19 rfl rfl (v := ?_) (.inl ⟨by rfl, ?_⟩) ?_
       rotate_left 1
       · (intro w hSw; (try dsimp only at hSw); go_simp; (try with_reducible rfl))
       refine tkG 3 20 rfl rfl (v := ?_) (.inl ⟨by rfl, ?_⟩) ?_
       rotate_left 1
       · (intro w hSw; (try dsimp only at hSw); go_simp; (try with_reducible rfl))
       try simp only [Act.put, List.setIfInBounds_toArray, List.set_cons_zero, List.set_cons_succ]
       refine tkG 4 21 rfl rfl (v := ?_) (.inl ⟨by rfl, ?_⟩) ?_
       rotate_left 1
       · (intro w hSw; (try dsimp only at hSw); go_simp; (try with_reducible rfl))
       refine tkG 5 22 rfl rfl (v := ?_) (.inl ⟨by rfl, ?_⟩) ?_
       rotate_left 1
       · (intro w hSw; (try dsimp only at hSw); go_simp; (try with_reducible rfl))
       try simp only [Act.put, List.setIfInBounds_toArray, List.set_cons_zero, List.set_cons_succ]
       refine one_opG (i := 6) (by kernel_rfl) rfl (fun K hK => ?_)
       go_simp
       refine (HIH.out _ HFA.out).mono ?_
       rintro e Y ⟨ev3, kv3, rfl, hta3, hf3⟩
       obtain ⟨a3, c3, rfl⟩ := hta3.ents.rd.sl
       obtain ⟨os3, hkr3, -⟩ := hta3.kids
       obtain ⟨a4, c4, rfl⟩ := hkr3.rd.sl
       clear hkr3
       have HTA3 := Lib.hid hta3; clear hta3
       have HF3 := Lib.hid hf3; clear hf3
       generalize es'.length = n3 at *
       generalize sub.len = m3 at *
       have hS3 : Y.cell? ⟨wr.heap.size, 0, none⟩ = some (.string key) ∧ Y.cell? ⟨wr.heap.size, 1, none⟩ = some (.slice ae' n' ce') ∧ Y.cell? ⟨wr.heap.size, 2, none⟩ = some (.slice ak' m' ck') ∧ Y.cell? ⟨w1.heap.size, 1, none⟩ = some (.slice av k cv) := ⟨HF3.out.cell' hS.1 id, HF3.out.cell' hS.2.1 id, HF3.out.cell' hS.2.2.1 id, HF3.out.cell' hS.2.2.2 id⟩
       refine hK.out _ _ hS3 ?_
       clear hK K hS
       try simp only [Act.put, List.setIfInBounds_toArray, List.set_cons_zero, List.set_cons_succ]
       refine tkG 7 24 rfl rfl (v := ?_) (.inl ⟨by rfl, ?_⟩) ?_
       rotate_left 1
       · (intro w hSw; (try dsimp only at hSw); go_simp; (try with_reducible rfl))
       try simp only [Act.put, List.setIfInBounds_toArray, List.set_cons_zero, List.set_cons_succ]
       refine one_opG (i := 8) (by kernel_rfl) rfl (fun K hK => ?_)
       go_simp
       have hS4 : (Y.alloc (.cells #[.string key, .slice a3 n3 c3, .slice a4 m3 c4] 172)).cell? ⟨wr.heap.size, 0, none⟩ = some (.string key) ∧ (Y.alloc (.cells #[.string key, .slice a3 n3 c3, .slice a4 m3 c4] 172)).cell? ⟨wr.heap.size, 1, none⟩ = some (.slice ae' n' ce') ∧ (Y.alloc (.cells #[.string key, .slice a3 n3 c3, .slice a4 m3 c4] 172)).cell? ⟨wr.heap.size, 2, none⟩ = some (.slice ak' m' ck') ∧ (Y.alloc (.cells #[.string key, .slice a3 n3 c3, .slice a4 m3 c4] 172)).cell? ⟨w1.heap.size, 1, none⟩ = some (.slice av k cv) := ⟨(Frm.alloc NoS Y _).cell' hS3.1 id, (Frm.alloc NoS Y _).cell' hS3.2.1 id, (Frm.alloc NoS Y _).cell' hS3.2.2.1 id, (Frm.alloc NoS Y _).cell' hS3.2.2.2 id⟩
       refine hK.out _ _ hS4 ?_
       clear hK K
       try simp only [Act.put, List.setIfInBounds_toArray, List.set_cons_zero, List.set_cons_succ]
       refine one_opG (i := 9) (by kernel_rfl) rfl (fun K hK => ?_)
       have HCY := Lib.hid ((HC.out.keep HFA.out).keep HF3.out)
       have hsY : wr.heap.size < Y.heap.size := by have := HF3.out.size; have := HSZ0.out; omega
       refine step_appB (fun b => b < Y.heap.size ∧ (Value.slice av k cv).ownBlock ≠ some b) w Y [.string key, .slice a3 n3 c3, .slice a4 m3 c4] rfl (.tmp 18) (.tmp 25) 26 rfl 172 i0 _ 3 64 Tryz.underlying26 hi hz0 hz1 hz2 (by decide) (by decide) (.slice av k cv) k _ ⟨HCY.out.own.at_, fun b hb hn => hn.2 hb⟩ (fun b hb => hb.1) 1 1 (by simp [Act.eval]) (by simp [Act.eval]) rfl (by simp [Value.oneCell']) (by simp only [maxLen]; omega) (by omega) ?_
       intro ad cc2 w2 own2 kp2
       have hnk : ∀ b, b ≤ wr.heap.size → (Value.slice av k cv).ownBlock ≠ some b → b < Y.heap.size ∧ (Value.slice av k cv).ownBlock ≠ some b := fun b hb hn => ⟨by omega, hn⟩
       have hle3 : w1.heap.size ≤ wr.heap.size := Nat.le_of_lt h3lt
       have hn5 : (Value.slice av k cv).ownBlock ≠ some wr.heap.size := fun h => by have := HVLT.out _ h; omega
       have hn3 : (Value.slice av k cv).ownBlock ≠ some w1.heap.size := fun h => HC.out.own.but _ h (.inr rfl)
       have hS5 : w2.cell? ⟨wr.heap.size, 0, none⟩ = some (.string key) ∧ w2.cell? ⟨wr.heap.size, 1, none⟩ = some (.slice ae' n' ce') ∧ w2.cell? ⟨wr.heap.size, 2, none⟩ = some (.slice ak' m' ck') ∧ w2.cell? ⟨w1.heap.size, 1, none⟩ = some (.slice av k cv) := ⟨kp2.cell (hnk _ (Nat.le_refl _) hn5) hS3.1, kp2.cell (hnk _ (Nat.le_refl _) hn5) hS3.2.1, kp2.cell (hnk _ (Nat.le_refl _) hn5) hS3.2.2.1, kp2.cell (hnk _ hle3 hn3) hS3.2.2.2⟩
       refine hK.out _ _ hS5 ?_
       clear hK K hS4
       have hcf : w2.frozen? ⟨w1.heap.size, 1, none⟩ = false := kp2.frozen (p := ⟨w1.heap.size, 1, none⟩) (hnk _ hle3 hn3) (free_at' HCY.out.b3 1)
       have hfm : Frm (RowS (.slice av k cv)) Y w2 := ⟨own2.at_.frm.os.trans HCY.out.frm.os.symm, own2.at_.frm.tape.trans HCY.out.frm.tape.symm, own2.at_.frm.output.trans HCY.out.frm.output.symm, kp2.1, fun b hb hn => kp2.2 b ⟨hb, hn⟩⟩
       have hfr : Fresh Y (.slice av k cv) (.slice ad (k + 1) cc2) := fun b hb => by
        by_cases h1 : (Value.slice av k cv).ownBlock = some b
        · exact .inl h1
        · refine .inr ?_
          have := own2.but b hb
          rcases Nat.lt_or_ge b Y.heap.size with h2 | h2
          · exact absurd ⟨h2, h1⟩ this
          · exact h2
       have hq3 : TreeAt (ClnQ w (w.heap.size + 1) w1.heap.size (.slice av k cv)) Y (.slice a3 n3 c3) (.slice a4 m3 c4) es' sub := HTA3.out.turn fun b hb hQ => by
        have h0 := HSZ0.out
        have h1 := HC.out.frm.size
        refine ⟨rfl, by omega, by omega, by omega, fun h => ?_⟩
        have := HVLT.out _ h
        omega
       have HSTP := Lib.hid (HCY.out.step (q := ⟨key, es', sub, .slice a3 n3 c3, .slice a4 m3 c4⟩) HDR.out hq3 own2.at_.own hfm hfr)
       clear own2 kp2 hfm hfr hq3 hnk hn5 hn3 hsY
       try simp only [Act.put, List.setIfInBounds_toArray, List.set_cons_zero, List.set_cons_succ]
       refine tkG 10 27 rfl rfl (v := ?_) (.inl ⟨by rfl, ?_⟩) ?_
       rotate_left 1
       · (intro w hSw; (try dsimp only at hSw); go_simp; (try with_reducible rfl))
       try simp only [Act.put, List.setIfInBounds_toArray, List.set_cons_zero, List.set_cons_succ]
       refine last_opG (by kernel_rfl) (by kernel_rfl) rfl (fun K hK => ?_)
       have hcz := hS5.2.2.2
       clear hS5 hS3
       go_simp
       refine hK.out _ _ ?_
       clear hK K hcz hcf
       go_wp2
       go_roundw
       case rel => exact ⟨k + 1, _, _, by omega, by go_num, HSTP.out⟩
       case measure => simp [intOf]; omega
   · obtain rfl : m = k := by omega
     have hdn := HC.out.done HN.out.symm (by rw [HM.out]; exact Nat.le_refl _)
     have HDN := Lib.hid hdn; clear hdn
     have y0 := cell_at' HC.out.b3 0 rfl
     have y1 := cell_at' HC.out.b3 1 rfl
     have z0 := cell_at' HC.out.b2 0 rfl
     have z1 := cell_at' HC.out.b2 1 rfl
     have f0 := free_at' HC.out.b2 0
     have f1 := free_at' HC.out.b2 1
     go_wp2
     clear y0 y1 z0 z1
     have y0 := cell_at' HDN.out.2.2 0 rfl
     have y1 := cell_at' HDN.out.2.2 1 rfl
     exact bodyPost_ret (v := .agg #[.slice a1 n c1, .slice av m cv]) (by simp [results, Tryz.results172, go_sem, y0, y1]) rfl ⟨_, _, rfl, HDN.out.1, HDN.out.2.1⟩
theorem set_else {w : World} {b j k : Nat} {v : Value} (h : k ≠ b) : (w.setCell ⟨b, j, none⟩ v).heap[k]? = w.heap[k]? := Below.heap_setCell _ _ _ _ h
theorem res2 {w0 w : World} {b : Nat} {T : TypeId} {a0 a1 : Value} (h : w.heap[b]? = some (.cells #[a0, a1] T (0, 0))) (f : Frm NoS w0 w) (hb : w0.heap.size ≤ b) (v0 v1 : Value) :
 ((w.setCell ⟨b, 0, none⟩ v0).setCell ⟨b, 1, none⟩ v1).heap[b]? = some (.cells #[v0, v1] T (0, 0)) ∧ Frm NoS w0 ((w.setCell ⟨b, 0, none⟩ v0).setCell ⟨b, 1, none⟩ v1) ∧
   ∀ k, k ≠ b → ((w.setCell ⟨b, 0, none⟩ v0).setCell ⟨b, 1, none⟩ v1).heap[k]? = w.heap[k]? :=
 ⟨set_at' (set_at' h 0 v0) 1 v1, (f.set1 (p := ⟨b, 0, none⟩) (.inr hb)).set1 (p := ⟨b, 1, none⟩) (.inr hb), fun k hk => (set_else hk).trans (set_else hk)⟩
theorem res3 {w0 w : World} {b : Nat} {T : TypeId} {a0 a1 a2 : Value} (h : w.heap[b]? = some (.cells #[a0, a1, a2] T (0, 0))) (f : Frm NoS w0 w) (hb : w0.heap.size ≤ b) (v0 v1 v2 : Value) :
 (((w.setCell ⟨b, 0, none⟩ v0).setCell ⟨b, 1, none⟩ v1).setCell ⟨b, 2, none⟩ v2).heap[b]? = some (.cells #[v0, v1, v2] T (0, 0)) ∧ Frm NoS w0 (((w.setCell ⟨b, 0, none⟩ v0).setCell ⟨b, 1, none⟩ v1).setCell ⟨b, 2, none⟩ v2) ∧
   ∀ k, k ≠ b → (((w.setCell ⟨b, 0, none⟩ v0).setCell ⟨b, 1, none⟩ v1).setCell ⟨b, 2, none⟩ v2).heap[k]? = w.heap[k]? :=
 ⟨set_at' (set_at' (set_at' h 0 v0) 1 v1) 2 v2, ((f.set1 (p := ⟨b, 0, none⟩) (.inr hb)).set1 (p := ⟨b, 1, none⟩) (.inr hb)).set1 (p := ⟨b, 2, none⟩) (.inr hb), fun k hk => ((set_else hk).trans (set_else hk)).trans (set_else hk)⟩
theorem two_blocks (w : World) (o : Obj) (cs : Array Value) (T : TypeId) : ((w.alloc o).alloc (.cells cs T)).heap[w.heap.size + 1]? = some (.cells cs T (0, 0)) ∧ Frm NoS w ((w.alloc o).alloc (.cells cs T)) ∧ ((w.alloc o).alloc (.cells cs T)).heap.size = w.heap.size + 1 + 1 := by
 refine ⟨?_, (Frm.alloc _ _ _).alloc1, by simp⟩
 have := heap_alloc_new (w.alloc o) (.cells cs T)
 simpa using this
theorem box2 (w : World) (v0 v1 : Value) (T : TypeId) (W : World) (f : Frm NoS (w.alloc (.cells #[v0, v1] T)) W) : W.cell? ⟨w.heap.size, 0, none⟩ = some v0 ∧ W.cell? ⟨w.heap.size, 1, none⟩ = some v1 :=
 ⟨f.cell' (cell_at' (heap_alloc_new w _) 0 rfl) id, f.cell' (cell_at' (heap_alloc_new w _) 1 rfl) id⟩
theorem box3 (w : World) (v0 v1 v2 : Value) (T : TypeId) (W : World) (f : Frm NoS (w.alloc (.cells #[v0, v1, v2] T)) W) : W.cell? ⟨w.heap.size, 0, none⟩ = some v0 ∧ W.cell? ⟨w.heap.size, 1, none⟩ = some v1 ∧ W.cell? ⟨w.heap.size, 2, none⟩ = some v2 :=
 ⟨f.cell' (cell_at' (heap_alloc_new w _) 0 rfl) id, f.cell' (cell_at' (heap_alloc_new w _) 1 rfl) id, f.cell' (cell_at' (heap_alloc_new w _) 2 rfl) id⟩
theorem tRight_any (Q : Nat → Prop) (es : List Ent) (ks : KidsL) (w : World) (ev kv : Value) (ht : TreeAt Q w ev kv es ks) (hok : TrOk es ks) :
 Calls Tryz.prog 126 #[.agg #[ev, kv]] w fun e w' => e = .returned (.bool (rightT 5 es ks)) ∧ Frm NoS w w' := by
 obtain ⟨ae, ce, rfl⟩ := ht.ents.rd.sl
 obtain ⟨os, hkr, hfor⟩ := ht.kids
 obtain ⟨ak, ck, rfl⟩ := hkr.rd.sl
 have hc : ∀ W, Frm NoS w W → Calls Tryz.prog 163 #[.agg #[.slice ae es.length ce, .slice ak ks.len ck], .int .i64 5] W fun e w' => e = .returned (.bool (rightT 5 es ks)) ∧ Frm NoS W w' := fun W f => tright_any Q _ es ks 5 W _ _ (Nat.lt_succ_self _) (ht.keep0 f) hok (by omega)
 have HC := Lib.hid hc
 clear hkr hfor ht hok hc
 generalize rightT 5 es ks = y at *
 generalize es.length = n at *
 generalize ks.len = m at *
 go_enter Tryz.func126, Tryz.ntmps126
 go_wp2_with (go_at_call 163; refine (HC.out _ (Frm.alloc _ _ _)).mono ?_; rintro e w3 ⟨rfl, hw3⟩; have HW3 := Lib.hid ((Frm.alloc NoS _ _).then1 hw3); clear hw3)
 go_ret
 exact ⟨rfl, HW3.out⟩
def DotsPost (w : World) (es : List Ent) (ks : KidsL) (e : Ending) (w' : World) : Prop :=
 Frm NoS w w' ∧ (rightT 5 es ks = true → ∃ v' c, e = .returned (.tuple #[v', .int .i64 0]) ∧ OwnAt w w' 122 3 v' c.length (spC c) ∧ OfC (dotsT es ks) c ∧ c.length ≤ 16000) ∧ (rightT 5 es ks = false → e = .returned (.tuple #[.slice none 0 0, .int .i64 1]))
theorem tDots_any (Q : Nat → Prop) (es : List Ent) (ks : KidsL) (w : World) (ev kv : Value) (ht : TreeAt Q w ev kv es ks) (hok : TrOk es ks) (hsz : sizeT es ks ≤ 4000) :
 Calls Tryz.prog 86 #[.agg #[ev, kv]] w (DotsPost w es ks) := by
 obtain ⟨ae, ce, rfl⟩ := ht.ents.rd.sl
 obtain ⟨os, hkr, hfor⟩ := ht.kids
 obtain ⟨ak, ck, rfl⟩ := hkr.rd.sl
 have HR := Lib.hid (fun W (f : Frm NoS w W) => tRight_any Q es ks W _ _ (ht.keep0 f) hok)
 have HA := Lib.hid (fun w' (h : Frm NoS w w') => tall_any Q _ es ks w' _ _ (Nat.lt_succ_self _) (ht.keep0 h) (by omega))
 have hdl := dotsT_length_le es ks
 have HDL := Lib.hid (show (dotsT es ks).length ≤ 4000 by omega)
 clear hkr hfor ht hok hsz hdl
 by_cases hr : rightT 5 es ks = true
 · have HDK := Lib.hid (rightT_dots hr)
   rw [hr] at HR
   have HRT := Lib.hid hr; clear hr
   have hpost : ∀ e w', Frm NoS w w' → (∃ v' c, e = .returned (.tuple #[v', .int .i64 0]) ∧ OwnAt w w' 122 3 v' c.length (spC c) ∧ OfC (dotsT es ks) c ∧ c.length ≤ 16000) → DotsPost w es ks e w' := fun e w' h1 h2 => ⟨h1, fun _ => h2, fun h => by rw [HRT.out] at h; cases h⟩
   have HPOST := Lib.hid hpost; clear hpost
   generalize dotsT es ks = l at *
   generalize es.length = n at *
   generalize ks.len = m at *
   go_enter Tryz.func86, Tryz.ntmps86
   go_wp2_with (first
    | (go_at_call 126; refine (HR.out _ (Frm.alloc _ _ _)).mono ?_; rintro e w1 ⟨rfl, hw1⟩; obtain ⟨y0, y1⟩ := box2 w _ _ _ w1 hw1; have HW1 := Lib.hid ((Frm.alloc NoS _ _).then1 hw1); clear hw1)
    | (go_at_call 132; refine (HA.out _ HW1.out).mono ?_; rintro e w2 ⟨v2, rfl, ho2⟩; obtain ⟨a2, c2, rfl⟩ := ho2.shape; have HO2 := Lib.hid ho2; clear ho2)
    | (go_at_call 131; refine (cOf_ok _ _ l HO2.out.rd HDK.out (by have := HDL.out; omega)).mono ?_; rintro e w3 ⟨v3, c, rfl, ho3, hof, -⟩; obtain ⟨a3, c3, rfl⟩ := ho3.shape; have HO3 := Lib.hid ho3; clear ho3; have HOF := Lib.hid hof; clear hof))
   go_ret2
   have hf := (HW1.out.then1 HO2.out.frm).then1 HO3.out.frm
   exact HPOST.out _ _ hf ⟨_, c, rfl, HO3.out.base (HW1.out.then1 HO2.out.frm), HOF.out, by have := HOF.out.length; have := HDL.out; omega⟩
 · have hr' : rightT 5 es ks = false := by simpa using hr
   rw [hr'] at HR
   have HRT := Lib.hid hr'; clear hr hr' HDL HA
   have hpost : ∀ w', Frm NoS w w' → DotsPost w es ks (.returned (.tuple #[.slice none 0 0, .int .i64 1])) w' := fun w' h1 => ⟨h1, (fun h => by rw [HRT.out] at h; cases h), fun _ => rfl⟩
   have HPOST := Lib.hid hpost; clear hpost HRT
   generalize es.length = n at *
   generalize ks.len = m at *
   go_enter Tryz.func86, Tryz.ntmps86
   go_wp2_with (go_at_call 126; refine (HR.out _ (Frm.alloc _ _ _)).mono ?_; rintro e w1 ⟨rfl, hw1⟩; have HW1 := Lib.hid ((Frm.alloc NoS _ _).then1 hw1); clear hw1)
   go_ret2
   exact HPOST.out _ HW1.out
theorem tClone_any (Q : Nat → Prop) (es : List Ent) (ks : KidsL) (w : World) (ev kv : Value) (ht : TreeAt Q w ev kv es ks) (hok : TrOk es ks) (hsz : sizeT es ks ≤ 4000) (hr : rightT 5 es ks = true) :
 Calls Tryz.prog 137 #[.agg #[ev, kv]] w (ClonePost w es ks) := by
 obtain ⟨ae, ce, rfl⟩ := ht.ents.rd.sl
 obtain ⟨os, hkr, hfor⟩ := ht.kids
 obtain ⟨ak, ck, rfl⟩ := hkr.rd.sl
 have HR := Lib.hid (fun W (f : Frm NoS w W) => tRight_any Q es ks W _ _ (ht.keep0 f) hok)
 have HA := Lib.hid (fun w' (h : Frm NoS w w') => tclone_any Q _ es ks w' _ _ (Nat.lt_succ_self _) (ht.keep0 h) (by omega))
 rw [hr] at HR
 have HPO := Lib.hid (show ∀ w1 w', Frm NoS w w1 → ∀ ev' kv', TreeAt (fun b => w1.heap.size ≤ b) w' ev' kv' es ks → TreeAt (fun b => w.heap.size ≤ b) w' ev' kv' es ks from fun w1 w' h ev' kv' h2 => h2.turn fun b hb hQ => ⟨rfl, Nat.le_trans h.size hQ⟩)
 clear hkr hfor ht hok hsz hr
 generalize hes : es.length = n at *
 generalize hkl : ks.len = m at *
 obtain ⟨hb2, hfb, hbs⟩ := two_blocks w (.cells #[.slice ae n ce, .slice ak m ck] 28) #[.slice none 0 0, .slice none 0 0] 28
 have HB2 := Lib.hid hb2; clear hb2
 have HFB := Lib.hid hfb; clear hfb
 have HBS := Lib.hid hbs; clear hbs
 have HES := Lib.hid hes; clear hes
 have HKL := Lib.hid hkl; clear hkl
 go_enter Tryz.func137, Tryz.ntmps137
 go_wp2_with (first
  | (go_at_call 126; refine (HR.out _ HFB.out).mono ?_; rintro e w1 ⟨rfl, hw1⟩; obtain ⟨y0, y1⟩ := box2 w _ _ _ w1 ((Frm.alloc NoS _ _).then1 hw1); have HW1 := Lib.hid hw1; clear hw1)
  | (go_at_call 172; refine (HA.out _ (HFB.out.then1 HW1.out)).mono ?_; rintro e w2 ⟨ev3, kv3, rfl, hta3, hf3⟩; obtain ⟨a3, c3, rfl⟩ := hta3.ents.rd.sl; obtain ⟨os3, hkr3, -⟩ := hta3.kids; obtain ⟨a4, c4, rfl⟩ := hkr3.rd.sl; clear hkr3; have hblk := hf3.blk (HW1.out.blk HB2.out id) id; have y0 := cell_at' hblk 0 rfl; have y1 := cell_at' hblk 1 rfl; have g0 := free_at' hblk 0; have g1 := free_at' hblk 1; have hsb := Lib.hid (lt_of_block hblk); have HR2 := Lib.hid (res2 hblk ((HFB.out.then1 HW1.out).then1 hf3) (by omega) (.slice a3 es.length c3) (.slice a4 ks.len c4)); have hs1 := HW1.out.size; have HP := Lib.hid (hta3.turn (Q' := fun b => w.heap.size ≤ b) fun b hb hQ => ⟨HR2.out.2.2 b (by have := HBS.out; omega), by have := HBS.out; omega⟩); clear hta3 hf3 hblk hs1; rw [HES.out, HKL.out] at HR2 HP; rw [HES.out, HKL.out]))
 clear y0 y1
 have y0 := cell_at' HR2.out.1 0 rfl
 have y1 := cell_at' HR2.out.1 1 rfl
 exact bodyPost_ret (v := .agg #[.slice a3 n c3, .slice a4 m c4]) (by simp [results, Tryz.results137, go_sem, y0, y1]) rfl ⟨_, _, rfl, HP.out, HR2.out.2.1⟩
section
variable {P : Program} {md : Region.Mode} {ops : Array Oper} {Q : Exit → Act → World → Prop} {S : World → Prop} {z : Nat}
theorem two_opG {i j : Nat} {o p : Oper} {fuel : Nat} {listed : Array Bool} {a : Act} {w : World} (hr : Region.ready md ops listed = [i, j]) (ho : ops[i]? = some o) (hp : ops[j]? = some p)
 (h : ∀ K' : Act → World → Prop, Shut (∀ a w, S w → wpAnyG P md ops Q S z fuel (listed.setIfInBounds i true) a w → K' a w) → if Region.wanted o (yielded ops a.tmps) = true then Oper.wp P o a w K' Q else K' (a.put o.dst undef) w)
 (k : ∀ K' : Act → World → Prop, Shut (∀ a w, S w → wpAnyG P md ops Q S z fuel (listed.setIfInBounds j true) a w → K' a w) → if Region.wanted p (yielded ops a.tmps) = true then Oper.wp P p a w K' Q else K' (a.put p.dst undef) w) :
 wpAnyG P md ops Q S z (fuel + 1) listed a w :=
 ⟨fun h0 => (by rw [hr] at h0; cases h0), fun x hx => by
  rw [hr] at hx
  rcases List.mem_cons.1 hx with rfl | hx
  · exact wpOp_step ho fun K' hK => h K' fun a w hS hW => hK a w ⟨.inr hS, hW⟩
  · obtain rfl : x = j := by simpa using hx
    exact wpOp_step hp fun K' hK => k K' fun a w hS hW => hK a w ⟨.inr hS, hW⟩⟩
theorem step_appR {o : Oper} {a : Act} (w0 w : World) {K : Act → World → Prop} {E : Prop} (news : List Value) (hgd : o.guard = none) (s x : Operand) (t tx : TypeId)
 (ho : o.op = .call { callee := .builtin .append, args := #[s, x], argTypes := #[t, tx] })
 (e ex : TypeId) (i : TypeInfo) (zv : Value) (size bytes : Nat) (ht : P.underlying t = some (.slice e)) (htx : P.underlying tx = some (.slice ex)) (hi : P.info? e = some i) (hz : i.zero = some zv)
 (hsize : i.size = size) (hby : i.bytes = bytes) (hzs : zv.cells.size = size) (hsz : 0 < size)
 (v : Value) (n : Nat) (xs : List Value) (hown : OwnAt w0 w e size v n xs) (xv : Value) (m : Nat) (hv : a.eval s = v) (hx : a.eval x = xv) (hr : Rd w xv m news)
 (hnl : news.length = m * size) (h1 : ∀ u ∈ news, u.oneCell' = true) (h63 : n + m ≤ maxLen) (hbytes : (n + m) * bytes ≤ 140737488355328)
 (h : ∀ ad c w', OwnAt w0 w' e size (.slice ad (n + m) c) (n + m) (xs ++ news) → Frm (RowS v) w w' → Fresh w v (.slice ad (n + m) c) → K (a.put o.dst (.slice ad (n + m) c)) w') :
 if Region.wanted o (yielded ops a.tmps) = true then Oper.wp P o a w K Q else E := by
 have hw : Region.wanted o (yielded ops a.tmps) = true := by simp [Region.wanted, hgd]
 rw [if_pos hw]
 obtain ⟨v', w', hrun, h2, h3, h4, ⟨ad, c', rfl⟩, h6⟩ := run_app (P := P) w t tx o.type e i zv size bytes ht hi hz hsize hby hzs hsz v n xs hown.own _ m news (hr.src htx hnl h1) h63 hbytes
 unfold Oper.wp execOp
 simp only [ho, resolve, invoke, builtin, Sem.run_bind, Sem.run_pure, Result.andThen_ok, List.map_toArray, List.map_cons, List.map_nil, hv, hx, hrun]
 exact h ad c' w' (hown.step h2 h3 h4) h3 h4
end
structure CauRight (es : List Ent) (ks : KidsL) (c : CtxL) : Prop where
 tree : rightT 5 es ks = true
 ctx : RightC c
 dots : DotsLeq (dotsT es ks) c
structure CauAt (Q : Nat → Prop) (w : World) (ev kv cv : Value) (es : List Ent) (ks : KidsL) (c : CtxL) : Prop where
 tree : TreeAt Q w ev kv es ks
 ctx : CtxAt w cv c
structure CauOk (es : List Ent) (ks : KidsL) (c : CtxL) : Prop where
 tree : TrOk es ks
 small : sizeT es ks ≤ 2000
 fits : FitsC c
 len : c.length ≤ 2000
theorem CauAt.keep0 {Q : Nat → Prop} {w w' : World} {ev kv cv : Value} {es : List Ent} {ks : KidsL} {c : CtxL} (h : CauAt Q w ev kv cv es ks c) (f : Frm NoS w w') : CauAt Q w' ev kv cv es ks c := ⟨h.tree.keep0 f, Rd.keep0 h.ctx f⟩
theorem CauAt.shape {Q : Nat → Prop} {w : World} {ev kv cv : Value} {es : List Ent} {ks : KidsL} {c : CtxL} (h : CauAt Q w ev kv cv es ks c) : ∃ a0 c0 a1 c1 a2 c2, ev = .slice a0 es.length c0 ∧ kv = .slice a1 ks.len c1 ∧ cv = .slice a2 c.length c2 := by
 obtain ⟨a0, c0, h0⟩ := h.tree.ents.rd.sl
 obtain ⟨os, hk, _⟩ := h.tree.kids
 obtain ⟨a1, c1, h1⟩ := hk.rd.sl
 obtain ⟨a2, c2, h2⟩ := Rd.sl h.ctx
 exact ⟨a0, c0, a1, c1, a2, c2, h0, h1, h2⟩
theorem caRight_any (Q : Nat → Prop) (es : List Ent) (ks : KidsL) (c : CtxL) (w : World) (ev kv cv : Value) (h : CauAt Q w ev kv cv es ks c) (hok : CauOk es ks c) :
 Calls Tryz.prog 79 #[.agg #[ev, kv, cv]] w fun e w' => e = .returned (.bool (tf (CauRight es ks c))) ∧ Frm NoS w w' := by
 obtain ⟨a0, c0, a1, c1, a2, c2, rfl, rfl, rfl⟩ := h.shape
 have HD := Lib.hid (fun w' (f : Frm NoS w w') => tDots_any Q es ks w' _ _ (h.tree.keep0 f) hok.tree (Nat.le_trans hok.small (by decide)))
 have HL := Lib.hid (fun w' (f : Frm NoS w w') vd d (hd : CtxAt w' vd d) (rd : RightC d) (ld : d.length ≤ 16000) => cLeq_any w' vd _ d c hd (Rd.keep0 h.ctx f) rd.fits hok.fits (by omega) (by have := hok.len; omega))
 clear h hok
 by_cases hr : rightT 5 es ks = true
 · have HOK := Lib.hid (rightT_dots hr)
   have HRT := Lib.hid hr; clear hr
   have hpost : ∀ d, OfC (dotsT es ks) d → tf (RightC d ∧ RightC c ∧ LeqC d c) = tf (CauRight es ks c) := fun d hd => tf_congr ⟨fun h => ⟨HRT.out, h.2.1, (hd.leq HOK.out).1 h.2.2⟩, fun h => ⟨hd.right, h.ctx, (hd.leq HOK.out).2 h.dots⟩⟩
   have HPOST := Lib.hid hpost; clear hpost
   generalize tf (CauRight es ks c) = y at *
   generalize es.length = n at *
   generalize ks.len = m at *
   generalize c.length = k at *
   go_enter Tryz.func79, Tryz.ntmps79
   go_wp2_with (first
    | (go_at_call 86; refine (HD.out _ (Frm.alloc _ _ _)).mono ?_; rintro e w1 ⟨hf1, hp1, -⟩; obtain ⟨v1, d, rfl, ho1, hof, hl1⟩ := hp1 HRT.out; clear hp1; obtain ⟨y0, y1, y2⟩ := box3 w _ _ _ _ w1 hf1; obtain ⟨b1, e1, rfl⟩ := ho1.shape; have HO1 := Lib.hid ho1; clear ho1; have HOF := Lib.hid hof; clear hof; have HL1 := Lib.hid hl1; clear hl1 hf1)
    | (go_at_call 87; refine (HL.out _ ((Frm.alloc NoS _ _).then1 HO1.out.frm) _ d HO1.out.rd HOF.out.right HL1.out).mono ?_; rintro e w2 ⟨rfl, hw2⟩; rw [HPOST.out d HOF.out]; have HW2 := Lib.hid hw2; clear hw2))
   go_ret
   exact ⟨rfl, ((Frm.alloc NoS _ _).then1 HO1.out.frm).then1 HW2.out⟩
 · have hr' : rightT 5 es ks = false := by simpa using hr
   rw [tf_false fun h => hr h.tree]
   have HRT := Lib.hid hr'; clear hr hr' HL
   generalize es.length = n at *
   generalize ks.len = m at *
   generalize c.length = k at *
   go_enter Tryz.func79, Tryz.ntmps79
   go_wp2_with (go_at_call 86; refine (HD.out _ (Frm.alloc _ _ _)).mono ?_; rintro e w1 ⟨hf1, -, hp1⟩; obtain rfl := hp1 HRT.out; clear hp1; obtain ⟨y0, y1, y2⟩ := box3 w _ _ _ _ w1 hf1; have HF1 := Lib.hid hf1; clear hf1)
   go_ret
   exact ⟨rfl, (Frm.alloc NoS _ _).then1 HF1.out⟩
def CauPost (w : World) (es : List Ent) (ks : KidsL) (c : CtxL) (e : Ending) (w' : World) : Prop :=
 ∃ ev kv cv, e = .returned (.agg #[ev, kv, cv]) ∧ TreeAt (fun b => w.heap.size ≤ b) w' ev kv es ks ∧ OwnAt w w' 122 3 cv c.length (spC c)
theorem caClone_ok (Q : Nat → Prop) (es : List Ent) (ks : KidsL) (c : CtxL) (w : World) (ev kv cv : Value) (h : CauAt Q w ev kv cv es ks c) (hok : CauOk es ks c) (hr : CauRight es ks c) :
 Calls Tryz.prog 95 #[.agg #[ev, kv, cv]] w (CauPost w es ks c) := by
 obtain ⟨a0, c0, a1, c1, a2, c2, rfl, rfl, rfl⟩ := h.shape
 have HR := Lib.hid (fun w' (f : Frm NoS w w') => tf_true hr ▸ caRight_any Q es ks c w' _ _ _ (h.keep0 f) hok)
 have HT := Lib.hid (fun w' (f : Frm NoS w w') => tClone_any Q es ks w' _ _ (h.tree.keep0 f) hok.tree (Nat.le_trans hok.small (by decide)) hr.tree)
 have HS := Lib.hid (fun w' (f : Frm NoS w w') => spClone_any w' _ c (Rd.keep0 h.ctx f) (by have := hok.len; omega))
 clear h hok hr
 generalize hes : es.length = n at *
 generalize hkl : ks.len = m at *
 generalize hcl : c.length = k at *
 have HES := Lib.hid hes; clear hes
 have HKL := Lib.hid hkl; clear hkl
 have HCL := Lib.hid hcl; clear hcl
 have htb : ((w.alloc (.cells #[.slice a0 n c0, .slice a1 m c1, .slice a2 k c2] 32)).alloc (.cells #[.slice none 0 0, .slice none 0 0, .slice none 0 0] 32)).heap[w.heap.size + 1]? = some (.cells #[.slice none 0 0, .slice none 0 0, .slice none 0 0] 32 (0, 0)) := (two_blocks w _ _ _).1
 have HTB := Lib.hid htb; clear htb
 have hfb : Frm NoS (w.alloc (.cells #[.slice a0 n c0, .slice a1 m c1, .slice a2 k c2] 32)) ((w.alloc (.cells #[.slice a0 n c0, .slice a1 m c1, .slice a2 k c2] 32)).alloc (.cells #[.slice none 0 0, .slice none 0 0, .slice none 0 0] 32)) := Frm.alloc _ _ _
 have HFB := Lib.hid hfb; clear hfb
 have HBX := Lib.hid (box3 w (.slice a0 n c0) (.slice a1 m c1) (.slice a2 k c2) 32)
 go_enter Tryz.func95, Tryz.ntmps95
 go_wp2_with (go_at_call 79; refine (HR.out _ ((Frm.alloc NoS _ _).then1 HFB.out)).mono ?_; rintro e w1 ⟨rfl, hw1⟩; obtain ⟨y0, y1, y2⟩ := HBX.out w1 (HFB.out.then1 hw1); have hblk := hw1.blk HTB.out id; have HBLK := Lib.hid hblk; clear hblk; have HW1 := Lib.hid (((Frm.alloc NoS _ _).then1 HFB.out).then1 hw1); clear hw1)
 refine wp_region_G (S := fun w' => w'.cell? ⟨w.heap.size, 0, none⟩ = some (.slice a0 n c0) ∧ w'.cell? ⟨w.heap.size, 1, none⟩ = some (.slice a1 m c1) ∧ w'.cell? ⟨w.heap.size, 2, none⟩ = some (.slice a2 k c2)) 7 (by kernel_rfl) ⟨y0, y1, y2⟩ ?_
 intro hS
 have HFY := Lib.hid (HW1.out.then1 (Frm.drew NoS w1))
 have HBY := Lib.hid ((Frm.drew NoS w1).blk HBLK.out id)
 have hsb : w.heap.size + 1 < w1.drew.heap.size := lt_of_block HBY.out
 clear y0 y1 y2 HW1 HBLK
 generalize w1.drew = Y at *
 refine tkG 0 7 rfl rfl (v := ?_) (.inl ⟨by rfl, ?_⟩) ?_
 rotate_left 1
 · (intro w hSw; (try dsimp only at hSw); go_simp; (try with_reducible rfl))
 refine tkG 1 8 rfl rfl (v := ?_) (.inl ⟨by rfl, ?_⟩) ?_
 rotate_left 1
 · (intro w hSw; (try dsimp only at hSw); go_simp; (try with_reducible rfl))
 try simp only [Act.put, List.setIfInBounds_toArray, List.set_cons_zero, List.set_cons_succ]
 refine tkG 3 10 rfl rfl (v := ?_) (.inl ⟨by rfl, ?_⟩) ?_
 rotate_left 1
 · (intro w hSw; (try dsimp only at hSw); go_simp; (try with_reducible rfl))
 refine tkG 4 11 rfl rfl (v := ?_) (.inl ⟨by rfl, ?_⟩) ?_
 rotate_left 1
 · (intro w hSw; (try dsimp only at hSw); go_simp; (try with_reducible rfl))
 try simp only [Act.put, List.setIfInBounds_toArray, List.set_cons_zero, List.set_cons_succ]
 refine one_opG (i := 2) (by kernel_rfl) rfl (fun K hK => ?_)
 go_simp
 refine (HT.out _ HFY.out).mono ?_
 rintro e Y1 ⟨ev3, kv3, rfl, hta3, hf3⟩
 obtain ⟨a3, c3, rfl⟩ := hta3.ents.rd.sl
 obtain ⟨os3, hkr3, -⟩ := hta3.kids
 obtain ⟨a4, c4, rfl⟩ := hkr3.rd.sl
 clear hkr3
 have hS := (⟨hf3.cell' hS.1 id, hf3.cell' hS.2.1 id, hf3.cell' hS.2.2 id⟩ : Y1.cell? ⟨w.heap.size, 0, none⟩ = some (.slice a0 n c0) ∧ Y1.cell? ⟨w.heap.size, 1, none⟩ = some (.slice a1 m c1) ∧ Y1.cell? ⟨w.heap.size, 2, none⟩ = some (.slice a2 k c2))
 rw [HES.out, HKL.out]
 refine hK.out _ _ hS ?_
 clear hK K
 have HTA3 := Lib.hid hta3; clear hta3
 have HF3 := Lib.hid hf3; clear hf3
 try simp only [Act.put, List.setIfInBounds_toArray, List.set_cons_zero, List.set_cons_succ]
 refine one_opG (i := 5) (by kernel_rfl) rfl (fun K hK => ?_)
 go_simp
 refine (HS.out _ (HFY.out.then1 HF3.out)).mono ?_
 rintro e Y2 ⟨v5, rfl, ho5⟩
 obtain ⟨a5, c5, rfl⟩ := ho5.shape
 have hS := (⟨ho5.frm.cell' hS.1 id, ho5.frm.cell' hS.2.1 id, ho5.frm.cell' hS.2.2 id⟩ : Y2.cell? ⟨w.heap.size, 0, none⟩ = some (.slice a0 n c0) ∧ Y2.cell? ⟨w.heap.size, 1, none⟩ = some (.slice a1 m c1) ∧ Y2.cell? ⟨w.heap.size, 2, none⟩ = some (.slice a2 k c2))
 refine hK.out _ _ hS ?_
 clear hK K
 have HO5 := Lib.hid ho5; clear ho5
 try simp only [Act.put, List.setIfInBounds_toArray, List.set_cons_zero, List.set_cons_succ]
 refine tkG 6 13 rfl rfl (v := ?_) (.inl ⟨by rfl, ?_⟩) ?_
 rotate_left 1
 · (intro w hSw; (try dsimp only at hSw); go_simp; (try with_reducible rfl))
 try simp only [Act.put, List.setIfInBounds_toArray, List.set_cons_zero, List.set_cons_succ]
 refine last_opG (by kernel_rfl) (by kernel_rfl) rfl (fun K hK => ?_)
 have hblk := HO5.out.frm.blk (HF3.out.blk HBY.out id) id
 have HR3 := Lib.hid (res3 hblk ((HFY.out.then1 HF3.out).then1 HO5.out.frm) (by omega) (.slice a3 n c3) (.slice a4 m c4) (.slice a5 k c5))
 have hs3 := HF3.out.size
 have hsb2 := lt_of_block hblk
 have HP := Lib.hid ((HTA3.out.keep0 HO5.out.frm).turn (Q' := fun b => w.heap.size ≤ b) fun b hb hQ => ⟨HR3.out.2.2 b (by omega), by omega⟩)
 have hown : OwnAt w (((Y2.setCell ⟨w.heap.size + 1, 0, none⟩ (.slice a3 n c3)).setCell ⟨w.heap.size + 1, 1, none⟩ (.slice a4 m c4)).setCell ⟨w.heap.size + 1, 2, none⟩ (.slice a5 k c5)) 122 3 (.slice a5 k c5) k (spC c) := by
  have hnew := HO5.out.new
  have hbut : OwnBut (fun b => b = w.heap.size + 1) w Y2 122 3 (.slice a5 k c5) k (spC c) := ⟨HO5.out.base (HFY.out.then1 HF3.out), fun b hb hn => by have := hnew b hb; omega⟩
  exact (((hbut.set (p := ⟨w.heap.size + 1, 0, none⟩) rfl (Nat.le_succ _) _).set (p := ⟨w.heap.size + 1, 1, none⟩) rfl (Nat.le_succ _) _).set (p := ⟨w.heap.size + 1, 2, none⟩) rfl (Nat.le_succ _) _).at_
 have HOW := Lib.hid hown; clear hown
 have y0 := cell_at' hblk 0 rfl
 have y1 := cell_at' hblk 1 rfl
 have y2 := cell_at' hblk 2 rfl
 have g0 := free_at' hblk 0
 have g1 := free_at' hblk 1
 have g2 := free_at' hblk 2
 clear hS hblk
 go_simp
 refine hK.out _ _ ?_
 clear hK K y0 y1 y2 g0 g1 g2
 go_wp2
 have y0 := cell_at' HR3.out.1 0 rfl
 have y1 := cell_at' HR3.out.1 1 rfl
 have y2 := cell_at' HR3.out.1 2 rfl
 exact bodyPost_ret (v := .agg #[.slice a3 n c3, .slice a4 m c4, .slice a5 k c5]) (by simp [results, Tryz.results95, go_sem, y0, y1, y2]) rfl ⟨_, _, _, rfl, by have := HP.out; rw [HES.out, HKL.out] at this; exact this, HCL.out.symm ▸ HOW.out⟩
theorem box10 (w : World) (u0 u1 u2 u3 u4 u5 u6 u7 u8 u9 : Value) (T : TypeId) (W : World) (f : Frm NoS (w.alloc (.cells #[u0, u1, u2, u3, u4, u5, u6, u7, u8, u9] T)) W) : W.cell? ⟨w.heap.size, 0, none⟩ = some u0 ∧ W.cell? ⟨w.heap.size, 1, none⟩ = some u1 ∧ W.cell? ⟨w.heap.size, 2, none⟩ = some u2 ∧ W.cell? ⟨w.heap.size, 3, none⟩ = some u3 ∧ W.cell? ⟨w.heap.size, 4, none⟩ = some u4 ∧ W.cell? ⟨w.heap.size, 5, none⟩ = some u5 ∧ W.cell? ⟨w.heap.size, 6, none⟩ = some u6 ∧ W.cell? ⟨w.heap.size, 7, none⟩ = some u7 ∧ W.cell? ⟨w.heap.size, 8, none⟩ = some u8 ∧ W.cell? ⟨w.heap.size, 9, none⟩ = some u9 :=
 ⟨f.cell' (cell_at' (heap_alloc_new w _) 0 rfl) id, f.cell' (cell_at' (heap_alloc_new w _) 1 rfl) id, f.cell' (cell_at' (heap_alloc_new w _) 2 rfl) id, f.cell' (cell_at' (heap_alloc_new w _) 3 rfl) id, f.cell' (cell_at' (heap_alloc_new w _) 4 rfl) id, f.cell' (cell_at' (heap_alloc_new w _) 5 rfl) id, f.cell' (cell_at' (heap_alloc_new w _) 6 rfl) id, f.cell' (cell_at' (heap_alloc_new w _) 7 rfl) id, f.cell' (cell_at' (heap_alloc_new w _) 8 rfl) id, f.cell' (cell_at' (heap_alloc_new w _) 9 rfl) id⟩
theorem fullL_congr {f g : Int → Int} (h : ∀ d, 0 ≤ d → d < 4 → f d = g d) : fullL f = fullL g := by
 unfold fullL wholeL
 simp only [h 0 (by decide) (by decide), h 1 (by decide) (by decide), h 2 (by decide) (by decide), h 3 (by decide) (by decide)]
theorem mayV_congr {f g : Int → Int} (h : ∀ d, 0 ≤ d → d < 4 → f d = g d) : MayV f ↔ MayV g := by
 unfold MayV
 exact ⟨fun x d h0 h4 => by rw [← h d h0 h4]; exact x d h0 h4, fun x d h0 h4 => by rw [h d h0 h4]; exact x d h0 h4⟩
theorem set_vec (v0 v1 v2 v3 x d : Int) (h0 : 0 ≤ d) (h4 : d < 4) :
 vecF x v1 v2 v3 d = setF (vecF v0 v1 v2 v3) 0 x d ∧ vecF v0 x v2 v3 d = setF (vecF v0 v1 v2 v3) 1 x d ∧ vecF v0 v1 x v3 d = setF (vecF v0 v1 v2 v3) 2 x d ∧ vecF v0 v1 v2 x d = setF (vecF v0 v1 v2 v3) 3 x d := by
 rcases four h0 h4 with rfl | rfl | rfl | rfl <;> simp [vecF, setF]
theorem BunNums.may_set {dc af la x : Int} {f : Int → Int} (h : BunNums dc af la f) (h0 : 0 ≤ x) (h1 : x ≤ 1099511627776) : MayV (setF f dc x) := fun d h2 h4 => by
 unfold setF
 by_cases he : d = dc
 · rw [if_pos he]; exact ⟨h0, h1⟩
 · rw [if_neg he]; exact h.2.2.2.2.2.2 d h2 h4
theorem BunNums.own_right {dc af la : Int} {f : Int → Int} (h : BunNums dc af la f) : RightC [(dc, af + 1, la)] := by
 obtain ⟨h0, h1, h2, h3, h4, h5, h6⟩ := h
 exact right_one h0 h1 (by omega) (by omega) h4
end Go.Proofs.YtcahemkomfaabaaGreat
