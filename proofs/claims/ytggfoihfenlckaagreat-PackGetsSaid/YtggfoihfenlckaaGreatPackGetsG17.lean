/- Words for the law PackGets: PackGet6, SmallT, R8c, R16g, Leaf. -/
import Derived.Test.YtggfoihfenlckaaGreatPackGetsG4
import Derived.Test.YtggfoihfenlckaaGreatPackGetsG9
import Derived.Test.YtggfoihfenlckaaGreatPackGetsG10
import Derived.Test.YtggfoihfenlckaaGreatPackGetsG16
set_option linter.unusedSimpArgs false
set_option linter.unusedVariables false
/- pack: GetCausal, Read: the walks. -/
namespace Go.Proofs.YtggfoihfenlckaaGreat
open Go.RowKit
theorem TreeRes.total (st : Option (List UInt8)) : ∃ es ks s, TreeRes st es ks s := by
  by_cases h : ∃ es ks rest, st = some (encT es ks ++ rest) ∧ rightT 5 es ks = true
  · obtain ⟨es, ks, rest, h1, h2⟩ := h
    exact ⟨es, ks, some rest, .inl ⟨rest, h1, h2, rfl⟩⟩
  · exact ⟨[], .nil, none, .inr ⟨rfl, rfl, rfl, fun es ks rest h1 => by
      cases h2 : rightT 5 es ks with
      | false => rfl
      | true => exact absurd ⟨es, ks, rest, h1, h2⟩ h⟩⟩
theorem CtxRes.total (st : Option (List UInt8)) : ∃ c s, CtxRes st c s := by
  by_cases h : ∃ c rest, st = some (encC c ++ rest) ∧ RightC c
  · obtain ⟨c, rest, h1, h2⟩ := h
    exact ⟨c, some rest, .inl ⟨rest, h1, h2, rfl⟩⟩
  · exact ⟨[], none, .inr ⟨rfl, rfl, fun c rest h1 h2 => h ⟨c, rest, h1, h2⟩⟩⟩
theorem CauRes.total (st : Option (List UInt8)) : ∃ es ks c s, CauRes st es ks c s := by
  by_cases h : ∃ es ks c rest, st = some (encX es ks c ++ rest) ∧ CauRight es ks c
  · obtain ⟨es, ks, c, rest, h1, h2⟩ := h
    exact ⟨es, ks, c, some rest, .inl ⟨rest, h1, h2, rfl⟩⟩
  · exact ⟨[], .nil, [], none, .inr ⟨rfl, rfl, rfl, rfl, fun es ks c rest h1 h2 => h ⟨es, ks, c, rest, h1, h2⟩⟩⟩
theorem tree_at {st s : Option (List UInt8)} {es : List Ent} {ks : KidsL} (hr : TreeRes st es ks s) (ib : Nat) (w : World) (h : InSt w ib st) (hl : (leftOf st).length ≤ 60000) :
    Calls Tryz.prog 28 #[.pointer (some ⟨ib, 0, none⟩)] w fun e w' => ∃ ev kv, e = .returned (.agg #[ev, kv]) ∧ TreeAt (fun b => w.heap.size ≤ b) w' ev kv es ks ∧ InSt w' ib s ∧ Frm (Only ib) w w' :=
  (pGetTree_any ib st w h hl).mono fun e w' ⟨ev, kv, es', ks', s', he, ht, hr', hi, hf⟩ => by
    obtain ⟨⟨rfl, rfl⟩, rfl⟩ := hr.det hr'
    exact ⟨ev, kv, he, ht, hi, hf⟩
theorem ctx_at {st s : Option (List UInt8)} {c : CtxL} (hr : CtxRes st c s) (ib : Nat) (w : World) (h : InSt w ib st) (hl : (leftOf st).length ≤ 60000) :
    Calls Tryz.prog 26 #[.pointer (some ⟨ib, 0, none⟩)] w fun e w' => ∃ cv, e = .returned cv ∧ RdQ (fun b => w.heap.size ≤ b) w' cv c.length (spC c) ∧ InSt w' ib s ∧ Frm (Only ib) w w' :=
  (pGetCtx_any ib st w h hl).mono fun e w' ⟨cv, c', s', he, ht, hr', _, _, hi, hf⟩ => by
    obtain ⟨rfl, rfl⟩ := hr.det hr'
    exact ⟨cv, he, ht, hi, hf⟩
theorem CtxRes.fits {st s : Option (List UInt8)} {c : CtxL} (h : CtxRes st c s) : FitsC c := by
  rcases h with ⟨r, rfl, hr, rfl⟩ | ⟨rfl, rfl, _⟩
  · exact hr.fits
  · exact fun s hs => by cases hs
theorem both_ok {st s1 s2 : Option (List UInt8)} {es : List Ent} {ks : KidsL} {c : CtxL} (h1 : TreeRes st es ks s1) (h2 : CtxRes s1 c s2) (hl : (leftOf st).length ≤ 6000) : CauOk es ks c := by
  have g1 := h1.sizes
  have g2 := h2.sizes
  exact ⟨h1.tr (by omega), by omega, h2.fits, by omega⟩
theorem CauRes.ok {st s : Option (List UInt8)} {es : List Ent} {ks : KidsL} {c : CtxL} (h : CauRes st es ks c s) (hl : (leftOf st).length ≤ 6000) : CauOk es ks c := by
  rcases h with ⟨r, rfl, hr, rfl⟩ | ⟨rfl, rfl, rfl, rfl, _⟩
  · refine both_ok (st := some (encX es ks c ++ r)) (s1 := some (encC c ++ r)) (s2 := some r) (.inl ⟨encC c ++ r, ?_, hr.tree, rfl⟩) (.inl ⟨r, rfl, hr.ctx, rfl⟩) hl
    unfold encX
    rw [List.append_assoc]
  · exact ⟨trOk_nil, Nat.zero_le _, (fun s hs => by cases hs), Nat.zero_le _⟩
/-- Whatever is read as a tree and a context of these bytes is small. -/
def CauFit (st : Option (List UInt8)) : Prop := ∀ es ks s1 c s2, TreeRes st es ks s1 → CtxRes s1 c s2 → CauOk es ks c
theorem CauFit.small {st : Option (List UInt8)} (hl : (leftOf st).length ≤ 6000) : CauFit st := fun _ _ _ _ _ h1 h2 => both_ok h1 h2 hl
theorem rdq_nil (Q : Nat → Prop) (w : World) : RdQ Q w (.slice none 0 0) 0 [] := ⟨.inl ⟨none, rfl, rfl, rfl⟩, fun h => absurd rfl h⟩
/-- A context, in blocks with Q. -/
def CtxQ (Q : Nat → Prop) (w : World) (v : Value) (c : CtxL) : Prop := RdQ Q w v c.length (spC c)
theorem CtxQ.keep0 {Q : Nat → Prop} {w w' : World} {v : Value} {c : CtxL} (h : CtxQ Q w v c) (f : Frm NoS w w') : CtxQ Q w' v c := RdQ.keep h f fun _ _ h => h.elim
theorem CtxQ.at_ {Q : Nat → Prop} {w : World} {v : Value} {c : CtxL} (h : CtxQ Q w v c) : CtxAt w v c := RdQ.rd h
/-- What taking what is known answers. -/
def CauTk (es : List Ent) (ks : KidsL) (c : CtxL) (s : Option (List UInt8)) (ib : Nat) (w : World) (e : Ending) (w' : World) : Prop :=
  ∃ ev kv cv, e = .returned (.agg #[ev, kv, cv]) ∧ TreeAt (fun b => w.heap.size ≤ b) w' ev kv es ks ∧ CtxQ (fun b => w.heap.size ≤ b) w' cv c ∧ InSt w' ib s ∧ Frm (Only ib) w w'
theorem cauOut {Q : Nat → Prop} {w ww w' : World} {ib : Nat} {s : Option (List UInt8)} {e2 k2 c2 : Value} {es2 : List Ent} {ks2 : KidsL} {c : CtxL}
    (hin : InSt ww ib s) (hib : ib < w.heap.size) (hf : Frm (Only ib) w ww) (ht : TreeAt Q ww e2 k2 es2 ks2) (hc : CtxQ Q ww c2 c) (hq : ∀ b, Q b → w.heap.size ≤ b ∧ b ≠ w.heap.size) (hts : Frm (fun b => b = w.heap.size) ww w') :
    CauTk es2 ks2 c s ib w (.returned (.agg #[e2, k2, c2])) w' :=
  ⟨e2, k2, c2, rfl, ht.turn fun b hb hQ => ⟨hts.block b hb (hq b hQ).2, (hq b hQ).1⟩, (RdQ.turn hc (Q' := fun b => w.heap.size ≤ b) fun b hb hQ => ⟨hts.block b hb (hq b hQ).2, (hq b hQ).1⟩), hin.keep hts fun j hj hs => by have hs : j = w.heap.size := hs; omega, hf.trans hts fun i hi hs => by have hs : i = w.heap.size := hs; omega⟩
theorem three_set (w : World) (b : Nat) (u u' u2 : Value) : Frm (Only b) w (((w.setCell ⟨b, 0, none⟩ u).setCell ⟨b, 1, none⟩ u').setCell ⟨b, 2, none⟩ u2) := ((only_set w b 0 u).trans (only_set _ b 1 u') fun _ _ h => h).trans (only_set _ b 2 u2) fun _ _ h => h
set_option maxHeartbeats 2000000 in
set_option maxRecDepth 1000000 in
theorem pGetCausal_fit (ib : Nat) (st s : Option (List UInt8)) (es : List Ent) (ks : KidsL) (c : CtxL) (w : World) (hc : CauRes st es ks c s) (h : InSt w ib st) (hl : (leftOf st).length ≤ 60000) (hfit : CauFit st) :
    Calls Tryz.prog 30 #[.pointer (some ⟨ib, 0, none⟩)] w (CauTk es ks c s ib w) := by
  have hib := h.lt
  have hno : ¬ Only ib w.heap.size := fun h => by have h : w.heap.size = ib := h; omega
  have HNO := Lib.hid hno; clear hno
  have HB0 := Lib.hid (heap_alloc_new w (.cells #[.slice none 0 0, .slice none 0 0, .slice none 0 0] 37))
  have HI0 := Lib.hid (h.keep (Frm.alloc NoS w (.cells #[.slice none 0 0, .slice none 0 0, .slice none 0 0] 37)) fun _ _ => id)
  have HIB := Lib.hid hib; clear hib
  have HF0 := Lib.hid ((Frm.alloc NoS w (.cells #[.slice none 0 0, .slice none 0 0, .slice none 0 0] 37)).mono (T := Only ib) fun _ _ h => h.elim)
  have HS0 := Lib.hid (show (w.alloc (.cells #[.slice none 0 0, .slice none 0 0, .slice none 0 0] 37)).heap.size = w.heap.size + 1 by simp)
  clear h
  obtain ⟨es1, ks1, s1, ht1⟩ := TreeRes.total st
  obtain ⟨c1, s2, hc1⟩ := CtxRes.total s1
  have hok := hfit _ _ _ _ _ ht1 hc1
  have hl1 := ht1.sizes
  have HG := Lib.hid (tree_at ht1 ib _ HI0.out (by omega))
  have HC := Lib.hid (fun W (h : InSt W ib s1) => ctx_at hc1 ib W h (by omega))
  have HRT := Lib.hid (fun W Q ev kv cv (h : CauAt Q W ev kv cv es1 ks1 c1) => caRight_any Q es1 ks1 c1 W ev kv cv h hok)
  clear hok hl1 hfit
  cases s2 with
  | some r =>
    by_cases hr : CauRight es1 ks1 c1
    · rw [tf_true hr] at HRT
      obtain ⟨⟨⟨rfl, rfl⟩, rfl⟩, rfl⟩ := hc.det (cau_good ht1 hc1 hr)
      clear hc hr ht1 hc1
      go_enter Tryz.func30, Tryz.ntmps30
      go_wp2_with (first
        | (go_at_call 28; refine HG.out.mono ?_; rintro e w1 ⟨ev, kv, rfl, hta, hi1, hf1⟩; obtain ⟨a3, c3, rfl⟩ := hta.ents.rd.sl; obtain ⟨os3, hkr3, -⟩ := hta.kids; obtain ⟨a4, c4, rfl⟩ := hkr3.rd.sl; clear hkr3
           have HB1 := Lib.hid (hf1.blk HB0.out HNO.out)
           have HTA := Lib.hid hta; clear hta
           have HI1 := Lib.hid hi1; clear hi1
           have HF1 := Lib.hid hf1; clear hf1)
        | (go_at_call 26; refine (HC.out _ HI1.out).mono ?_; rintro e w2 ⟨cv, rfl, hrc, hi2, hf2⟩; obtain ⟨a5, c5, rfl⟩ := hrc.rd.sl
           have HB2 := Lib.hid (hf2.blk HB1.out HNO.out)
           have HTA2 := Lib.hid (HTA.out.turn (Q' := fun b => (w.alloc (.cells #[.slice none 0 0, .slice none 0 0, .slice none 0 0] 37)).heap.size ≤ b) fun b hb hQ => ⟨hf2.block b hb fun hs => by have hs : b = ib := hs; have := HIB.out; have := HS0.out; omega, hQ⟩)
           have HRC := Lib.hid (show CtxQ (fun b => (w.alloc (.cells #[.slice none 0 0, .slice none 0 0, .slice none 0 0] 37)).heap.size ≤ b) w2 (.slice a5 c.length c5) c from hrc.turn fun b hb hQ => ⟨rfl, Nat.le_trans HF1.out.size hQ⟩); clear hrc
           have HI2 := Lib.hid hi2; clear hi2
           have HF2 := Lib.hid ((HF0.out.trans HF1.out fun _ _ h => h).trans hf2 fun _ _ h => h)
           clear hf2
           generalize es.length = n at *
           generalize ks.len = m at *
           generalize c.length = k at *
           have HA2 := Lib.hid (Frm.alloc NoS w2 (.cells #[.slice a3 n c3, .slice a4 m c4, .slice a5 k c5] 37))
           have HX2 := Lib.hid (heap_alloc_new w2 (.cells #[.slice a3 n c3, .slice a4 m c4, .slice a5 k c5] 37)))
        | (go_at_call 17; refine (bad_go ib _ _ (HI2.out.keep HA2.out fun _ _ => id)).mono ?_; rintro e w9 ⟨rfl, rfl⟩)
        | (go_at_call 82; refine (HRT.out _ _ _ _ _ ⟨HTA2.out.keep0 HA2.out, (HRC.out.keep0 HA2.out).at_⟩).mono ?_; rintro e w3 ⟨rfl, hf3⟩
           have hx3 := hf3.blk HX2.out id
           have z0 := cell_at' hx3 0 rfl
           have z1 := cell_at' hx3 1 rfl
           have z2 := cell_at' hx3 2 rfl
           have hb3 := hf3.blk (HA2.out.blk HB2.out id) id
           have y0 := cell_at' hb3 0 rfl
           have y1 := cell_at' hb3 1 rfl
           have y2 := cell_at' hb3 2 rfl
           have f0 := free_at' hb3 0
           have f1 := free_at' hb3 1
           have f2 := free_at' hb3 2
           have hl2 := lt_of_block hb3
           have hl3 := lt_of_block hx3
           have HB3 := Lib.hid hb3
           have HF3 := Lib.hid (HA2.out.then1 hf3)
           clear hf3 hx3 hb3))
      clear y0 y1 y2 z0 z1 z2
      have y0 := cell_at' (set_at' (set_at' (set_at' HB3.out 0 (.slice a3 n c3)) 1 (.slice a4 m c4)) 2 (.slice a5 k c5)) 0 rfl
      have y1 := cell_at' (set_at' (set_at' (set_at' HB3.out 0 (.slice a3 n c3)) 1 (.slice a4 m c4)) 2 (.slice a5 k c5)) 1 rfl
      have y2 := cell_at' (set_at' (set_at' (set_at' HB3.out 0 (.slice a3 n c3)) 1 (.slice a4 m c4)) 2 (.slice a5 k c5)) 2 rfl
      have hts := three_set w3 w.heap.size (.slice a3 n c3) (.slice a4 m c4) (.slice a5 k c5)
      exact bodyPost_ret (v := .agg #[.slice a3 n c3, .slice a4 m c4, .slice a5 k c5]) (by simp [results, Tryz.results30, go_sem, y0, y1, y2]) rfl (cauOut (HI2.out.keep HF3.out fun _ _ => id) HIB.out (HF2.out.trans HF3.out fun _ _ h => h.elim) (HTA2.out.keep0 HF3.out) (HRC.out.keep0 HF3.out) (fun b h => by have := HS0.out; have h : (w.alloc (.cells #[.slice none 0 0, .slice none 0 0, .slice none 0 0] 37)).heap.size ≤ b := h; omega) hts)
    · rw [tf_false hr] at HRT
      obtain ⟨⟨⟨rfl, rfl⟩, rfl⟩, rfl⟩ := hc.det (cau_bad ht1 hc1 (.inr hr))
      clear hc hr ht1 hc1
      go_enter Tryz.func30, Tryz.ntmps30
      go_wp2_with (first
        | (go_at_call 28; refine HG.out.mono ?_; rintro e w1 ⟨ev, kv, rfl, hta, hi1, hf1⟩; obtain ⟨a3, c3, rfl⟩ := hta.ents.rd.sl; obtain ⟨os3, hkr3, -⟩ := hta.kids; obtain ⟨a4, c4, rfl⟩ := hkr3.rd.sl; clear hkr3
           have HB1 := Lib.hid (hf1.blk HB0.out HNO.out)
           have HTA := Lib.hid hta; clear hta
           have HI1 := Lib.hid hi1; clear hi1
           have HF1 := Lib.hid hf1; clear hf1)
        | (go_at_call 26; refine (HC.out _ HI1.out).mono ?_; rintro e w2 ⟨cv, rfl, hrc, hi2, hf2⟩; obtain ⟨a5, c5, rfl⟩ := hrc.rd.sl
           have HB2 := Lib.hid (hf2.blk HB1.out HNO.out)
           have HTA2 := Lib.hid (HTA.out.turn (Q' := fun b => (w.alloc (.cells #[.slice none 0 0, .slice none 0 0, .slice none 0 0] 37)).heap.size ≤ b) fun b hb hQ => ⟨hf2.block b hb fun hs => by have hs : b = ib := hs; have := HIB.out; have := HS0.out; omega, hQ⟩)
           have HRC := Lib.hid (show CtxQ (fun b => (w.alloc (.cells #[.slice none 0 0, .slice none 0 0, .slice none 0 0] 37)).heap.size ≤ b) w2 (.slice a5 c1.length c5) c1 from hrc.turn fun b hb hQ => ⟨rfl, Nat.le_trans HF1.out.size hQ⟩); clear hrc
           have HI2 := Lib.hid hi2; clear hi2
           have HF2 := Lib.hid ((HF0.out.trans HF1.out fun _ _ h => h).trans hf2 fun _ _ h => h)
           clear hf2
           generalize es1.length = n at *
           generalize ks1.len = m at *
           generalize c1.length = k at *
           have HA2 := Lib.hid (Frm.alloc NoS w2 (.cells #[.slice a3 n c3, .slice a4 m c4, .slice a5 k c5] 37)))
        | (go_at_call 17; refine (bad_go ib _ _ (HI2.out.keep HA2.out fun _ _ => id)).mono ?_; rintro e w9 ⟨rfl, rfl⟩)
        | (go_at_call 82; refine (HRT.out _ _ _ _ _ ⟨HTA2.out.keep0 HA2.out, (HRC.out.keep0 HA2.out).at_⟩).mono ?_; rintro e w3 ⟨rfl, hf3⟩; have HF3 := Lib.hid (HA2.out.then1 hf3); clear hf3)
        | (go_at_call 79; obtain ⟨a, c, hh⟩ := (HI2.out.keep HF3.out fun _ _ => id).heap; refine (fail_go ib _ _ w3 hh).mono ?_; rintro e w4 ⟨rfl, hi4, hf4⟩
           have HI4 := Lib.hid (show InSt w4 ib none from hi4); clear hi4 hh
           have hb3 := hf4.blk (HF3.out.blk HB2.out id) HNO.out
           have y0 := cell_at' hb3 0 rfl
           have y1 := cell_at' hb3 1 rfl
           have y2 := cell_at' hb3 2 rfl
           have f0 := free_at' hb3 0
           have f1 := free_at' hb3 1
           have f2 := free_at' hb3 2
           have hl2 := lt_of_block hb3
           have HB3 := Lib.hid hb3
           have HF4 := Lib.hid ((HF2.out.trans HF3.out fun _ _ h => h.elim).trans hf4 fun _ _ h => h)
           clear hf4 hb3))
      clear y0 y1 y2
      have y0 := cell_at' (set_at' (set_at' (set_at' HB3.out 0 (.slice none 0 0)) 1 (.slice none 0 0)) 2 (.slice none 0 0)) 0 rfl
      have y1 := cell_at' (set_at' (set_at' (set_at' HB3.out 0 (.slice none 0 0)) 1 (.slice none 0 0)) 2 (.slice none 0 0)) 1 rfl
      have y2 := cell_at' (set_at' (set_at' (set_at' HB3.out 0 (.slice none 0 0)) 1 (.slice none 0 0)) 2 (.slice none 0 0)) 2 rfl
      have hts := three_set w4 w.heap.size (.slice none 0 0) (.slice none 0 0) (.slice none 0 0)
      exact bodyPost_ret (v := .agg #[.slice none 0 0, .slice none 0 0, .slice none 0 0]) (by simp [results, Tryz.results30, go_sem, y0, y1, y2]) rfl (cauOut (c := []) HI4.out HIB.out HF4.out (tree_nilQ (fun b => w.heap.size ≤ b ∧ b ≠ w.heap.size) w4) (rdq_nil _ _) (fun b h => h) hts)
  | none =>
    obtain ⟨⟨⟨rfl, rfl⟩, rfl⟩, rfl⟩ := hc.det (cau_bad ht1 hc1 (.inl rfl))
    clear hc ht1 hc1 HRT
    go_enter Tryz.func30, Tryz.ntmps30
    go_wp2_with (first
      | (go_at_call 28; refine HG.out.mono ?_; rintro e w1 ⟨ev, kv, rfl, hta, hi1, hf1⟩; obtain ⟨a3, c3, rfl⟩ := hta.ents.rd.sl; obtain ⟨os3, hkr3, -⟩ := hta.kids; obtain ⟨a4, c4, rfl⟩ := hkr3.rd.sl; clear hkr3 hta
         have HB1 := Lib.hid (hf1.blk HB0.out HNO.out)
         have HI1 := Lib.hid hi1; clear hi1
         have HF1 := Lib.hid hf1; clear hf1)
      | (go_at_call 26; refine (HC.out _ HI1.out).mono ?_; rintro e w2 ⟨cv, rfl, hrc, hi2, hf2⟩; obtain ⟨a5, c5, rfl⟩ := hrc.rd.sl; clear hrc
         have HB2 := Lib.hid (hf2.blk HB1.out HNO.out)
         have HI2 := Lib.hid hi2; clear hi2
         have HF2 := Lib.hid ((HF0.out.trans HF1.out fun _ _ h => h).trans hf2 fun _ _ h => h)
         clear hf2
         generalize es1.length = n at *
         generalize ks1.len = m at *
         generalize c1.length = k at *
         have HA2 := Lib.hid (Frm.alloc NoS w2 (.cells #[.slice a3 n c3, .slice a4 m c4, .slice a5 k c5] 37)))
      | (go_at_call 17; refine (bad_go ib _ _ (HI2.out.keep HA2.out fun _ _ => id)).mono ?_; rintro e w9 ⟨rfl, rfl⟩)
      | (go_at_call 79; obtain ⟨a, c, hh⟩ := (HI2.out.keep HA2.out fun _ _ => id).heap; refine (fail_go ib _ _ _ hh).mono ?_; rintro e w4 ⟨rfl, hi4, hf4⟩
         have HI4 := Lib.hid (show InSt w4 ib none from hi4); clear hi4 hh
         have hb3 := hf4.blk (HA2.out.blk HB2.out id) HNO.out
         have y0 := cell_at' hb3 0 rfl
         have y1 := cell_at' hb3 1 rfl
         have y2 := cell_at' hb3 2 rfl
         have f0 := free_at' hb3 0
         have f1 := free_at' hb3 1
         have f2 := free_at' hb3 2
         have hl2 := lt_of_block hb3
         have HB3 := Lib.hid hb3
         have HF4 := Lib.hid ((HF2.out.trans HA2.out fun _ _ h => h.elim).trans hf4 fun _ _ h => h)
         clear hf4 hb3))
    clear y0 y1 y2
    have y0 := cell_at' (set_at' (set_at' (set_at' HB3.out 0 (.slice none 0 0)) 1 (.slice none 0 0)) 2 (.slice none 0 0)) 0 rfl
    have y1 := cell_at' (set_at' (set_at' (set_at' HB3.out 0 (.slice none 0 0)) 1 (.slice none 0 0)) 2 (.slice none 0 0)) 1 rfl
    have y2 := cell_at' (set_at' (set_at' (set_at' HB3.out 0 (.slice none 0 0)) 1 (.slice none 0 0)) 2 (.slice none 0 0)) 2 rfl
    have hts := three_set w4 w.heap.size (.slice none 0 0) (.slice none 0 0) (.slice none 0 0)
    exact bodyPost_ret (v := .agg #[.slice none 0 0, .slice none 0 0, .slice none 0 0]) (by simp [results, Tryz.results30, go_sem, y0, y1, y2]) rfl (cauOut (c := []) HI4.out HIB.out HF4.out (tree_nilQ (fun b => w.heap.size ≤ b ∧ b ≠ w.heap.size) w4) (rdq_nil _ _) (fun b h => h) hts)
theorem pGetCausal_at (ib : Nat) (st s : Option (List UInt8)) (es : List Ent) (ks : KidsL) (c : CtxL) (w : World) (hc : CauRes st es ks c s) (h : InSt w ib st) (hl : (leftOf st).length ≤ 6000) :
    Calls Tryz.prog 30 #[.pointer (some ⟨ib, 0, none⟩)] w (CauTk es ks c s ib w) := pGetCausal_fit ib st s es ks c w hc h (by omega) (.small hl)
end Go.Proofs.YtggfoihfenlckaaGreat
/- How many entries and kids a tree has, counted down: the plain law. -/
namespace Go.Proofs.YtggfoihfenlckaaGreat
end Go.Proofs.YtggfoihfenlckaaGreat
/- tributaryref08: room, Small, Right: the walks. -/
namespace Go.Proofs.YtggfoihfenlckaaGreat
open Go.RowKit
set_option maxRecDepth 100000 in
theorem r8Right_any (Q : Nat → Prop) (es : List Ent) (ks : KidsL) (w : World) (ev kv : Value) (ht : TreeAt Q w ev kv es ks) (hok : TrOk es ks) :
    Calls Tryz.prog 69 #[.agg #[ev, kv]] w fun e w' => e = .returned (.bool (rightT 5 es ks)) ∧ Frm NoS w w' := by
  obtain ⟨ae, ce, rfl⟩ := ht.ents.rd.sl
  obtain ⟨os, hkr, hfor⟩ := ht.kids
  obtain ⟨ak, ck, rfl⟩ := hkr.rd.sl
  have hc : ∀ W, Frm NoS w W → Calls Tryz.prog 122 #[.agg #[.slice ae es.length ce, .slice ak ks.len ck], .int .i64 5] W fun e w' => e = .returned (.bool (rightT 5 es ks)) ∧ Frm NoS W w' := fun W f => r8right_any Q _ es ks 5 W _ _ (Nat.lt_succ_self _) (ht.keep0 f) hok (by omega)
  have HC := Lib.hid hc
  clear hkr hfor ht hok hc
  generalize rightT 5 es ks = y at *
  generalize es.length = n at *
  generalize ks.len = m at *
  go_enter Tryz.func69, Tryz.ntmps69
  go_wp2_with (go_at_call 122; refine (HC.out _ (Frm.alloc _ _ _)).mono ?_; rintro e w3 ⟨rfl, hw3⟩; have HW3 := Lib.hid ((Frm.alloc NoS _ _).then1 hw3); clear hw3)
  go_ret
  exact ⟨rfl, HW3.out⟩
end Go.Proofs.YtggfoihfenlckaaGreat
/- tributaryref16: ToTree: the walk. -/
namespace Go.Proofs.YtggfoihfenlckaaGreat
open Go.RowKit
theorem r16tree_ok {w0 : World} {es : List Ent} {ks : KidsL} {bs r : List UInt8} (hg : GetOk bdR 5 bs es ks r) (v : Value) (w : World) (h : RIn w0 w v (some bs)) (h0 : w0.heap.size ≤ w.heap.size) (hl : bs.length ≤ 60000) :
    Calls Tryz.prog 120 #[.agg #[v, .bool false], .int .i64 5] w fun e w' => ∃ ev kv a l, e = .returned (.tuple #[.agg #[ev, kv], .agg #[.slice a r.length l, .bool false]]) ∧ TreeAt (fun b => w.heap.size ≤ b) w' ev kv es ks ∧ RIn w0 w' (.slice a r.length l) (some r) ∧ Frm NoS w w' := by
  refine Calls.mono (r16tree_any 5 v (some bs) w (Nat.le_refl _) h h0 hl) fun e w' ⟨ev, kv, es', ks', s, a, l, he, ht, hr, hi, hf⟩ => ?_
  rcases hr with ⟨b2, r2, h1, h2, h3⟩ | ⟨_, h2⟩
  · injection h1 with h1
    subst h1 h2
    have e2 : encT es' ks' ++ r2 = encT es ks ++ r := by rw [← h3.eq, ← hg.eq]
    obtain ⟨⟨rfl, rfl⟩, rfl⟩ := encT_pfx e2
    exact ⟨ev, kv, a, l, he, ht, hi, hf⟩
  · exact absurd hg (h2 _ _ _ _ rfl)
theorem r16tree_no {w0 : World} {st : Option (List UInt8)} (hg : ∀ bs es ks r, st = some bs → ¬ GetOk bdR 5 bs es ks r) (v : Value) (w : World) (h : RIn w0 w v st) (h0 : w0.heap.size ≤ w.heap.size) (hl : (leftOf st).length ≤ 60000) :
    Calls Tryz.prog 120 #[.agg #[v, .bool st.isNone], .int .i64 5] w fun e w' => ∃ a n c a2 n2 c2 a3 l3, e = .returned (.tuple #[.agg #[.slice a n c, .slice a2 n2 c2], .agg #[.slice a3 0 l3, .bool true]]) ∧ RIn w0 w' (.slice a3 0 l3) none ∧ Frm NoS w w' := by
  refine Calls.mono (r16tree_any 5 v st w (Nat.le_refl _) h h0 hl) fun e w' ⟨ev, kv, es', ks', s, a, l, he, ht, hr, hi, hf⟩ => ?_
  obtain ⟨a0, c0, rfl⟩ := ht.ents.rd.sl
  obtain ⟨os, hk, _⟩ := ht.kids
  obtain ⟨a1, c1, rfl⟩ := hk.rd.sl
  rcases hr with ⟨b2, r2, h1, h2, h3⟩ | ⟨rfl, _⟩
  · exact absurd h3 (hg _ _ _ _ h1)
  · exact ⟨_, _, _, _, _, _, a, l, he, hi, hf⟩
def ToTreePost (w0 w : World) (es : List Ent) (ks : KidsL) (s : Option (List UInt8)) (e : Ending) (w' : World) : Prop :=
  ∃ ev kv a l, e = .returned (.tuple #[.agg #[ev, kv], .agg #[.slice a (leftOf s).length l, .bool s.isNone]]) ∧ TreeAt (fun b => w.heap.size ≤ b) w' ev kv es ks ∧ RIn w0 w' (.slice a (leftOf s).length l) s ∧ Frm NoS w w'
theorem totFin {w0 w W W' : World} {es : List Ent} {ks : KidsL} {ev kv : Value} {a : Option Addr} {l : Nat} {s : Option (List UInt8)} (ht : TreeAt (fun b => w.heap.size + 1 + 1 + 1 ≤ b) W ev kv es ks) (hr : RIn w0 W (.slice a (leftOf s).length l) s) (h0 : w0.heap.size ≤ w.heap.size) (hf : Frm NoS w W) (f : Frm (XT w) W W') :
    ToTreePost w0 w es ks s (.returned (.tuple #[.agg #[ev, kv], .agg #[.slice a (leftOf s).length l, .bool s.isNone]])) W' := by
  refine ⟨ev, kv, a, l, rfl, ht.turn fun b hb hQ => ⟨f.block b hb fun hs => ?_, by have hQ : w.heap.size + 1 + 1 + 1 ≤ b := hQ; omega⟩, hr.keep f fun k hk hs => ?_, hf.trans f fun i hi hs => ?_⟩
  · have hQ : w.heap.size + 1 + 1 + 1 ≤ b := hQ
    rcases hs with hs | hs | hs <;> omega
  · rcases hs with hs | hs | hs <;> omega
  · rcases hs with hs | hs | hs <;> omega
theorem TrS.start3 {w0 w W : World} {a : Option Addr} {l : Nat} {st : Option (List UInt8)} (h : RIn w0 w (.slice a (leftOf st).length l) st) (h0 : w0.heap.size ≤ w.heap.size)
    (hW : W = ((w.alloc (.cells #[.slice a (leftOf st).length l, .bool st.isNone] 51)).alloc (.cells #[.slice none 0 0, .slice none 0 0] 35)).alloc (.cells #[.slice none 0 0, .bool false] 51)) :
    TrS w0 w W st ∧ RIn w0 W (.slice a (leftOf st).length l) st ∧ W.heap[w.heap.size]? = some (.cells #[.slice a (leftOf st).length l, .bool st.isNone] 51 (0, 0)) ∧ Frm NoS w W ∧ W.heap.size = w.heap.size + 1 + 1 + 1 := by
  subst hW
  have f0 : Frm NoS w (w.alloc (.cells #[.slice a (leftOf st).length l, .bool st.isNone] 51)) := Frm.alloc _ _ _
  have f1 : Frm NoS _ ((w.alloc (.cells #[.slice a (leftOf st).length l, .bool st.isNone] 51)).alloc (.cells #[.slice none 0 0, .slice none 0 0] 35)) := Frm.alloc _ _ _
  have f2 : Frm NoS _ (((w.alloc (.cells #[.slice a (leftOf st).length l, .bool st.isNone] 51)).alloc (.cells #[.slice none 0 0, .slice none 0 0] 35)).alloc (.cells #[.slice none 0 0, .bool false] 51)) := Frm.alloc _ _ _
  have g0 := f2.blk (f1.blk (heap_alloc_new w (.cells #[.slice a (leftOf st).length l, .bool st.isNone] 51)) id) id
  have g1 := f2.blk (heap_alloc_new (w.alloc (.cells #[.slice a (leftOf st).length l, .bool st.isNone] 51)) (.cells #[.slice none 0 0, .slice none 0 0] 35)) id
  have g2 := heap_alloc_new ((w.alloc (.cells #[.slice a (leftOf st).length l, .bool st.isNone] 51)).alloc (.cells #[.slice none 0 0, .slice none 0 0] 35)) (.cells #[.slice none 0 0, .bool false] 51)
  have sz : ∀ (u : World) (o : Obj), (u.alloc o).heap.size = u.heap.size + 1 := fun u o => by simp
  simp only [sz] at g1 g2
  have hf := (f0.then1 f1).then1 f2
  have hr := h.keep0 hf
  exact ⟨⟨⟨a, l, hr, g0⟩, g1, g2, h0⟩, hr, g0, hf, by simp only [sz]⟩
set_option maxHeartbeats 8000000 in
set_option maxRecDepth 1000000 in
theorem r16ToTree_at {w0 : World} {v : Value} {st s : Option (List UInt8)} {es : List Ent} {ks : KidsL} (w : World) (h : RIn w0 w v st) (h0 : w0.heap.size ≤ w.heap.size) (hc : TreeRes st es ks s) (hl : (leftOf st).length ≤ 60000) :
    Calls Tryz.prog 63 #[.agg #[v, .bool st.isNone]] w (ToTreePost w0 w es ks s) := by
  obtain ⟨a0, c0, rfl⟩ := h.shape
  obtain ⟨WB, hWB⟩ : ∃ W, W = ((w.alloc (.cells #[.slice a0 (leftOf st).length c0, .bool st.isNone] 51)).alloc (.cells #[.slice none 0 0, .slice none 0 0] 35)).alloc (.cells #[.slice none 0 0, .bool false] 51) := ⟨_, rfl⟩
  obtain ⟨hts, hrb, hbb, hfb, hsz⟩ := TrS.start3 h h0 hWB
  have HTS := Lib.hid hts; clear hts
  have HRB := Lib.hid hrb; clear hrb
  have HBB := Lib.hid hbb; clear hbb
  have HFB := Lib.hid hfb; clear hfb
  have HSZ := Lib.hid hsz; clear hsz
  have HH0 := Lib.hid h0; clear h0
  clear h
  by_cases hg : ∃ bs es ks r, st = some bs ∧ GetOk bdR 5 bs es ks r
  · obtain ⟨bs, es1, ks1, r, rfl, hg⟩ := hg
    have HC := Lib.hid (fun W v (hr : RIn w0 W v (some bs)) (f : w0.heap.size ≤ W.heap.size) => r16tree_ok hg v W hr f hl)
    have hok := (hg.tr bdR_ok (Nat.le_trans hl (by decide))).1
    have HRT := Lib.hid (fun W Q ev kv (h : TreeAt Q W ev kv es1 ks1) => r8Right_any Q es1 ks1 W ev kv h hok)
    clear hok
    have HWB := Lib.hid (show WB = ((w.alloc (.cells #[.slice a0 bs.length c0, .bool false] 51)).alloc (.cells #[.slice none 0 0, .slice none 0 0] 35)).alloc (.cells #[.slice none 0 0, .bool false] 51) from hWB); clear hWB
    have HBB := Lib.hid (show WB.heap[w.heap.size]? = some (.cells #[.slice a0 bs.length c0, .bool false] 51 (0, 0)) from HBB.out)
    show Calls Tryz.prog 63 #[.agg #[.slice a0 bs.length c0, .bool false]] w (ToTreePost w0 w es ks s)
    cases hr : rightT 5 es1 ks1 with
    | true =>
      rw [hr] at HRT
      obtain ⟨⟨rfl, rfl⟩, rfl⟩ := hc.det (tree_good (B := bdR) (st := some bs) (rest := r) (.inl ⟨bs, r, rfl, rfl, hg⟩) hr)
      clear hr hg hl hc
      go_enter Tryz.func63, Tryz.ntmps63
      go_wp2_with (first
        | (go_at_call 120; rw [← HWB.out]; go_loud (refine (HC.out WB _ HRB.out (Nat.le_trans HH0.out HFB.out.size)).mono ?_); rintro e w1 ⟨ev, kv, a3, l3, rfl, hta, hr1, hf1⟩; obtain ⟨a4, c4, rfl⟩ := hta.ents.rd.sl; obtain ⟨os5, hkr5, -⟩ := hta.kids; obtain ⟨a5, c5, rfl⟩ := hkr5.rd.sl; clear hkr5
           generalize es.length = n at *
           generalize ks.len = m at *
           have hbw := hf1.blk HBB.out id; have y0 := cell_at' hbw 0 rfl; have y1 := cell_at' hbw 1 rfl; have y2 := free_at' hbw 0; have y3 := free_at' hbw 1; have y4 := lt_of_block hbw
           have f2 := two_set w1 w.heap.size (.slice a3 r.length l3) (.bool false)
           have hsw : ((w1.setCell ⟨w.heap.size, 0, none⟩ (.slice a3 r.length l3)).setCell ⟨w.heap.size, 1, none⟩ (.bool false)).heap.size = w1.heap.size := by simp
           have hal : Frm NoS ((w1.setCell ⟨w.heap.size, 0, none⟩ (.slice a3 r.length l3)).setCell ⟨w.heap.size, 1, none⟩ (.bool false)) (((w1.setCell ⟨w.heap.size, 0, none⟩ (.slice a3 r.length l3)).setCell ⟨w.heap.size, 1, none⟩ (.bool false)).alloc (.cells #[.slice a4 n c4, .slice a5 m c5] 35)) := Frm.alloc _ _ _
           have HTS2 := Lib.hid ((HTS.out.put hf1 hr1 (L := r.length) rfl (b := false) rfl).keep hal)
           have hx2 := heap_alloc_new ((w1.setCell ⟨w.heap.size, 0, none⟩ (.slice a3 r.length l3)).setCell ⟨w.heap.size, 1, none⟩ (.bool false)) (.cells #[.slice a4 n c4, .slice a5 m c5] 35)
           rw [hsw] at hx2
           have HX2 := Lib.hid hx2; clear hx2 hsw
           have HB2 := Lib.hid (hal.blk (set_at' (set_at' hbw 0 (.slice a3 r.length l3)) 1 (.bool false)) id)
           have HF2 := Lib.hid (((HFB.out.then1 hf1).trans f2 fun i hi e => by have e : i = w.heap.size := e; omega).then1 hal)
           have HR2 := Lib.hid ((hr1.keep f2 fun k hk e => by have e : k = w.heap.size := e; have := HH0.out; omega).keep0 hal)
           have HTA2 := Lib.hid ((hta.turn (Q' := fun b => w.heap.size + 1 + 1 + 1 ≤ b) fun b hb hQ => ⟨f2.block b hb (fun e => by have e : b = w.heap.size := e; have := HSZ.out; have hQ : WB.heap.size ≤ b := hQ; omega), by have := HSZ.out; have hQ : WB.heap.size ≤ b := hQ; omega⟩).keep0 hal)
           clear hal f2 hta hr1 hf1 hbw)
        | (go_at_call 69; go_loud (refine (HRT.out _ _ _ _ HTA2.out).mono ?_); rintro e w3 ⟨rfl, hf3⟩; clear y0 y1 y2 y3 y4
           have g1 := (HTS2.out.keep hf3).r1
           have g2 := (HTS2.out.keep hf3).r2
           have x0 := cell_at' g1 0 rfl
           have x1 := cell_at' g1 1 rfl
           have f0 := free_at' g1 0
           have f1 := free_at' g1 1
           have hl1 := lt_of_block g1
           have x2 := cell_at' g2 0 rfl
           have x3 := cell_at' g2 1 rfl
           have f2 := free_at' g2 0
           have f3 := free_at' g2 1
           have hl2 := lt_of_block g2
           have G1 := Lib.hid g1; clear g1
           have G2 := Lib.hid g2; clear g2
           have hb3 := hf3.blk HB2.out id
           have y0 : w3.cell? ⟨w.heap.size, 0, none⟩ = some (.slice a3 r.length l3) := cell_at' hb3 0 rfl
           have y1 : w3.cell? ⟨w.heap.size, 1, none⟩ = some (.bool false) := cell_at' hb3 1 rfl
           have y4 := lt_of_block hb3
           have hx3 := hf3.blk HX2.out id
           have z0 : w3.cell? ⟨w1.heap.size, 0, none⟩ = some (.slice a4 n c4) := cell_at' hx3 0 rfl
           have z1 : w3.cell? ⟨w1.heap.size, 1, none⟩ = some (.slice a5 m c5) := cell_at' hx3 1 rfl
           have z4 := lt_of_block hx3
           have HF3 := Lib.hid hf3
           clear hf3 hb3 hx3))
      go_region
      all_goals
        clear x0 x1 x2 x3 f0 f1 f2 f3 hl1 hl2 y0 y1 y4 z0 z1 z4
        obtain ⟨y0, y1, y2, y3⟩ := stores4_at (x0 := .slice a4 n c4) (x1 := .slice a5 m c5) (y0 := .slice a3 r.length l3) (y1 := .bool false) G1.out G2.out _ rfl
        go_wp2
        exact bodyPost_ret (v := .tuple #[.agg #[.slice a4 n c4, .slice a5 m c5], .agg #[.slice a3 r.length l3, .bool false]]) (by simp [results, Tryz.results63, go_sem, y0, y1, y2, y3]) rfl (totFin (s := some r) (HTA2.out.keep0 HF3.out) (HR2.out.keep0 HF3.out) HH0.out (HF2.out.then1 HF3.out) ((stores4 w w3 _ _ _ _).then1 (Frm.drew NoS _)))
    | false =>
      rw [hr] at HRT
      obtain ⟨⟨rfl, rfl⟩, rfl⟩ := hc.det (tree_wrong (B := bdR) (st := some bs) (rest := r) (.inl ⟨bs, r, rfl, rfl, hg⟩) hr)
      clear hr hg hl hc
      go_enter Tryz.func63, Tryz.ntmps63
      go_wp2_with (first
        | (go_at_call 120; rw [← HWB.out]; go_loud (refine (HC.out WB _ HRB.out (Nat.le_trans HH0.out HFB.out.size)).mono ?_); rintro e w1 ⟨ev, kv, a3, l3, rfl, hta, hr1, hf1⟩; obtain ⟨a4, c4, rfl⟩ := hta.ents.rd.sl; obtain ⟨os5, hkr5, -⟩ := hta.kids; obtain ⟨a5, c5, rfl⟩ := hkr5.rd.sl; clear hkr5
           generalize es1.length = n at *
           generalize ks1.len = m at *
           have hbw := hf1.blk HBB.out id; have y0 := cell_at' hbw 0 rfl; have y1 := cell_at' hbw 1 rfl; have y2 := free_at' hbw 0; have y3 := free_at' hbw 1; have y4 := lt_of_block hbw
           have f2 := two_set w1 w.heap.size (.slice a3 r.length l3) (.bool false)
           have hsw : ((w1.setCell ⟨w.heap.size, 0, none⟩ (.slice a3 r.length l3)).setCell ⟨w.heap.size, 1, none⟩ (.bool false)).heap.size = w1.heap.size := by simp
           have hal : Frm NoS ((w1.setCell ⟨w.heap.size, 0, none⟩ (.slice a3 r.length l3)).setCell ⟨w.heap.size, 1, none⟩ (.bool false)) (((w1.setCell ⟨w.heap.size, 0, none⟩ (.slice a3 r.length l3)).setCell ⟨w.heap.size, 1, none⟩ (.bool false)).alloc (.cells #[.slice a4 n c4, .slice a5 m c5] 35)) := Frm.alloc _ _ _
           have HTS2 := Lib.hid ((HTS.out.put hf1 hr1 (L := r.length) rfl (b := false) rfl).keep hal)
           have hx2 := heap_alloc_new ((w1.setCell ⟨w.heap.size, 0, none⟩ (.slice a3 r.length l3)).setCell ⟨w.heap.size, 1, none⟩ (.bool false)) (.cells #[.slice a4 n c4, .slice a5 m c5] 35)
           rw [hsw] at hx2
           have HX2 := Lib.hid hx2; clear hx2 hsw
           have HB2 := Lib.hid (hal.blk (set_at' (set_at' hbw 0 (.slice a3 r.length l3)) 1 (.bool false)) id)
           have HF2 := Lib.hid (((HFB.out.then1 hf1).trans f2 fun i hi e => by have e : i = w.heap.size := e; omega).then1 hal)
           have HR2 := Lib.hid ((hr1.keep f2 fun k hk e => by have e : k = w.heap.size := e; have := HH0.out; omega).keep0 hal)
           have HTA2 := Lib.hid ((hta.turn (Q' := fun b => w.heap.size + 1 + 1 + 1 ≤ b) fun b hb hQ => ⟨f2.block b hb (fun e => by have e : b = w.heap.size := e; have := HSZ.out; have hQ : WB.heap.size ≤ b := hQ; omega), by have := HSZ.out; have hQ : WB.heap.size ≤ b := hQ; omega⟩).keep0 hal)
           clear hal f2 hta hr1 hf1 hbw)
        | (go_at_call 69; go_loud (refine (HRT.out _ _ _ _ HTA2.out).mono ?_); rintro e w3 ⟨rfl, hf3⟩; have HF3 := Lib.hid hf3; clear hf3)
        | (go_at_call 119; go_loud (refine (rbad_any _).mono ?_); rintro e w9 ⟨rfl, hf9⟩; clear y0 y1 y2 y3 y4
           have g1 := (HTS2.out.keep (HF3.out.then1 hf9)).r1
           have g2 := (HTS2.out.keep (HF3.out.then1 hf9)).r2
           have x0 := cell_at' g1 0 rfl
           have x1 := cell_at' g1 1 rfl
           have f0 := free_at' g1 0
           have f1 := free_at' g1 1
           have hl1 := lt_of_block g1
           have x2 := cell_at' g2 0 rfl
           have x3 := cell_at' g2 1 rfl
           have f2 := free_at' g2 0
           have f3 := free_at' g2 1
           have hl2 := lt_of_block g2
           have G1 := Lib.hid g1; clear g1
           have G2 := Lib.hid g2; clear g2
           have HF9 := Lib.hid (HF2.out.then1 (HF3.out.then1 hf9))
           clear hf9))
      clear x0 x1 x2 x3 f0 f1 f2 f3 hl1 hl2
      obtain ⟨y0, y1, y2, y3⟩ := stores4_at (x0 := .slice none 0 0) (x1 := .slice none 0 0) (y0 := .slice none 0 0) (y1 := .bool true) G1.out G2.out _ rfl
      exact bodyPost_ret (v := .tuple #[.agg #[.slice none 0 0, .slice none 0 0], .agg #[.slice none 0 0, .bool true]]) (by simp [results, Tryz.results63, go_sem, y0, y1, y2, y3]) rfl (totFin (a := none) (l := 0) (s := none) (tree_nilQ _ _) (RIn.bad w0 _) HH0.out HF9.out (stores4 w w9 _ _ _ _))
  · have hg' : ∀ bs es ks r, st = some bs → ¬ GetOk bdR 5 bs es ks r := fun bs es ks r h1 h2 => hg ⟨bs, es, ks, r, h1, h2⟩
    have HC := Lib.hid (fun W v (hr : RIn w0 W v st) (f : w0.heap.size ≤ W.heap.size) => r16tree_no hg' v W hr f hl)
    obtain ⟨⟨rfl, rfl⟩, rfl⟩ := hc.det (tree_bad (B := bdR) (es := []) (ks := .nil) wideR (.inr ⟨rfl, hg'⟩ : GetRes bdR 5 st [] .nil none))
    clear hg hg' hl hc
    generalize st.isNone = bd at *
    generalize (leftOf st).length = L0 at *
    have HWB := Lib.hid hWB; clear hWB
    go_enter Tryz.func63, Tryz.ntmps63
    go_wp2_with (first
        | (go_at_call 120; rw [← HWB.out]; go_loud (refine (HC.out WB _ HRB.out (Nat.le_trans HH0.out HFB.out.size)).mono ?_); rintro e w1 ⟨a4, n, c4, a5, m, c5, a3, l3, rfl, hr1, hf1⟩
           have hbw := hf1.blk HBB.out id; have y0 := cell_at' hbw 0 rfl; have y1 := cell_at' hbw 1 rfl; have y2 := free_at' hbw 0; have y3 := free_at' hbw 1; have y4 := lt_of_block hbw
           have f2 := two_set w1 w.heap.size (.slice a3 0 l3) (.bool true)
           have hsw : ((w1.setCell ⟨w.heap.size, 0, none⟩ (.slice a3 0 l3)).setCell ⟨w.heap.size, 1, none⟩ (.bool true)).heap.size = w1.heap.size := by simp
           have hal : Frm NoS ((w1.setCell ⟨w.heap.size, 0, none⟩ (.slice a3 0 l3)).setCell ⟨w.heap.size, 1, none⟩ (.bool true)) (((w1.setCell ⟨w.heap.size, 0, none⟩ (.slice a3 0 l3)).setCell ⟨w.heap.size, 1, none⟩ (.bool true)).alloc (.cells #[.slice a4 n c4, .slice a5 m c5] 35)) := Frm.alloc _ _ _
           have HTS2 := Lib.hid ((HTS.out.put hf1 hr1 (L := 0) rfl (b := true) rfl).keep hal)
           have hx2 := heap_alloc_new ((w1.setCell ⟨w.heap.size, 0, none⟩ (.slice a3 0 l3)).setCell ⟨w.heap.size, 1, none⟩ (.bool true)) (.cells #[.slice a4 n c4, .slice a5 m c5] 35)
           rw [hsw] at hx2
           have HX2 := Lib.hid hx2; clear hx2 hsw
           have HB2 := Lib.hid (hal.blk (set_at' (set_at' hbw 0 (.slice a3 0 l3)) 1 (.bool true)) id)
           have HF2 := Lib.hid (((HFB.out.then1 hf1).trans f2 fun i hi e => by have e : i = w.heap.size := e; omega).then1 hal)
           have HR2 := Lib.hid ((hr1.keep f2 fun k hk e => by have e : k = w.heap.size := e; have := HH0.out; omega).keep0 hal)
           clear hal f2 hr1 hf1 hbw)
        | (go_at_call 119; go_loud (refine (rbad_any _).mono ?_); rintro e w9 ⟨rfl, hf9⟩; clear y0 y1 y2 y3 y4
           have g1 := (HTS2.out.keep hf9).r1
           have g2 := (HTS2.out.keep hf9).r2
           have x0 := cell_at' g1 0 rfl
           have x1 := cell_at' g1 1 rfl
           have f0 := free_at' g1 0
           have f1 := free_at' g1 1
           have hl1 := lt_of_block g1
           have x2 := cell_at' g2 0 rfl
           have x3 := cell_at' g2 1 rfl
           have f2 := free_at' g2 0
           have f3 := free_at' g2 1
           have hl2 := lt_of_block g2
           have G1 := Lib.hid g1; clear g1
           have G2 := Lib.hid g2; clear g2
           have HF9 := Lib.hid (HF2.out.then1 hf9)
           clear hf9))
    clear x0 x1 x2 x3 f0 f1 f2 f3 hl1 hl2
    obtain ⟨y0, y1, y2, y3⟩ := stores4_at (x0 := .slice none 0 0) (x1 := .slice none 0 0) (y0 := .slice none 0 0) (y1 := .bool true) G1.out G2.out _ rfl
    exact bodyPost_ret (v := .tuple #[.agg #[.slice none 0 0, .slice none 0 0], .agg #[.slice none 0 0, .bool true]]) (by simp [results, Tryz.results63, go_sem, y0, y1, y2, y3]) rfl (totFin (a := none) (l := 0) (s := none) (tree_nilQ _ _) (RIn.bad w0 _) HH0.out HF9.out (stores4 w w9 _ _ _ _))
end Go.Proofs.YtggfoihfenlckaaGreat
/- Leaves: how a slice of them lies; the dots of them. -/
namespace Go.Proofs.YtggfoihfenlckaaGreat
open Go.RowKit
/-- A leaf: where its path lies, and its entry. -/
abbrev LeafL := List (Value × Ent)
def lfC (l : LeafL) : List Value := l.flatMap fun x => x.1 :: x.2.cells
def lfE (p : Value) (es : List Ent) : LeafL := es.map fun e => (p, e)
def dotsL (l : LeafL) : RunL := l.map fun x => (x.2.dc, x.2.n)
def OneL (l : LeafL) : Prop := ∀ x ∈ l, x.1.oneCell' = true
theorem lfC_append (a b : LeafL) : lfC (a ++ b) = lfC a ++ lfC b := by simp [lfC]
theorem lfC_cons (x : Value × Ent) (l : LeafL) : lfC (x :: l) = x.1 :: .int .i64 x.2.dc :: .int .i64 x.2.n :: .string x.2.s :: .int .i64 x.2.k :: lfC l := rfl
theorem lfC_length : ∀ l : LeafL, (lfC l).length = l.length * 5
  | [] => rfl
  | x :: l => by rw [lfC_cons]; simp only [List.length_cons, lfC_length l]; omega
theorem lfC_oneCell {l : LeafL} (h : OneL l) : ∀ v ∈ lfC l, v.oneCell' = true := by
  intro v hv
  simp only [lfC, List.mem_flatMap] at hv
  obtain ⟨x, hx, hv⟩ := hv
  rcases List.mem_cons.1 hv with rfl | hv
  · exact h x hx
  · simp [Ent.cells] at hv
    rcases hv with rfl | rfl | rfl | rfl <;> rfl
theorem lfC_at : ∀ (l : LeafL) (k : Nat), k < l.length → (lfC l)[k * 5 + 1]? = some (.int .i64 (l.getD k (.bool true, Ent.zero)).2.dc) ∧ (lfC l)[k * 5 + 2]? = some (.int .i64 (l.getD k (.bool true, Ent.zero)).2.n)
  | [], _, h => by cases h
  | x :: l, 0, _ => ⟨rfl, rfl⟩
  | x :: l, k + 1, h => by
    obtain ⟨h1, h2⟩ := lfC_at l k (by simpa using h)
    rw [lfC_cons, show (k + 1) * 5 + 1 = (k * 5 + 1) + 1 + 1 + 1 + 1 + 1 by omega, show (k + 1) * 5 + 2 = (k * 5 + 2) + 1 + 1 + 1 + 1 + 1 by omega]
    exact ⟨h1, h2⟩
theorem lf_at {w : World} {b off c n : Nat} {l : LeafL} (h : Rd w (.slice (some ⟨b, off, none⟩) n c) n (lfC l)) (k : Nat) (hk : k < l.length) :
    w.cell? ⟨b, off + k * 5 + 1, none⟩ = some (.int .i64 (l.getD k (.bool true, Ent.zero)).2.dc) ∧ w.cell? ⟨b, off + k * 5 + 2, none⟩ = some (.int .i64 (l.getD k (.bool true, Ent.zero)).2.n) := by
  obtain ⟨h1, h2⟩ := lfC_at l k hk
  exact ⟨h.cell (k * 5 + 1) _ h1, h.cell (k * 5 + 2) _ h2⟩
theorem dotsL_take_succ {l : LeafL} {k : Nat} (hk : k < l.length) : dotsL (l.take (k + 1)) = dotsL (l.take k) ++ [((l.getD k (.bool true, Ent.zero)).2.dc, (l.getD k (.bool true, Ent.zero)).2.n)] := by
  rw [take_succ (.bool true, Ent.zero) hk]; simp [dotsL]
theorem dotsL_append (a b : LeafL) : dotsL (a ++ b) = dotsL a ++ dotsL b := by simp [dotsL]
theorem dotsL_length (l : LeafL) : (dotsL l).length = l.length := by simp [dotsL]
theorem dotsL_lfE (p : Value) (es : List Ent) : dotsL (lfE p es) = dotsE es := by simp [dotsL, lfE, dotsE]
theorem lfE_length (p : Value) (es : List Ent) : (lfE p es).length = es.length := by simp [lfE]
theorem OneL.lfE {p : Value} (h : p.oneCell' = true) (es : List Ent) : OneL (lfE p es) := fun x hx => by
  obtain ⟨e, _, rfl⟩ := List.mem_map.1 hx
  exact h
theorem OneL.append {a b : LeafL} (ha : OneL a) (hb : OneL b) : OneL (a ++ b) := fun x hx => (List.mem_append.1 hx).elim (ha x) (hb x)
theorem lfE_take_succ {p : Value} {es : List Ent} {k : Nat} (hk : k < es.length) : lfC (lfE p (es.take (k + 1))) = lfC (lfE p (es.take k)) ++ [p, .int .i64 (es.getD k Ent.zero).dc, .int .i64 (es.getD k Ent.zero).n, .string (es.getD k Ent.zero).s, .int .i64 (es.getD k Ent.zero).k] := by
  rw [take_succ Ent.zero hk, show lfE p (es.take k ++ [es.getD k Ent.zero]) = lfE p (es.take k) ++ [(p, es.getD k Ent.zero)] by simp [lfE], lfC_append]
  rfl
/-- The texts of a path. -/
def stV (l : List ByteArray) : List Value := l.map .string
theorem stV_append (a b : List ByteArray) : stV (a ++ b) = stV a ++ stV b := by simp [stV]
@[simp] theorem stV_length (l : List ByteArray) : (stV l).length = l.length := by simp [stV]
theorem stV_oneCell (l : List ByteArray) : ∀ v ∈ stV l, v.oneCell' = true := by
  intro v hv
  simp only [stV, List.mem_map] at hv
  obtain ⟨r, _, rfl⟩ := hv
  rfl
theorem info_leaf : (Tryz.prog.info? 189).map (fun i => (i.zero, i.size, i.bytes)) = some (some (.agg #[.slice none 0 0, .int .i64 0, .int .i64 0, .string ByteArray.empty, .int .i64 0]), 5, 64) := by kernel_rfl
theorem info_string : (Tryz.prog.info? 9).map (fun i => (i.zero, i.size, i.bytes)) = some (some (.string ByteArray.empty), 1, 16) := by kernel_rfl
end Go.Proofs.YtggfoihfenlckaaGreat