/- Words for the law PackLong: PackGet6, PackRead, Put1, PackPut, PackPut2, PackPut3, CSame. -/
import Derived.Test.YtafdclkpeomomaaPackLongG5
import Derived.Test.YtafdclkpeomomaaPackLongG13
import Derived.Test.YtafdclkpeomomaaPackLongG16
import Derived.Test.YtafdclkpeomomaaPackLongG17
set_option linter.unusedSimpArgs false
set_option linter.unusedVariables false
/- pack: GetCausal, Read: the walks. -/
namespace Go.Proofs.Ytafdclkpeomomaa
open Go.RowKit

theorem TreeRes.total (st : Option (List UInt8)) : ∃ es ks s, TreeRes st es ks s := by
  by_cases h : ∃ es ks rest, st = some (encT es ks ++ rest) ∧ rightT 5 es ks = true
  · obtain ⟨es, ks, rest, h1, h2⟩ := h
    exact ⟨es, ks, some rest, .inl ⟨rest, h1, h2, rfl⟩⟩
  · exact ⟨[], .nil, none, .inr ⟨rfl, rfl, rfl, fun es ks rest h1 => by
      cases h2 : rightT 5 es ks with
      | false => rfl
      | true => exact absurd ⟨es, ks, rest, h1, h2⟩ h⟩⟩
theorem CtxRes.total (st : Option (List UInt8)) : ∃ c s, CtxRes st c s := by
  by_cases h : ∃ c rest, st = some (encC c ++ rest) ∧ RightC c
  · obtain ⟨c, rest, h1, h2⟩ := h
    exact ⟨c, some rest, .inl ⟨rest, h1, h2, rfl⟩⟩
  · exact ⟨[], none, .inr ⟨rfl, rfl, fun c rest h1 h2 => h ⟨c, rest, h1, h2⟩⟩⟩
theorem CauRes.total (st : Option (List UInt8)) : ∃ es ks c s, CauRes st es ks c s := by
  by_cases h : ∃ es ks c rest, st = some (encX es ks c ++ rest) ∧ CauRight es ks c
  · obtain ⟨es, ks, c, rest, h1, h2⟩ := h
    exact ⟨es, ks, c, some rest, .inl ⟨rest, h1, h2, rfl⟩⟩
  · exact ⟨[], .nil, [], none, .inr ⟨rfl, rfl, rfl, rfl, fun es ks c rest h1 h2 => h ⟨es, ks, c, rest, h1, h2⟩⟩⟩
theorem tree_at {st s : Option (List UInt8)} {es : List Ent} {ks : KidsL} (hr : TreeRes st es ks s) (ib : Nat) (w : World) (h : InSt w ib st) (hl : (leftOf st).length ≤ 60000) :
    Calls Try.prog 25 #[.pointer (some ⟨ib, 0, none⟩)] w fun e w' => ∃ ev kv, e = .returned (.agg #[ev, kv]) ∧ TreeAt (fun b => w.heap.size ≤ b) w' ev kv es ks ∧ InSt w' ib s ∧ Frm (Only ib) w w' :=
  (pGetTree_any ib st w h hl).mono fun e w' ⟨ev, kv, es', ks', s', he, ht, hr', hi, hf⟩ => by
    obtain ⟨⟨rfl, rfl⟩, rfl⟩ := hr.det hr'
    exact ⟨ev, kv, he, ht, hi, hf⟩
theorem ctx_at {st s : Option (List UInt8)} {c : CtxL} (hr : CtxRes st c s) (ib : Nat) (w : World) (h : InSt w ib st) (hl : (leftOf st).length ≤ 60000) :
    Calls Try.prog 26 #[.pointer (some ⟨ib, 0, none⟩)] w fun e w' => ∃ cv, e = .returned cv ∧ RdQ (fun b => w.heap.size ≤ b) w' cv c.length (spC c) ∧ InSt w' ib s ∧ Frm (Only ib) w w' :=
  (pGetCtx_any ib st w h hl).mono fun e w' ⟨cv, c', s', he, ht, hr', _, _, hi, hf⟩ => by
    obtain ⟨rfl, rfl⟩ := hr.det hr'
    exact ⟨cv, he, ht, hi, hf⟩
theorem CtxRes.fits {st s : Option (List UInt8)} {c : CtxL} (h : CtxRes st c s) : FitsC c := by
  rcases h with ⟨r, rfl, hr, rfl⟩ | ⟨rfl, rfl, _⟩
  · exact hr.fits
  · exact fun s hs => by cases hs
theorem both_ok {st s1 s2 : Option (List UInt8)} {es : List Ent} {ks : KidsL} {c : CtxL} (h1 : TreeRes st es ks s1) (h2 : CtxRes s1 c s2) (hl : (leftOf st).length ≤ 6000) : CauOk es ks c := by
  have g1 := h1.sizes
  have g2 := h2.sizes
  exact ⟨h1.tr (by omega), by omega, h2.fits, by omega⟩
theorem CauRes.ok {st s : Option (List UInt8)} {es : List Ent} {ks : KidsL} {c : CtxL} (h : CauRes st es ks c s) (hl : (leftOf st).length ≤ 6000) : CauOk es ks c := by
  rcases h with ⟨r, rfl, hr, rfl⟩ | ⟨rfl, rfl, rfl, rfl, _⟩
  · refine both_ok (st := some (encX es ks c ++ r)) (s1 := some (encC c ++ r)) (s2 := some r) (.inl ⟨encC c ++ r, ?_, hr.tree, rfl⟩) (.inl ⟨r, rfl, hr.ctx, rfl⟩) hl
    unfold encX
    rw [List.append_assoc]
  · exact ⟨trOk_nil, Nat.zero_le _, (fun s hs => by cases hs), Nat.zero_le _⟩
theorem rdq_nil (Q : Nat → Prop) (w : World) : RdQ Q w (.slice none 0 0) 0 [] := ⟨.inl ⟨none, rfl, rfl, rfl⟩, fun h => absurd rfl h⟩
/-- A context, in blocks with Q. -/
def CtxQ (Q : Nat → Prop) (w : World) (v : Value) (c : CtxL) : Prop := RdQ Q w v c.length (spC c)
theorem CtxQ.keep0 {Q : Nat → Prop} {w w' : World} {v : Value} {c : CtxL} (h : CtxQ Q w v c) (f : Frm NoS w w') : CtxQ Q w' v c := RdQ.keep h f fun _ _ h => h.elim
theorem CtxQ.at_ {Q : Nat → Prop} {w : World} {v : Value} {c : CtxL} (h : CtxQ Q w v c) : CtxAt w v c := RdQ.rd h
/-- What taking what is known answers. -/
def CauTk (es : List Ent) (ks : KidsL) (c : CtxL) (s : Option (List UInt8)) (ib : Nat) (w : World) (e : Ending) (w' : World) : Prop :=
  ∃ ev kv cv, e = .returned (.agg #[ev, kv, cv]) ∧ TreeAt (fun b => w.heap.size ≤ b) w' ev kv es ks ∧ CtxQ (fun b => w.heap.size ≤ b) w' cv c ∧ InSt w' ib s ∧ Frm (Only ib) w w'
theorem cauOut {Q : Nat → Prop} {w ww w' : World} {ib : Nat} {s : Option (List UInt8)} {e2 k2 c2 : Value} {es2 : List Ent} {ks2 : KidsL} {c : CtxL}
    (hin : InSt ww ib s) (hib : ib < w.heap.size) (hf : Frm (Only ib) w ww) (ht : TreeAt Q ww e2 k2 es2 ks2) (hc : CtxQ Q ww c2 c) (hq : ∀ b, Q b → w.heap.size ≤ b ∧ b ≠ w.heap.size) (hts : Frm (fun b => b = w.heap.size) ww w') :
    CauTk es2 ks2 c s ib w (.returned (.agg #[e2, k2, c2])) w' :=
  ⟨e2, k2, c2, rfl, ht.turn fun b hb hQ => ⟨hts.block b hb (hq b hQ).2, (hq b hQ).1⟩, (RdQ.turn hc (Q' := fun b => w.heap.size ≤ b) fun b hb hQ => ⟨hts.block b hb (hq b hQ).2, (hq b hQ).1⟩), hin.keep hts fun j hj hs => by have hs : j = w.heap.size := hs; omega, hf.trans hts fun i hi hs => by have hs : i = w.heap.size := hs; omega⟩
theorem three_set (w : World) (b : Nat) (u u' u2 : Value) : Frm (Only b) w (((w.setCell ⟨b, 0, none⟩ u).setCell ⟨b, 1, none⟩ u').setCell ⟨b, 2, none⟩ u2) := ((only_set w b 0 u).trans (only_set _ b 1 u') fun _ _ h => h).trans (only_set _ b 2 u2) fun _ _ h => h
set_option maxHeartbeats 2000000 in
set_option maxRecDepth 1000000 in
theorem pGetCausal_at (ib : Nat) (st s : Option (List UInt8)) (es : List Ent) (ks : KidsL) (c : CtxL) (w : World) (hc : CauRes st es ks c s) (h : InSt w ib st) (hl : (leftOf st).length ≤ 6000) :
    Calls Try.prog 15 #[.pointer (some ⟨ib, 0, none⟩)] w (CauTk es ks c s ib w) := by
  have hib := h.lt
  have hno : ¬ Only ib w.heap.size := fun h => by have h : w.heap.size = ib := h; omega
  have HNO := Lib.hid hno; clear hno
  have HB0 := Lib.hid (heap_alloc_new w (.cells #[.slice none 0 0, .slice none 0 0, .slice none 0 0] 31))
  have HI0 := Lib.hid (h.keep (Frm.alloc NoS w (.cells #[.slice none 0 0, .slice none 0 0, .slice none 0 0] 31)) fun _ _ => id)
  have HIB := Lib.hid hib; clear hib
  have HF0 := Lib.hid ((Frm.alloc NoS w (.cells #[.slice none 0 0, .slice none 0 0, .slice none 0 0] 31)).mono (T := Only ib) fun _ _ h => h.elim)
  have HS0 := Lib.hid (show (w.alloc (.cells #[.slice none 0 0, .slice none 0 0, .slice none 0 0] 31)).heap.size = w.heap.size + 1 by simp)
  clear h
  obtain ⟨es1, ks1, s1, ht1⟩ := TreeRes.total st
  obtain ⟨c1, s2, hc1⟩ := CtxRes.total s1
  have hok := both_ok ht1 hc1 hl
  have hl1 := ht1.sizes
  have HG := Lib.hid (tree_at ht1 ib _ HI0.out (by omega))
  have HC := Lib.hid (fun W (h : InSt W ib s1) => ctx_at hc1 ib W h (by omega))
  have HRT := Lib.hid (fun W Q ev kv cv (h : CauAt Q W ev kv cv es1 ks1 c1) => caRight_any Q es1 ks1 c1 W ev kv cv h hok)
  clear hok hl1
  cases s2 with
  | some r =>
    by_cases hr : CauRight es1 ks1 c1
    · rw [tf_true hr] at HRT
      obtain ⟨⟨⟨rfl, rfl⟩, rfl⟩, rfl⟩ := hc.det (cau_good ht1 hc1 hr)
      clear hc hr ht1 hc1
      go_enter Try.func15, Try.ntmps15
      go_wp2_with (first
        | (go_at_call 25; refine HG.out.mono ?_; rintro e w1 ⟨ev, kv, rfl, hta, hi1, hf1⟩; obtain ⟨a3, c3, rfl⟩ := hta.ents.rd.sl; obtain ⟨os3, hkr3, -⟩ := hta.kids; obtain ⟨a4, c4, rfl⟩ := hkr3.rd.sl; clear hkr3
           have HB1 := Lib.hid (hf1.blk HB0.out HNO.out)
           have HTA := Lib.hid hta; clear hta
           have HI1 := Lib.hid hi1; clear hi1
           have HF1 := Lib.hid hf1; clear hf1)
        | (go_at_call 26; refine (HC.out _ HI1.out).mono ?_; rintro e w2 ⟨cv, rfl, hrc, hi2, hf2⟩; obtain ⟨a5, c5, rfl⟩ := hrc.rd.sl
           have HB2 := Lib.hid (hf2.blk HB1.out HNO.out)
           have HTA2 := Lib.hid (HTA.out.turn (Q' := fun b => (w.alloc (.cells #[.slice none 0 0, .slice none 0 0, .slice none 0 0] 31)).heap.size ≤ b) fun b hb hQ => ⟨hf2.block b hb fun hs => by have hs : b = ib := hs; have := HIB.out; have := HS0.out; omega, hQ⟩)
           have HRC := Lib.hid (show CtxQ (fun b => (w.alloc (.cells #[.slice none 0 0, .slice none 0 0, .slice none 0 0] 31)).heap.size ≤ b) w2 (.slice a5 c.length c5) c from hrc.turn fun b hb hQ => ⟨rfl, Nat.le_trans HF1.out.size hQ⟩); clear hrc
           have HI2 := Lib.hid hi2; clear hi2
           have HF2 := Lib.hid ((HF0.out.trans HF1.out fun _ _ h => h).trans hf2 fun _ _ h => h)
           clear hf2
           generalize es.length = n at *
           generalize ks.len = m at *
           generalize c.length = k at *
           have HA2 := Lib.hid (Frm.alloc NoS w2 (.cells #[.slice a3 n c3, .slice a4 m c4, .slice a5 k c5] 31))
           have HX2 := Lib.hid (heap_alloc_new w2 (.cells #[.slice a3 n c3, .slice a4 m c4, .slice a5 k c5] 31)))
        | (go_at_call 27; refine (bad_go ib _ _ (HI2.out.keep HA2.out fun _ _ => id)).mono ?_; rintro e w9 ⟨rfl, rfl⟩)
        | (go_at_call 11; refine (HRT.out _ _ _ _ _ ⟨HTA2.out.keep0 HA2.out, (HRC.out.keep0 HA2.out).at_⟩).mono ?_; rintro e w3 ⟨rfl, hf3⟩
           have hx3 := hf3.blk HX2.out id
           have z0 := cell_at' hx3 0 rfl
           have z1 := cell_at' hx3 1 rfl
           have z2 := cell_at' hx3 2 rfl
           have hb3 := hf3.blk (HA2.out.blk HB2.out id) id
           have y0 := cell_at' hb3 0 rfl
           have y1 := cell_at' hb3 1 rfl
           have y2 := cell_at' hb3 2 rfl
           have f0 := free_at' hb3 0
           have f1 := free_at' hb3 1
           have f2 := free_at' hb3 2
           have hl2 := lt_of_block hb3
           have hl3 := lt_of_block hx3
           have HB3 := Lib.hid hb3
           have HF3 := Lib.hid (HA2.out.then1 hf3)
           clear hf3 hx3 hb3))
      clear y0 y1 y2 z0 z1 z2
      have y0 := cell_at' (set_at' (set_at' (set_at' HB3.out 0 (.slice a3 n c3)) 1 (.slice a4 m c4)) 2 (.slice a5 k c5)) 0 rfl
      have y1 := cell_at' (set_at' (set_at' (set_at' HB3.out 0 (.slice a3 n c3)) 1 (.slice a4 m c4)) 2 (.slice a5 k c5)) 1 rfl
      have y2 := cell_at' (set_at' (set_at' (set_at' HB3.out 0 (.slice a3 n c3)) 1 (.slice a4 m c4)) 2 (.slice a5 k c5)) 2 rfl
      have hts := three_set w3 w.heap.size (.slice a3 n c3) (.slice a4 m c4) (.slice a5 k c5)
      exact bodyPost_ret (v := .agg #[.slice a3 n c3, .slice a4 m c4, .slice a5 k c5]) (by simp [results, Try.results15, go_sem, y0, y1, y2]) rfl (cauOut (HI2.out.keep HF3.out fun _ _ => id) HIB.out (HF2.out.trans HF3.out fun _ _ h => h.elim) (HTA2.out.keep0 HF3.out) (HRC.out.keep0 HF3.out) (fun b h => by have := HS0.out; have h : (w.alloc (.cells #[.slice none 0 0, .slice none 0 0, .slice none 0 0] 31)).heap.size ≤ b := h; omega) hts)
    · rw [tf_false hr] at HRT
      obtain ⟨⟨⟨rfl, rfl⟩, rfl⟩, rfl⟩ := hc.det (cau_bad ht1 hc1 (.inr hr))
      clear hc hr ht1 hc1
      go_enter Try.func15, Try.ntmps15
      go_wp2_with (first
        | (go_at_call 25; refine HG.out.mono ?_; rintro e w1 ⟨ev, kv, rfl, hta, hi1, hf1⟩; obtain ⟨a3, c3, rfl⟩ := hta.ents.rd.sl; obtain ⟨os3, hkr3, -⟩ := hta.kids; obtain ⟨a4, c4, rfl⟩ := hkr3.rd.sl; clear hkr3
           have HB1 := Lib.hid (hf1.blk HB0.out HNO.out)
           have HTA := Lib.hid hta; clear hta
           have HI1 := Lib.hid hi1; clear hi1
           have HF1 := Lib.hid hf1; clear hf1)
        | (go_at_call 26; refine (HC.out _ HI1.out).mono ?_; rintro e w2 ⟨cv, rfl, hrc, hi2, hf2⟩; obtain ⟨a5, c5, rfl⟩ := hrc.rd.sl
           have HB2 := Lib.hid (hf2.blk HB1.out HNO.out)
           have HTA2 := Lib.hid (HTA.out.turn (Q' := fun b => (w.alloc (.cells #[.slice none 0 0, .slice none 0 0, .slice none 0 0] 31)).heap.size ≤ b) fun b hb hQ => ⟨hf2.block b hb fun hs => by have hs : b = ib := hs; have := HIB.out; have := HS0.out; omega, hQ⟩)
           have HRC := Lib.hid (show CtxQ (fun b => (w.alloc (.cells #[.slice none 0 0, .slice none 0 0, .slice none 0 0] 31)).heap.size ≤ b) w2 (.slice a5 c1.length c5) c1 from hrc.turn fun b hb hQ => ⟨rfl, Nat.le_trans HF1.out.size hQ⟩); clear hrc
           have HI2 := Lib.hid hi2; clear hi2
           have HF2 := Lib.hid ((HF0.out.trans HF1.out fun _ _ h => h).trans hf2 fun _ _ h => h)
           clear hf2
           generalize es1.length = n at *
           generalize ks1.len = m at *
           generalize c1.length = k at *
           have HA2 := Lib.hid (Frm.alloc NoS w2 (.cells #[.slice a3 n c3, .slice a4 m c4, .slice a5 k c5] 31)))
        | (go_at_call 27; refine (bad_go ib _ _ (HI2.out.keep HA2.out fun _ _ => id)).mono ?_; rintro e w9 ⟨rfl, rfl⟩)
        | (go_at_call 11; refine (HRT.out _ _ _ _ _ ⟨HTA2.out.keep0 HA2.out, (HRC.out.keep0 HA2.out).at_⟩).mono ?_; rintro e w3 ⟨rfl, hf3⟩; have HF3 := Lib.hid (HA2.out.then1 hf3); clear hf3)
        | (go_at_call 28; obtain ⟨a, c, hh⟩ := (HI2.out.keep HF3.out fun _ _ => id).heap; refine (fail_go ib _ _ w3 hh).mono ?_; rintro e w4 ⟨rfl, hi4, hf4⟩
           have HI4 := Lib.hid (show InSt w4 ib none from hi4); clear hi4 hh
           have hb3 := hf4.blk (HF3.out.blk HB2.out id) HNO.out
           have y0 := cell_at' hb3 0 rfl
           have y1 := cell_at' hb3 1 rfl
           have y2 := cell_at' hb3 2 rfl
           have f0 := free_at' hb3 0
           have f1 := free_at' hb3 1
           have f2 := free_at' hb3 2
           have hl2 := lt_of_block hb3
           have HB3 := Lib.hid hb3
           have HF4 := Lib.hid ((HF2.out.trans HF3.out fun _ _ h => h.elim).trans hf4 fun _ _ h => h)
           clear hf4 hb3))
      clear y0 y1 y2
      have y0 := cell_at' (set_at' (set_at' (set_at' HB3.out 0 (.slice none 0 0)) 1 (.slice none 0 0)) 2 (.slice none 0 0)) 0 rfl
      have y1 := cell_at' (set_at' (set_at' (set_at' HB3.out 0 (.slice none 0 0)) 1 (.slice none 0 0)) 2 (.slice none 0 0)) 1 rfl
      have y2 := cell_at' (set_at' (set_at' (set_at' HB3.out 0 (.slice none 0 0)) 1 (.slice none 0 0)) 2 (.slice none 0 0)) 2 rfl
      have hts := three_set w4 w.heap.size (.slice none 0 0) (.slice none 0 0) (.slice none 0 0)
      exact bodyPost_ret (v := .agg #[.slice none 0 0, .slice none 0 0, .slice none 0 0]) (by simp [results, Try.results15, go_sem, y0, y1, y2]) rfl (cauOut (c := []) HI4.out HIB.out HF4.out (tree_nilQ (fun b => w.heap.size ≤ b ∧ b ≠ w.heap.size) w4) (rdq_nil _ _) (fun b h => h) hts)
  | none =>
    obtain ⟨⟨⟨rfl, rfl⟩, rfl⟩, rfl⟩ := hc.det (cau_bad ht1 hc1 (.inl rfl))
    clear hc ht1 hc1 HRT
    go_enter Try.func15, Try.ntmps15
    go_wp2_with (first
      | (go_at_call 25; refine HG.out.mono ?_; rintro e w1 ⟨ev, kv, rfl, hta, hi1, hf1⟩; obtain ⟨a3, c3, rfl⟩ := hta.ents.rd.sl; obtain ⟨os3, hkr3, -⟩ := hta.kids; obtain ⟨a4, c4, rfl⟩ := hkr3.rd.sl; clear hkr3 hta
         have HB1 := Lib.hid (hf1.blk HB0.out HNO.out)
         have HI1 := Lib.hid hi1; clear hi1
         have HF1 := Lib.hid hf1; clear hf1)
      | (go_at_call 26; refine (HC.out _ HI1.out).mono ?_; rintro e w2 ⟨cv, rfl, hrc, hi2, hf2⟩; obtain ⟨a5, c5, rfl⟩ := hrc.rd.sl; clear hrc
         have HB2 := Lib.hid (hf2.blk HB1.out HNO.out)
         have HI2 := Lib.hid hi2; clear hi2
         have HF2 := Lib.hid ((HF0.out.trans HF1.out fun _ _ h => h).trans hf2 fun _ _ h => h)
         clear hf2
         generalize es1.length = n at *
         generalize ks1.len = m at *
         generalize c1.length = k at *
         have HA2 := Lib.hid (Frm.alloc NoS w2 (.cells #[.slice a3 n c3, .slice a4 m c4, .slice a5 k c5] 31)))
      | (go_at_call 27; refine (bad_go ib _ _ (HI2.out.keep HA2.out fun _ _ => id)).mono ?_; rintro e w9 ⟨rfl, rfl⟩)
      | (go_at_call 28; obtain ⟨a, c, hh⟩ := (HI2.out.keep HA2.out fun _ _ => id).heap; refine (fail_go ib _ _ _ hh).mono ?_; rintro e w4 ⟨rfl, hi4, hf4⟩
         have HI4 := Lib.hid (show InSt w4 ib none from hi4); clear hi4 hh
         have hb3 := hf4.blk (HA2.out.blk HB2.out id) HNO.out
         have y0 := cell_at' hb3 0 rfl
         have y1 := cell_at' hb3 1 rfl
         have y2 := cell_at' hb3 2 rfl
         have f0 := free_at' hb3 0
         have f1 := free_at' hb3 1
         have f2 := free_at' hb3 2
         have hl2 := lt_of_block hb3
         have HB3 := Lib.hid hb3
         have HF4 := Lib.hid ((HF2.out.trans HA2.out fun _ _ h => h.elim).trans hf4 fun _ _ h => h)
         clear hf4 hb3))
    clear y0 y1 y2
    have y0 := cell_at' (set_at' (set_at' (set_at' HB3.out 0 (.slice none 0 0)) 1 (.slice none 0 0)) 2 (.slice none 0 0)) 0 rfl
    have y1 := cell_at' (set_at' (set_at' (set_at' HB3.out 0 (.slice none 0 0)) 1 (.slice none 0 0)) 2 (.slice none 0 0)) 1 rfl
    have y2 := cell_at' (set_at' (set_at' (set_at' HB3.out 0 (.slice none 0 0)) 1 (.slice none 0 0)) 2 (.slice none 0 0)) 2 rfl
    have hts := three_set w4 w.heap.size (.slice none 0 0) (.slice none 0 0) (.slice none 0 0)
    exact bodyPost_ret (v := .agg #[.slice none 0 0, .slice none 0 0, .slice none 0 0]) (by simp [results, Try.results15, go_sem, y0, y1, y2]) rfl (cauOut (c := []) HI4.out HIB.out HF4.out (tree_nilQ (fun b => w.heap.size ≤ b ∧ b ≠ w.heap.size) w4) (rdq_nil _ _) (fun b h => h) hts)
end Go.Proofs.Ytafdclkpeomomaa

/- pack: Read: the walk. -/
namespace Go.Proofs.Ytafdclkpeomomaa
open Go.RowKit

/-- What Read answers. -/
structure ReadPost (es : List Ent) (ks : KidsL) (c : CtxL) (s : Option (List UInt8)) (w : World) (e : Ending) (w' : World) : Prop where
  yes : doneOf s = true → ∃ ev kv cv, e = .returned (.tuple #[.agg #[ev, kv, cv], .int .i64 0]) ∧ TreeAt (fun b => w.heap.size ≤ b) w' ev kv es ks ∧ CtxQ (fun b => w.heap.size ≤ b) w' cv c
  no : doneOf s = false → e = .returned (.tuple #[.agg #[.slice none 0 0, .slice none 0 0, .slice none 0 0], .int .i64 2])
  frm : Frm NoS w w'
/-- A box laid behind w2 and filled; another block stands. -/
theorem boxed (w2 : World) (b0 : Nat) (cs : Array Value) (T T0 : TypeId) (hb : w2.heap[b0]? = some (.cells cs T0 (0, 0))) (x0 x1 x2 : Value) (W : World) (hW : W = w2.alloc (.cells #[x0, x1, x2] T)) :
    W.heap[w2.heap.size]? = some (.cells #[x0, x1, x2] T (0, 0)) ∧ W.heap[b0]? = some (.cells cs T0 (0, 0)) ∧ Frm NoS w2 W := by
  subst hW
  have f1 : Frm NoS w2 (w2.alloc (.cells #[x0, x1, x2] T)) := Frm.alloc _ _ _
  exact ⟨heap_alloc_new w2 _, f1.blk hb id, f1⟩
set_option maxHeartbeats 2000000 in
set_option maxRecDepth 1000000 in
theorem pRead_any (v : Value) (bs : List UInt8) (es : List Ent) (ks : KidsL) (c : CtxL) (s : Option (List UInt8)) (w : World) (h : Rd w v bs.length (bV bs)) (hc : CauRes (some bs) es ks c s) (hl : bs.length ≤ 6000) :
    Calls Try.prog 9 #[v] w (ReadPost es ks c s w) := by
  have HN := Lib.hid (fun W (f : Frm NoS w W) => newin v bs W (h.keep0 f) (by omega))
  have HG := Lib.hid (fun ib W (hi : InSt W ib (some bs)) => pGetCausal_at ib (some bs) s es ks c W hc hi hl)
  have HB0 := Lib.hid (heap_alloc_new w (.cells #[.slice none 0 0, .slice none 0 0, .slice none 0 0] 31))
  have HS0 := Lib.hid (show (w.alloc (.cells #[.slice none 0 0, .slice none 0 0, .slice none 0 0] 31)).heap.size = w.heap.size + 1 by simp)
  clear h hc hl
  cases hd : doneOf s with
  | true =>
    go_enter Try.func9, Try.ntmps9
    go_wp2_with (first
      | (go_at_call 14; refine (HN.out _ (Frm.alloc _ _ _)).mono ?_; rintro e w1 ⟨ib, rfl, hi1, hib, hf1⟩
         have HB1 := Lib.hid (hf1.blk HB0.out id); have HI1 := Lib.hid hi1; clear hi1; have HIB := Lib.hid (show w.heap.size < ib by have := HS0.out; omega); clear hib; have HF1 := Lib.hid (show Frm NoS w w1 from (Frm.alloc NoS w _).then1 hf1); clear hf1)
      | (go_at_call 15; refine (HG.out _ _ HI1.out).mono ?_; rintro e w2 ⟨ev, kv, cv, rfl, hta, hrc, hi2, hf2⟩; obtain ⟨a3, c3, rfl⟩ := hta.ents.rd.sl; obtain ⟨os3, hkr3, -⟩ := hta.kids; obtain ⟨a4, c4, rfl⟩ := hkr3.rd.sl; obtain ⟨a5, c5, rfl⟩ := hrc.at_.sl; clear hkr3
         have HB2 := Lib.hid (hf2.blk HB1.out (fun h => by have h : w.heap.size = ib := h; have := HIB.out; omega))
         have HTA := Lib.hid hta; clear hta
         have HRC := Lib.hid hrc; clear hrc
         have HI2 := Lib.hid hi2; clear hi2
         have HF2 := Lib.hid (show Frm NoS w w2 from HF1.out.trans hf2 fun i hi hs => by have hs : i = ib := hs; have := HIB.out; omega)
         clear hf2
         generalize es.length = n at *
         generalize ks.len = m at *
         generalize c.length = k at *
         have HBX := Lib.hid (fun W hW => boxed w2 _ _ 31 _ HB2.out (.slice a3 n c3) (.slice a4 m c4) (.slice a5 k c5) W hW))
      | (go_at_call 16;
         obtain ⟨W3, hW3⟩ : ∃ W, W = w2.alloc (.cells #[.slice a3 n c3, .slice a4 m c4, .slice a5 k c5] 31) := ⟨_, rfl⟩
         rw [← hW3]
         obtain ⟨hx, hb, hf3⟩ := HBX.out W3 hW3
         clear hW3
         refine (done_go _ s W3 (HI2.out.keep hf3 fun _ _ => id)).mono ?_; rintro e w9 ⟨rfl, rfl⟩
         rw [hd]
         have z0 := cell_at' hx 0 rfl
         have z1 := cell_at' hx 1 rfl
         have z2 := cell_at' hx 2 rfl
         have y0 := cell_at' hb 0 rfl
         have y1 := cell_at' hb 1 rfl
         have y2 := cell_at' hb 2 rfl
         have f0 := free_at' hb 0
         have f1 := free_at' hb 1
         have f2 := free_at' hb 2
         have hl2 := lt_of_block hb
         have hl3 := lt_of_block hx
         have HB3 := Lib.hid hb
         have HF3 := Lib.hid hf3
         clear hf3 hx hb))
    clear y0 y1 y2 z0 z1 z2
    have y0 := cell_at' (set_at' (set_at' (set_at' HB3.out 0 (.slice a3 n c3)) 1 (.slice a4 m c4)) 2 (.slice a5 k c5)) 0 rfl
    have y1 := cell_at' (set_at' (set_at' (set_at' HB3.out 0 (.slice a3 n c3)) 1 (.slice a4 m c4)) 2 (.slice a5 k c5)) 1 rfl
    have y2 := cell_at' (set_at' (set_at' (set_at' HB3.out 0 (.slice a3 n c3)) 1 (.slice a4 m c4)) 2 (.slice a5 k c5)) 2 rfl
    have hts := three_set W3 w.heap.size (.slice a3 n c3) (.slice a4 m c4) (.slice a5 k c5)
    have hturn : ∀ b, b < w2.heap.size → w1.heap.size ≤ b → ((((W3.setCell ⟨w.heap.size, 0, none⟩ (.slice a3 n c3)).setCell ⟨w.heap.size, 1, none⟩ (.slice a4 m c4)).setCell ⟨w.heap.size, 2, none⟩ (.slice a5 k c5)).heap[b]? = w2.heap[b]? ∧ w.heap.size ≤ b) := fun b hb hQ => by
      have h0 := lt_of_block HB1.out
      refine ⟨?_, by omega⟩
      rw [hts.block b (Nat.lt_of_lt_of_le hb HF3.out.size) (fun hs => by have hs : b = w.heap.size := hs; omega), HF3.out.block b hb id]
    exact bodyPost_ret (v := .tuple #[.agg #[.slice a3 n c3, .slice a4 m c4, .slice a5 k c5], .int .i64 0]) (by simp [results, Try.results9, go_sem, y0, y1, y2]) rfl
      ⟨fun _ => ⟨_, _, _, rfl, HTA.out.turn hturn, RdQ.turn HRC.out hturn⟩, fun h => (by rw [hd] at h; cases h), (HF2.out.then1 HF3.out).trans hts fun i hi hs => by have hs : i = w.heap.size := hs; omega⟩
  | false =>
    go_enter Try.func9, Try.ntmps9
    go_wp2_with (first
      | (go_at_call 14; refine (HN.out _ (Frm.alloc _ _ _)).mono ?_; rintro e w1 ⟨ib, rfl, hi1, hib, hf1⟩
         have HB1 := Lib.hid (hf1.blk HB0.out id); have HI1 := Lib.hid hi1; clear hi1; have HIB := Lib.hid (show w.heap.size < ib by have := HS0.out; omega); clear hib; have HF1 := Lib.hid (show Frm NoS w w1 from (Frm.alloc NoS w _).then1 hf1); clear hf1)
      | (go_at_call 15; refine (HG.out _ _ HI1.out).mono ?_; rintro e w2 ⟨ev, kv, cv, rfl, hta, hrc, hi2, hf2⟩; obtain ⟨a3, c3, rfl⟩ := hta.ents.rd.sl; obtain ⟨os3, hkr3, -⟩ := hta.kids; obtain ⟨a4, c4, rfl⟩ := hkr3.rd.sl; obtain ⟨a5, c5, rfl⟩ := hrc.at_.sl; clear hkr3
         have HB2 := Lib.hid (hf2.blk HB1.out (fun h => by have h : w.heap.size = ib := h; have := HIB.out; omega))
         clear hta hrc
         have HI2 := Lib.hid hi2; clear hi2
         have HF2 := Lib.hid (show Frm NoS w w2 from HF1.out.trans hf2 fun i hi hs => by have hs : i = ib := hs; have := HIB.out; omega)
         clear hf2
         generalize es.length = n at *
         generalize ks.len = m at *
         generalize c.length = k at *
         have HBX := Lib.hid (fun W hW => boxed w2 _ _ 31 _ HB2.out (.slice a3 n c3) (.slice a4 m c4) (.slice a5 k c5) W hW))
      | (go_at_call 16;
         obtain ⟨W3, hW3⟩ : ∃ W, W = w2.alloc (.cells #[.slice a3 n c3, .slice a4 m c4, .slice a5 k c5] 31) := ⟨_, rfl⟩
         rw [← hW3]
         obtain ⟨hx, hb, hf3⟩ := HBX.out W3 hW3
         clear hW3
         refine (done_go _ s W3 (HI2.out.keep hf3 fun _ _ => id)).mono ?_; rintro e w9 ⟨rfl, rfl⟩
         rw [hd]
         have y0 := cell_at' hb 0 rfl
         have y1 := cell_at' hb 1 rfl
         have y2 := cell_at' hb 2 rfl
         have f0 := free_at' hb 0
         have f1 := free_at' hb 1
         have f2 := free_at' hb 2
         have hl2 := lt_of_block hb
         have HB3 := Lib.hid hb
         have HF3 := Lib.hid hf3
         clear hf3 hx hb))
    clear y0 y1 y2
    have y0 := cell_at' (set_at' (set_at' (set_at' HB3.out 0 (.slice none 0 0)) 1 (.slice none 0 0)) 2 (.slice none 0 0)) 0 rfl
    have y1 := cell_at' (set_at' (set_at' (set_at' HB3.out 0 (.slice none 0 0)) 1 (.slice none 0 0)) 2 (.slice none 0 0)) 1 rfl
    have y2 := cell_at' (set_at' (set_at' (set_at' HB3.out 0 (.slice none 0 0)) 1 (.slice none 0 0)) 2 (.slice none 0 0)) 2 rfl
    have hts := three_set W3 w.heap.size (.slice none 0 0) (.slice none 0 0) (.slice none 0 0)
    exact bodyPost_ret (v := .tuple #[.agg #[.slice none 0 0, .slice none 0 0, .slice none 0 0], .int .i64 2]) (by simp [results, Try.results9, go_sem, y0, y1, y2]) rfl
      ⟨fun h => (by rw [hd] at h; cases h), fun _ => rfl, (HF2.out.then1 HF3.out).trans hts fun i hi hs => by have hs : i = w.heap.size := hs; omega⟩
end Go.Proofs.Ytafdclkpeomomaa

/- What is put into an Out, one thing behind the other: the calculus. -/
namespace Go.Proofs.Ytafdclkpeomomaa
open Go.RowKit

/-- So much is put since w: cs behind bs. -/
def Put1 (w : World) (ob : Nat) (v : Value) (bs cs : List UInt8) (ww : World) : Prop :=
  ∃ v', OutAt ww ob v' (bs ++ cs) ∧ Fresh w v v' ∧ Frm (OutS ob v) w ww
variable {w ww w' : World} {ob : Nat} {v : Value} {bs cs ds : List UInt8}
theorem Put1.start (h : OutAt w ob v bs) : Put1 w ob v bs [] w := ⟨v, by rwa [List.append_nil], Fresh.refl _ _, Frm.refl _ _⟩
theorem OutAt.keep0 (h : OutAt w ob v bs) (f : Frm NoS w w') : OutAt w' ob v bs := h.keep f id fun _ _ => id
theorem Put1.keep0 (h : Put1 w ob v bs cs ww) (f : Frm NoS ww w') : Put1 w ob v bs cs w' := by
  obtain ⟨v', h1, h2, h3⟩ := h
  exact ⟨v', h1.keep0 f, h2, h3.then1 f⟩
theorem Put1.base (h : Put1 ww ob v bs cs w') (f : Frm NoS w ww) : Put1 w ob v bs cs w' := by
  obtain ⟨v', h1, h2, h3⟩ := h
  exact ⟨v', h1, Fresh.trans (Fresh.refl w v) f.size h2, (f.mono (T := OutS ob v) fun _ _ h => h.elim).trans h3 fun _ _ h => h⟩
theorem Put1.cast {cs' : List UInt8} (h : Put1 w ob v bs cs w') (e : cs = cs') : Put1 w ob v bs cs' w' := e ▸ h
theorem Put1.trans {v' : Value} (h2 : Fresh w v v') (h3 : Frm (OutS ob v) w ww) (k : Put1 ww ob v' (bs ++ cs) ds w') : Put1 w ob v bs (cs ++ ds) w' := by
  obtain ⟨v2, k1, k2, k3⟩ := k
  exact ⟨v2, by rw [← List.append_assoc]; exact k1, h2.trans h3.size k2, h3.trans k3 (outS_fresh h2)⟩
theorem Put1.call {f : FuncId} {args : Array Value} {E : Ending} (h : Put1 w ob v bs cs ww)
    (k : ∀ v', OutAt ww ob v' (bs ++ cs) → (∀ b, b < w.heap.size → OutS ob v' b → OutS ob v b) → Frm (OutS ob v) w ww → Calls Try.prog f args ww fun e w' => e = E ∧ Put1 ww ob v' (bs ++ cs) ds w') :
    Calls Try.prog f args ww fun e w' => e = E ∧ Put1 w ob v bs (cs ++ ds) w' := by
  obtain ⟨v', h1, h2, h3⟩ := h
  exact (k v' h1 (outS_fresh h2) h3).mono fun e w' ⟨he, hp⟩ => ⟨he, Put1.trans h2 h3 hp⟩
theorem Put1.size (h : Put1 w ob v bs cs ww) : w.heap.size ≤ ww.heap.size := by
  obtain ⟨_, _, _, h⟩ := h
  exact h.size
theorem outS_lt (h : OutAt w ob v bs) : ∀ b, OutS ob v b → b < w.heap.size := fun b hb => by
  rcases hb with hb | hb
  · rw [hb]; exact lt_of_block h.cell
  · exact own_lt h.own b hb
/-- A box that was made ahead of it stands. -/
theorem Put1.cell {ww' : World} {p : Addr} {u : Value} (h : Put1 ww ob v bs cs ww') (hu : ww.cell? p = some u) (hn : ¬ OutS ob v p.block) : ww'.cell? p = some u := by
  obtain ⟨_, _, _, f⟩ := h
  exact f.cell' hu hn
theorem putNum (h : Put1 w ob v bs cs ww) (x : Int) (hx : inR x) (hl : bs.length + cs.length ≤ 95000000) :
    Calls Try.prog 37 #[.pointer (some ⟨ob, 0, none⟩), .int .i64 x] ww fun e w' => e = .returned (.tuple #[]) ∧ Put1 w ob v bs (cs ++ numB x) w' :=
  h.call fun v' ho _ _ => num_go ob x ww v' _ ho hx.1 hx.2 (by rw [List.length_append]; omega)
theorem putText (h : Put1 w ob v bs cs ww) (s : ByteArray) (hl : bs.length + cs.length + s.size ≤ 95000000) :
    Calls Try.prog 50 #[.pointer (some ⟨ob, 0, none⟩), .string s] ww fun e w' => e = .returned (.tuple #[]) ∧ Put1 w ob v bs (cs ++ textB s) w' :=
  h.call fun v' ho _ _ => text_go ob s ww v' _ ho (by rw [List.length_append]; omega)
theorem RdQ.put {Q : Nat → Prop} {u : Value} {n : Nat} {xs : List Value} (h : RdQ Q w u n xs) (hq : ∀ b, OutS ob v b → ¬ Q b) (hp : Put1 w ob v bs cs ww) : Rd ww u n xs := by
  obtain ⟨_, _, _, f⟩ := hp
  exact (h.keep f fun b _ hs => hq b hs).rd
end Go.Proofs.Ytafdclkpeomomaa

/- pack: PutCtx, putDot, put: the walks. -/
namespace Go.Proofs.Ytafdclkpeomomaa
open Go.RowKit

theorem encSs_le {c : CtxL} (hf : FitsC c) : ∀ k, (encSs (c.take k)).length ≤ 30 * k := fun k => by
  have h : (encSs (c.take k)).length ≤ 30 * (c.take k).length := flat_le fun s hs => by
    have hb := hf s (List.mem_of_mem_take hs)
    have h1 := numB_le10 (v := s.1) (by omega) (by omega)
    have h2 := numB_le10 (v := s.2.1) (by omega) (by omega)
    have h3 := numB_le10 (v := s.2.2) (by omega) (by omega)
    unfold encS
    simp only [List.length_append]
    omega
  have := List.length_take_le k c
  exact Nat.le_trans h (Nat.mul_le_mul_left _ this)
theorem encSs_snoc {c : CtxL} {k : Nat} (h : k < c.length) : encSs (c.take (k + 1)) = encSs (c.take k) ++ encS (c.getD k (0, 0, 0)) := by
  rw [take_succ (0, 0, 0) h]
  unfold encSs
  rw [List.flatMap_append]
  simp
noncomputable def ctxB (c : CtxL) : List UInt8 := if tf (RightC c) then encC c else encC []
theorem encC_nil : encC [] = numB 0 := by unfold encC encSs; simp
set_option maxHeartbeats 2000000 in
set_option maxRecDepth 1000000 in
theorem pPutCtx_any (Q : Nat → Prop) (ob : Nat) (w : World) (v : Value) (bs : List UInt8) (cv : Value) (c : CtxL) (ho : OutAt w ob v bs) (hc : RdQ Q w cv c.length (spC c)) (hq : ∀ b, OutS ob v b → ¬ Q b) (hf : FitsC c) (hl : c.length ≤ 100000) (hb : bs.length ≤ 80000000) :
    Calls Try.prog 23 #[.pointer (some ⟨ob, 0, none⟩), cv] w fun e w' => e = .returned (.tuple #[]) ∧ Put1 w ob v bs (ctxB c) w' := by
  have HRT := Lib.hid (cRight_any w cv c hc.rd hf hl)
  have HQ := Lib.hid hq; clear hq
  have HC := Lib.hid hc; clear hc
  have HF := Lib.hid hf; clear hf
  have HO := Lib.hid ho; clear ho
  obtain ⟨aA, cA, rfl⟩ := HC.out.rd.sl
  unfold ctxB
  by_cases hr : RightC c
  · rw [tf_true hr] at HRT ⊢
    clear hr
    have HE := Lib.hid (encSs_le HF.out)
    have HFIN := Lib.hid (show numB c.length ++ encSs (c.take c.length) = encC c by unfold encC; rw [List.take_length])
    generalize hn : c.length = n at *
    have HN := Lib.hid hn; clear hn
    rw [if_pos rfl]
    go_enter Try.func23, Try.ntmps23
    go_wp2_with (first
      | (go_at_call 32; refine HRT.out.mono ?_; rintro e w1 ⟨rfl, hw1⟩; have HP0 := Lib.hid ((Put1.start HO.out).keep0 hw1); clear hw1)
      | (go_at_call 37; refine (putNum HP0.out n ⟨by omega, by omega⟩ (by simp only [List.length_nil]; omega)).mono ?_; rintro e w2 ⟨rfl, hp⟩; have HP := Lib.hid hp; clear hp))
    go_loopw [15] (fun i ww => ∃ k : Nat, k ≤ n ∧ i = .int .i64 k ∧ Put1 w ob v bs (numB n ++ encSs (c.take k)) ww) (fun i _ => n - (intOf i).toNat)
    case atStart => exact ⟨0, Nat.zero_le _, rfl, HP.out.cast (by simp [encSs])⟩
    case round =>
      obtain ⟨k, hk, rfl, hp⟩ := hrel
      have HP1 := Lib.hid hp; clear hp
      by_cases hlt : k < n
      · have hlk : k < c.length := by rw [HN.out]; exact hlt
        have hrd := HC.out.put HQ.out HP1.out
        rcases Rd.shape hrd with ⟨ad, he, h0⟩ | ⟨b, off, cc, he, hmax⟩
        · exfalso; omega
        · injection he with e1 e2 e3
          subst e1 e3
          clear e2
          obtain ⟨q0, q1, q2⟩ := spn_at (c := cA) (l := c) (by unfold CtxAt; rw [HN.out]; exact hrd) HN.out.symm k hlk
          clear hrd
          have hbf := HF.out _ (getD_mem (0, 0, 0) hlk)
          have HST := Lib.hid (encSs_snoc hlk)
          obtain ⟨s, hgd⟩ : ∃ s, s = c.getD k (0, 0, 0) := ⟨_, rfl⟩
          rw [← hgd] at HST q0 q1 q2 hbf
          clear hgd
          have HEk := Lib.hid (HE.out k)
          have hn10 : (numB n).length ≤ 10 := numN_le (by omega)
          have HN10 := Lib.hid hn10; clear hn10
          have HBF := Lib.hid hbf; clear hbf
          obtain ⟨v', ho', hfr, hfm⟩ := HP1.out
          have HO1 := Lib.hid ho'; clear ho'
          have HFR := Lib.hid hfr; clear hfr
          have HFM := Lib.hid hfm; clear hfm
          have hno : ¬ OutS ob v' wr.heap.size := fun h => by have := outS_lt HO1.out _ h; omega
          have HNO := Lib.hid hno; clear hno
          have HB := Lib.hid (Put1.start (HO1.out.keep0 (Frm.alloc NoS wr (.cells #[.int .i64 s.1, .int .i64 s.2.1, .int .i64 s.2.2] 40))))
          have hbl : (bs ++ (numB n ++ encSs (c.take k))).length ≤ 83000010 := by
            have := HEk.out
            have := HN10.out
            simp only [List.length_append]; omega
          have HBL := Lib.hid hbl; clear hbl
          have h1 := numB_le10 (v := s.1) (by have := HBF.out; omega) (by have := HBF.out; omega)
          have h2 := numB_le10 (v := s.2.1) (by have := HBF.out; omega) (by have := HBF.out; omega)
          have H1 := Lib.hid h1; clear h1
          have H2 := Lib.hid h2; clear h2
          go_wp2_with (first
            | (go_at_call 37; refine (putNum HP4.out s.2.2 HBF.out.2.2.2.2 (by have h0 := HBL.out; have h1 := H1.out; have h2 := H2.out; simp only [List.nil_append, List.length_append] at h0 h1 h2 ⊢; omega)).mono ?_; rintro e w5 ⟨rfl, hp5⟩; have HP5 := Lib.hid hp5; clear hp5 z2)
            | (go_at_call 37; refine (putNum HP3.out s.2.1 ⟨HBF.out.2.2.1, HBF.out.2.2.2.1⟩ (by have := HBL.out; have := H1.out; simp only [List.nil_append]; omega)).mono ?_; rintro e w4 ⟨rfl, hp4⟩; have z2 : w4.cell? ⟨wr.heap.size, 2, none⟩ = some (.int .i64 s.2.2) := hp4.cell (cell_at' (heap_alloc_new wr _) 2 rfl) HNO.out; have HP4 := Lib.hid hp4; clear hp4 y1 y2 HP3)
            | (go_at_call 37; refine (putNum HB.out s.1 ⟨HBF.out.1, HBF.out.2.1⟩ (by have := HBL.out; simp only [List.length_nil]; omega)).mono ?_; rintro e w3 ⟨rfl, hp3⟩; have y1 : w3.cell? ⟨wr.heap.size, 1, none⟩ = some (.int .i64 s.2.1) := hp3.cell (cell_at' (heap_alloc_new wr _) 1 rfl) HNO.out; have y2 : w3.cell? ⟨wr.heap.size, 2, none⟩ = some (.int .i64 s.2.2) := hp3.cell (cell_at' (heap_alloc_new wr _) 2 rfl) HNO.out; have HP3 := Lib.hid hp3; clear hp3 HB))
          go_roundw
          case rel => exact ⟨k + 1, by omega, by go_num, (Put1.trans HFR.out HFM.out (HP5.out.base (Frm.alloc _ _ _))).cast (by rw [HST.out]; unfold encS; simp only [List.append_assoc, List.nil_append])⟩
          case measure => simp [intOf]; omega
      · obtain rfl : n = k := by omega
        go_wp2
        go_end0
        exact ⟨rfl, HP1.out.cast HFIN.out⟩
  · rw [tf_false hr] at HRT ⊢
    clear hr
    rw [if_neg (by decide), encC_nil]
    go_enter Try.func23, Try.ntmps23
    go_wp2_with (first
      | (go_at_call 32; refine HRT.out.mono ?_; rintro e w1 ⟨rfl, hw1⟩; have HP0 := Lib.hid ((Put1.start HO.out).keep0 hw1); clear hw1)
      | (go_at_call 37; refine (putNum HP0.out 0 ⟨by omega, by omega⟩ (by simp only [List.length_nil]; omega)).mono ?_; rintro e w2 ⟨rfl, hp⟩; have HP := Lib.hid hp; clear hp))
    go_loopw [15] (fun i ww => i = .int .i64 0 ∧ Put1 w ob v bs (numB 0) ww) (fun i _ => 0)
    case atStart => exact ⟨rfl, HP.out⟩
    case round =>
      obtain ⟨rfl, hp⟩ := hrel
      have HP1 := Lib.hid hp; clear hp
      go_wp2
      go_end0
      exact ⟨rfl, HP1.out⟩
end Go.Proofs.Ytafdclkpeomomaa

/- pack: putDot, put: the walks. -/
namespace Go.Proofs.Ytafdclkpeomomaa
open Go.RowKit

set_option maxHeartbeats 1000000 in
set_option maxRecDepth 1000000 in
theorem pputDot_go (ob : Nat) (w : World) (v : Value) (bs : List UInt8) (d n : Int) (ho : OutAt w ob v bs) (hd : inR d) (hn : inR n) (hl : bs.length ≤ 94000000) :
    Calls Try.prog 49 #[.pointer (some ⟨ob, 0, none⟩), .agg #[.int .i64 d, .int .i64 n]] w fun e w' => e = .returned (.tuple #[]) ∧ Put1 w ob v bs (numB d ++ numB n) w' := by
  have HO := Lib.hid ho; clear ho
  have HNO := Lib.hid (show ¬ OutS ob v w.heap.size from fun h => by have := outS_lt HO.out _ h; omega)
  have HB := Lib.hid (Put1.start (HO.out.keep0 (Frm.alloc NoS w (.cells #[.int .i64 d, .int .i64 n] 35))))
  have H1 := Lib.hid (numB_le10 hd.1 hd.2)
  have HD := Lib.hid hd; clear hd
  have HN := Lib.hid hn; clear hn
  go_enter Try.func49, Try.ntmps49
  go_wp2_with (first
    | (go_at_call 37; refine (putNum HP3.out n HN.out (by have := H1.out; simp only [List.nil_append]; omega)).mono ?_; rintro e w4 ⟨rfl, hp4⟩; have HP4 := Lib.hid hp4; clear hp4 y1)
    | (go_at_call 37; refine (putNum HB.out d HD.out (by simp only [List.length_nil]; omega)).mono ?_; rintro e w3 ⟨rfl, hp3⟩; have y1 : w3.cell? ⟨w.heap.size, 1, none⟩ = some (.int .i64 n) := hp3.cell (cell_at' (heap_alloc_new w _) 1 rfl) HNO.out; have HP3 := Lib.hid hp3; clear hp3 HB))
  go_end0
  exact ⟨rfl, (HP4.out.base (Frm.alloc _ _ _)).cast (by rw [List.nil_append])⟩

/- ### how far the bytes of a tree are -/
def KidsL.encTake : Nat → KidsL → List UInt8
  | 0, _ => []
  | _ + 1, .nil => []
  | n + 1, .cons key es sub rest => textB key ++ (encT es sub ++ rest.encTake n)
theorem encTake_succ : ∀ (n : Nat) (ks : KidsL) {key : ByteArray} {es : List Ent} {sub rest : KidsL}, ks.drop n = .cons key es sub rest → ks.encTake (n + 1) = ks.encTake n ++ (textB key ++ encT es sub)
  | 0, .cons _ _ _ _, _, _, _, _, h => by cases h; simp [KidsL.encTake]
  | 0, .nil, _, _, _, _, h => by cases h
  | n + 1, .nil, _, _, _, _, h => by cases h
  | n + 1, .cons _ _ _ r, _, _, _, _, h => by
    show textB _ ++ (encT _ _ ++ r.encTake (n + 1)) = (textB _ ++ (encT _ _ ++ r.encTake n)) ++ _
    rw [encTake_succ n r h]
    simp only [List.append_assoc]
theorem encTake_split : ∀ (n : Nat) (ks : KidsL), encK ks = ks.encTake n ++ encK (ks.drop n)
  | 0, _ => rfl
  | _ + 1, .nil => rfl
  | n + 1, .cons key es sub rest => by
    rw [encK_cons]
    show _ = (textB _ ++ (encT _ _ ++ rest.encTake n)) ++ encK (rest.drop n)
    rw [encTake_split n rest]
    simp only [List.append_assoc]
theorem encTake_all (ks : KidsL) : ks.encTake ks.len = encK ks := by
  have h := encTake_split ks.len ks
  rw [KidsL.drop_none (Nat.le_refl _)] at h
  rw [h]; simp [encK]
theorem encEs_snoc {es : List Ent} {k : Nat} (h : k < es.length) : encEs (es.take (k + 1)) = encEs (es.take k) ++ encE (es.getD k Ent.zero) := by
  rw [take_succ Ent.zero h]
  unfold encEs
  rw [List.flatMap_append]
  simp
theorem encEs_split (es : List Ent) (k : Nat) : encEs es = encEs (es.take k) ++ encEs (es.drop k) := by
  have h : encEs (es.take k ++ es.drop k) = encEs (es.take k) ++ encEs (es.drop k) := by unfold encEs; rw [List.flatMap_append]
  rwa [List.take_append_drop] at h
theorem encT_upE {es : List Ent} (ks : KidsL) {k : Nat} (h : k < es.length) : (numB es.length ++ encEs (es.take k)).length + (encE (es.getD k Ent.zero)).length ≤ (encT es ks).length := by
  have h1 := encEs_split es (k + 1)
  rw [encEs_snoc h] at h1
  unfold encT
  rw [h1]
  simp only [List.length_append]
  omega
theorem encT_upK (es : List Ent) {ks : KidsL} {k : Nat} {key : ByteArray} {es' : List Ent} {sub rest : KidsL} (h : ks.drop k = .cons key es' sub rest) :
    (numB es.length ++ (encEs es ++ (numB ks.len ++ ks.encTake k))).length + (textB key ++ encT es' sub).length ≤ (encT es ks).length := by
  have h1 := encTake_split k ks
  rw [h, encK_cons] at h1
  unfold encT
  rw [h1]
  unfold encT
  simp only [List.length_append]
  omega
theorem encT_upM (es : List Ent) (ks : KidsL) : (numB es.length ++ encEs es).length + (numB ks.len).length ≤ (encT es ks).length := by
  unfold encT
  simp only [List.length_append]
  omega
theorem encT_up0 (es : List Ent) (ks : KidsL) : (numB es.length).length ≤ (encT es ks).length := by
  unfold encT
  simp only [List.length_append]
  omega
theorem KidsL.Ok.at_ {k : Nat} {ks : KidsL} {key : ByteArray} {es : List Ent} {sub rest : KidsL} (h : ks.Ok) (hd : ks.drop k = .cons key es sub rest) : key.size ≤ 9223372036854775807 ∧ TrOk es sub := by
  have := h.drop k
  rw [hd] at this
  exact ⟨this.1, this.2.1, this.2.2.1, this.2.2.2.1⟩
theorem textB_size (s : ByteArray) : s.size ≤ (textB s).length := by
  have h : s.data.toList.length = s.size := Array.length_toList
  unfold textB
  rw [List.length_append]; omega
set_option maxHeartbeats 4000000 in
set_option maxRecDepth 1000000 in
theorem pput_go : ∀ (N : Nat) (Q : Nat → Prop) (es : List Ent) (ks : KidsL) (w : World) (ob : Nat) (v : Value) (bs : List UInt8) (ev kv : Value), sizeK ks < N → OutAt w ob v bs → TreeAt Q w ev kv es ks → (∀ b, OutS ob v b → ¬ Q b) → TrOk es ks → bs.length + (encT es ks).length ≤ 90000000 →
    Calls Try.prog 36 #[.pointer (some ⟨ob, 0, none⟩), .agg #[ev, kv]] w fun e w' => e = .returned (.tuple #[]) ∧ Put1 w ob v bs (encT es ks) w' := by
  intro N
  induction N with
  | zero => intros; exfalso; omega
  | succ N IHN =>
    intro Q es ks w ob v bs ev kv hN ho ht hq hok hl
    have IH := Lib.hid IHN; clear IHN
    have ht : TreeAt (fun b => Q b ∧ b < w.heap.size) w ev kv es ks := ht.turn fun b hb hQ => ⟨rfl, hQ, hb⟩
    obtain ⟨ae, ce, rfl⟩ := ht.ents.rd.sl
    obtain ⟨os, hkr, hfor⟩ := ht.kids
    obtain ⟨ak, ck, rfl⟩ := hkr.rd.sl
    have hwb : Frm NoS w (w.alloc (.cells #[.slice ae es.length ce, .slice ak ks.len ck] 27)) := Frm.alloc _ _ _
    have HQ := Lib.hid (show ∀ b, OutS ob v b → ¬ (Q b ∧ b < w.heap.size) from fun b hb hQ => hq b hb hQ.1); clear hq
    have HE := Lib.hid (ht.ents.keep hwb fun _ _ s => s.elim)
    have HKR := Lib.hid (hkr.keep hwb fun _ _ s => s.elim); clear hkr
    have HFOR := Lib.hid (hfor.keep hwb fun _ _ s => s.elim); clear hfor ht
    have HO := Lib.hid ho; clear ho
    have HNO := Lib.hid (show ¬ OutS ob v w.heap.size from fun h => by have := outS_lt HO.out _ h; omega)
    have HOK := Lib.hid hok; clear hok
    have HNN := Lib.hid hN; clear hN
    have HL := Lib.hid hl; clear hl
    have hnb : es.length ≤ 140737488351232 := HOK.out.es.len
    have hmb : ks.len ≤ 140737488351232 := HOK.out.len
    have HUE := Lib.hid (fun (k : Nat) (h : k < es.length) => encT_upE ks h)
    have HU0 := Lib.hid (encT_up0 es ks)
    have HUM := Lib.hid (encT_upM es ks)
    have HUK := Lib.hid (fun (k : Nat) (key : ByteArray) (es' : List Ent) (sub rest : KidsL) (h : ks.drop k = .cons key es' sub rest) => encT_upK es h)
    have HFIN := Lib.hid (show numB es.length ++ (encEs es ++ (numB ks.len ++ ks.encTake ks.len)) = encT es ks by rw [encTake_all]; rfl)
    have HTA := Lib.hid (show encEs (es.take es.length) = encEs es by rw [List.take_length])
    generalize hes : es.length = n at *
    have HN := Lib.hid hes; clear hes
    generalize hkl : ks.len = m at *
    have HM := Lib.hid hkl; clear hkl
    obtain ⟨WB, hWB⟩ : ∃ WB, WB = w.alloc (.cells #[.slice ae n ce, .slice ak m ck] 27) := ⟨_, rfl⟩
    have hb0 : WB.heap[w.heap.size]? = some (.cells #[.slice ae n ce, .slice ak m ck] 27 (0, 0)) := by rw [hWB]; exact heap_alloc_new w _
    have HB0 := Lib.hid hb0; clear hb0
    rw [← hWB] at hwb HE HKR HFOR
    have HWB := Lib.hid hwb; clear hwb
    have HBW := Lib.hid hWB; clear hWB
    have HB := Lib.hid (Put1.start (HO.out.keep0 HWB.out))
    go_enter Try.func36, Try.ntmps36
    go_wp2_with (go_at_call 37; rw [← HBW.out]; refine (putNum HB.out n ⟨by omega, by omega⟩ (by have := HL.out; simp only [List.length_nil]; omega)).mono ?_; rintro e w1 ⟨rfl, hp⟩; have HP := Lib.hid (hp.cast (List.nil_append _)); clear hp; have y0 : w1.cell? ⟨w.heap.size, 0, none⟩ = some (.slice ae n ce) := HP.out.cell (cell_at' HB0.out 0 rfl) HNO.out)
    go_loopw [16] (fun i ww => ∃ k : Nat, k ≤ n ∧ i = .int .i64 k ∧ Put1 WB ob v bs (numB n ++ encEs (es.take k)) ww) (fun i _ => n - (intOf i).toNat)
    case atStart => exact ⟨0, Nat.zero_le _, rfl, HP.out.cast (by simp [encEs])⟩
    case round =>
      clear HP y0
      obtain ⟨k, hk, rfl, hp⟩ := hrel
      have HP1 := Lib.hid hp; clear hp
      by_cases hlt : k < n
      · have hlk : k < es.length := by rw [HN.out]; exact hlt
        have hrd := HE.out.put HQ.out HP1.out
        rcases Rd.shape hrd with ⟨ad, he, h0⟩ | ⟨b, off, cc, he, hmax⟩
        · exfalso; omega
        · injection he with e1 e2 e3
          subst e1 e3
          clear e2
          obtain ⟨q0, q1, q2, q3⟩ := ent_at (es := es) hrd k hlk
          clear hrd
          have hft := HOK.out.es.fits _ (getD_mem Ent.zero hlk)
          have HST := Lib.hid (encEs_snoc hlk)
          have HUk := Lib.hid (HUE.out k hlt)
          obtain ⟨s, hgd⟩ : ∃ s, s = es.getD k Ent.zero := ⟨_, rfl⟩
          rw [← hgd] at HST q0 q1 q2 q3 hft HUk
          clear hgd
          have HFT := Lib.hid hft; clear hft
          obtain ⟨v', ho', hfr, hfm⟩ := HP1.out
          have HO1 := Lib.hid ho'; clear ho'
          have HFR := Lib.hid hfr; clear hfr
          have HFM := Lib.hid hfm; clear hfm
          have HN1 := Lib.hid (show ¬ OutS ob v' wr.heap.size from fun h => by have := outS_lt HO1.out _ h; omega)
          have HB1 := Lib.hid (Put1.start (HO1.out.keep0 (Frm.alloc NoS wr (.cells #[.int .i64 s.dc, .int .i64 s.n, .string s.s, .int .i64 s.k] 37))))
          have hbl : (bs ++ (numB n ++ encEs (es.take k))).length + (numB s.dc ++ (numB s.n ++ (textB s.s ++ numB s.k))).length ≤ 90000000 := by
            have h1 := HUk.out
            have h2 := HL.out
            unfold encE at h1
            simp only [List.length_append] at h1 h2 ⊢; omega
          simp only [List.length_append] at hbl
          have HSZ := Lib.hid (textB_size s.s)
          have HBL := Lib.hid hbl; clear hbl
          go_wp2_with (first
            | (go_at_call 49; refine (HB1.out.call fun v' ho _ _ => pputDot_go ob _ v' _ s.dc s.n ho HFT.out.1 HFT.out.2.1 (by have := HBL.out; simp only [List.length_append, List.length_nil]; omega)).mono ?_; rintro e w3 ⟨rfl, hp3⟩; have y2 : w3.cell? ⟨wr.heap.size, 2, none⟩ = some (.string s.s) := hp3.cell (cell_at' (heap_alloc_new wr _) 2 rfl) HN1.out; have y3 : w3.cell? ⟨wr.heap.size, 3, none⟩ = some (.int .i64 s.k) := hp3.cell (cell_at' (heap_alloc_new wr _) 3 rfl) HN1.out; have HP3 := Lib.hid hp3; clear hp3)
            | (go_at_call 50; refine (putText HP3.out s.s (by have := HBL.out; have := HSZ.out; simp only [List.length_append, List.length_nil]; omega)).mono ?_; rintro e w4 ⟨rfl, hp4⟩; have z3 : w4.cell? ⟨wr.heap.size, 3, none⟩ = some (.int .i64 s.k) := hp4.cell (cell_at' (heap_alloc_new wr _) 3 rfl) HN1.out; have HP4 := Lib.hid hp4; clear hp4 y2 y3)
            | (go_at_call 37; refine (putNum HP4.out s.k HFT.out.2.2.1 (by have := HBL.out; simp only [List.length_append, List.length_nil]; omega)).mono ?_; rintro e w5 ⟨rfl, hp5⟩; have HP5 := Lib.hid hp5; clear hp5 z3))
          go_roundw
          case rel => exact ⟨k + 1, by omega, by go_num, (Put1.trans HFR.out HFM.out (HP5.out.base (Frm.alloc _ _ _))).cast (by rw [HST.out]; unfold encE; simp only [List.append_assoc, List.nil_append])⟩
          case measure => simp [intOf]; omega
      · obtain rfl : n = k := by omega
        rw [HTA.out] at HP1
        clear hlt hk HUE HE
        have y1 : wr.cell? ⟨w.heap.size, 1, none⟩ = some (.slice ak m ck) := HP1.out.cell (cell_at' HB0.out 1 rfl) HNO.out
        go_wp2_with (go_at_call 37; refine (putNum HP1.out m ⟨by omega, by omega⟩ (by have := HL.out; have := HUM.out; omega)).mono ?_; rintro e w1 ⟨rfl, hp⟩; have HP := Lib.hid (hp.cast (List.append_assoc _ _ _)); clear hp; have y1 : w1.cell? ⟨w.heap.size, 1, none⟩ = some (.slice ak m ck) := HP.out.cell (cell_at' HB0.out 1 rfl) HNO.out)
        go_loopw [41] (fun i ww => ∃ k : Nat, k ≤ m ∧ i = .int .i64 k ∧ Put1 WB ob v bs (numB n ++ (encEs es ++ (numB m ++ ks.encTake k))) ww) (fun i _ => m - (intOf i).toNat)
        case atStart => exact ⟨0, Nat.zero_le _, rfl, HP.out.cast (by simp [KidsL.encTake])⟩
        case round =>
          clear HP HP1
          obtain ⟨k, hk, rfl, hp⟩ := hrel
          have HP1 := Lib.hid hp; clear hp
          by_cases hlt : k < m
          · obtain ⟨key, es', sub, rest, hdr⟩ := KidsL.drop_some (n := k) (ks := ks) (by rw [HM.out]; exact hlt)
            have hrd := HKR.out.put HQ.out HP1.out
            rcases Rd.shape hrd with ⟨ad, he, h0⟩ | ⟨b, off, cc, he, hmax⟩
            · exfalso; omega
            · injection he with e1 e2 e3
              subst e1 e3
              clear e2
              obtain ⟨v', ho', hfr, hfm⟩ := HP1.out
              obtain ⟨ev', kv', q0, q1, q2, hta⟩ := kid_at hrd (HFOR.out.keep hfm fun b _ hs => HQ.out b hs) hdr
              clear hrd
              obtain ⟨ae', ce', rfl⟩ := hta.ents.rd.sl
              obtain ⟨os', hkr', hfor'⟩ := hta.kids
              obtain ⟨ak', ck', rfl⟩ := hkr'.rd.sl
              clear hkr' hfor'
              have HTAK := Lib.hid hta; clear hta
              have HSS := Lib.hid (size_sub k hdr)
              have HKO := Lib.hid (HOK.out.ks.at_ hdr)
              have HST := Lib.hid (encTake_succ k ks hdr)
              have HUk := Lib.hid (HUK.out _ _ _ _ _ hdr)
              have HO1 := Lib.hid ho'; clear ho'
              have hsz : w.heap.size ≤ wr.heap.size := Nat.le_trans HWB.out.size hfm.size
              have HOB := Lib.hid (show ∀ b, OutS ob v' b → ¬ (Q b ∧ b < w.heap.size) from fun b hb hQ => HQ.out b (outS_fresh hfr b (Nat.lt_of_lt_of_le hQ.2 HWB.out.size) hb) hQ)
              have HFR := Lib.hid hfr; clear hfr
              have HFM := Lib.hid hfm; clear hfm
              have HN1 := Lib.hid (show ¬ OutS ob v' wr.heap.size from fun h => by have := outS_lt HO1.out _ h; omega)
              have hbl : (bs ++ (numB n ++ (encEs es ++ (numB m ++ ks.encTake k)))).length + (textB key ++ encT es' sub).length ≤ 90000000 := by
                have h1 := HUk.out
                have h2 := HL.out
                rw [@List.length_append _ bs _]
                omega
              rw [@List.length_append _ (textB key) _] at hbl
              have HSZ := Lib.hid (textB_size key)
              have HBL := Lib.hid hbl; clear hbl
              have HIH := Lib.hid (fun W v3 bs3 (o : OutAt W ob v3 bs3) (t : TreeAt (fun b => Q b ∧ b < w.heap.size) W (.slice ae' es'.length ce') (.slice ak' sub.len ck') es' sub) (q : ∀ b, OutS ob v3 b → ¬ (Q b ∧ b < w.heap.size)) (l : bs3.length + (encT es' sub).length ≤ 90000000) => IH.out _ es' sub W ob v3 bs3 _ _ (by have := HSS.out; have := HNN.out; omega) o t q HKO.out.2 l)
              generalize es'.length = n' at *
              generalize sub.len = m' at *
              have HB1 := Lib.hid (Put1.start (HO1.out.keep0 (Frm.alloc NoS wr (.cells #[.string key, .slice ae' n' ce', .slice ak' m' ck'] 72))))
              have HTA2 := Lib.hid (HTAK.out.keep0 (Frm.alloc NoS wr (.cells #[.string key, .slice ae' n' ce', .slice ak' m' ck'] 72)))
              clear y1
              go_wp2_with (first
                | (go_at_call 50; refine (putText HB1.out key (by have := HBL.out; have := HSZ.out; simp only [List.length_nil]; omega)).mono ?_; rintro e w4 ⟨rfl, hp4⟩; have z1 : w4.cell? ⟨wr.heap.size, 1, none⟩ = some (.slice ae' n' ce') := hp4.cell (cell_at' (heap_alloc_new wr _) 1 rfl) HN1.out; have z2 : w4.cell? ⟨wr.heap.size, 2, none⟩ = some (.slice ak' m' ck') := hp4.cell (cell_at' (heap_alloc_new wr _) 2 rfl) HN1.out; have HP4 := Lib.hid hp4; clear hp4)
                | (go_at_call 36; refine (HP4.out.call fun v3 ho3 hb3 hf3 => HIH.out _ v3 _ ho3 (HTA2.out.keep hf3 fun b _ hs => HOB.out b hs) (fun b hb hQ => HOB.out b (hb3 b (by simp only [World.size_alloc]; omega) hb) hQ) (by have := HBL.out; rw [List.length_append, List.nil_append]; omega)).mono ?_; rintro e w5 ⟨rfl, hp5⟩; have HP5 := Lib.hid hp5; clear hp5 z1 z2))
              go_roundw
              case rel => exact ⟨k + 1, by omega, by go_num, (Put1.trans HFR.out HFM.out (HP5.out.base (Frm.alloc _ _ _))).cast (by rw [HST.out]; simp only [List.append_assoc, List.nil_append])⟩
              case measure => simp [intOf]; omega
          · obtain rfl : m = k := by omega
            go_wp2
            go_end0
            exact ⟨rfl, (HP1.out.cast HFIN.out).base HWB.out⟩
end Go.Proofs.Ytafdclkpeomomaa

/- pack: PutTree, PutCausal, Bytes: the walks. -/
namespace Go.Proofs.Ytafdclkpeomomaa
open Go.RowKit

def treeB (es : List Ent) (ks : KidsL) : List UInt8 := if rightT 5 es ks then encT es ks else encT [] .nil
set_option maxRecDepth 100000 in
theorem tClone_no (Q : Nat → Prop) (es : List Ent) (ks : KidsL) (w : World) (ev kv : Value) (ht : TreeAt Q w ev kv es ks) (hok : TrOk es ks) (hr : rightT 5 es ks = false) :
    Calls Try.prog 34 #[.agg #[ev, kv]] w fun e w' => e = .returned (.agg #[.slice none 0 0, .slice none 0 0]) ∧ Frm NoS w w' := by
  obtain ⟨ae, ce, rfl⟩ := ht.ents.rd.sl
  obtain ⟨os, hkr, hfor⟩ := ht.kids
  obtain ⟨ak, ck, rfl⟩ := hkr.rd.sl
  have HR := Lib.hid (fun W (f : Frm NoS w W) => tRight_any Q es ks W _ _ (ht.keep0 f) hok)
  rw [hr] at HR
  clear hkr hfor ht hok hr
  generalize es.length = n at *
  generalize ks.len = m at *
  obtain ⟨hb2, hfb, hbs⟩ := two_blocks w (.cells #[.slice ae n ce, .slice ak m ck] 27) #[.slice none 0 0, .slice none 0 0] 27
  have HB2 := Lib.hid hb2; clear hb2
  have HFB := Lib.hid hfb; clear hfb
  have HBS := Lib.hid hbs; clear hbs
  go_enter Try.func34, Try.ntmps34
  go_wp2_with (go_at_call 29; refine (HR.out _ HFB.out).mono ?_; rintro e w1 ⟨rfl, hw1⟩; obtain ⟨y0, y1⟩ := box2 w _ _ _ w1 ((Frm.alloc NoS _ _).then1 hw1); have hblk := hw1.blk HB2.out id; have z0 := cell_at' hblk 0 rfl; have z1 := cell_at' hblk 1 rfl; have f0 := free_at' hblk 0; have f1 := free_at' hblk 1; have hsb := lt_of_block hblk; have HR2 := Lib.hid (res2 hblk (HFB.out.then1 hw1) (by omega) (.slice none 0 0) (.slice none 0 0)); have HW1 := Lib.hid hw1; clear hw1 hblk)
  clear y0 y1 z0 z1
  have y0 := cell_at' HR2.out.1 0 rfl
  have y1 := cell_at' HR2.out.1 1 rfl
  exact bodyPost_ret (v := .agg #[.slice none 0 0, .slice none 0 0]) (by simp [results, Try.results34, go_sem, y0, y1]) rfl ⟨rfl, HR2.out.2.1⟩
theorem tree_nil (w : World) : TreeAt (fun b => w.heap.size ≤ b) w (.slice none 0 0) (.slice none 0 0) [] .nil :=
  ⟨⟨.inl ⟨none, rfl, rfl, rfl⟩, fun h => absurd rfl h⟩, [], ⟨.inl ⟨none, rfl, rfl, rfl⟩, fun h => absurd rfl h⟩, rfl⟩
/-- A clone: what the tree's bytes tell. -/
theorem tClone_all (Q : Nat → Prop) (es : List Ent) (ks : KidsL) (w : World) (ev kv : Value) (ht : TreeAt Q w ev kv es ks) (hok : TrOk es ks) (hsz : sizeT es ks ≤ 4000) :
    Calls Try.prog 34 #[.agg #[ev, kv]] w fun e w' => ∃ ev' kv' es' ks', e = .returned (.agg #[ev', kv']) ∧ TreeAt (fun b => w.heap.size ≤ b) w' ev' kv' es' ks' ∧ TrOk es' ks' ∧ encT es' ks' = treeB es ks ∧ Frm NoS w w' := by
  cases hr : rightT 5 es ks with
  | true => exact (tClone_any Q es ks w ev kv ht hok hsz hr).mono fun e w' ⟨ev', kv', h1, h2, h3⟩ => ⟨ev', kv', es, ks, h1, h2, hok, by unfold treeB; rw [hr]; rfl, h3⟩
  | false => exact (tClone_no Q es ks w ev kv ht hok hr).mono fun e w' ⟨h1, h3⟩ => ⟨_, _, [], .nil, h1, (tree_nil w).keep0 h3, ⟨⟨by simp, fun e he => by cases he⟩, by simp [KidsL.len], trivial⟩, by unfold treeB; rw [hr]; rfl, h3⟩
theorem treeB_le {es : List Ent} {ks : KidsL} (hsz : sizeT es ks ≤ 4000) : (treeB es ks).length ≤ 300020 := by
  unfold treeB
  split
  · have := encT_le (by assumption) (by omega : sizeT es ks ≤ 9223372036854775807)
    omega
  · have := encT_le (es := []) (ks := .nil) (by decide) (by decide)
    have h0 : sizeT [] .nil = 0 := rfl
    omega
set_option maxRecDepth 100000 in
theorem pPutTree_any (Q : Nat → Prop) (ob : Nat) (w : World) (v : Value) (bs : List UInt8) (es : List Ent) (ks : KidsL) (ev kv : Value) (ho : OutAt w ob v bs) (ht : TreeAt Q w ev kv es ks) (hok : TrOk es ks) (hsz : sizeT es ks ≤ 4000) (hl : bs.length ≤ 80000000) :
    Calls Try.prog 22 #[.pointer (some ⟨ob, 0, none⟩), .agg #[ev, kv]] w fun e w' => e = .returned (.tuple #[]) ∧ Put1 w ob v bs (treeB es ks) w' := by
  have HC := Lib.hid (fun W (f : Frm NoS w W) => tClone_all Q es ks W _ _ (ht.keep0 f) hok hsz)
  have HLE := Lib.hid (treeB_le hsz)
  obtain ⟨ae, ce, rfl⟩ := ht.ents.rd.sl
  obtain ⟨os, hkr, hfor⟩ := ht.kids
  obtain ⟨ak, ck, rfl⟩ := hkr.rd.sl
  clear hkr hfor ht hok hsz
  generalize treeB es ks = X at *
  generalize es.length = n at *
  generalize ks.len = m at *
  have HO := Lib.hid ho; clear ho
  have HA := Lib.hid (Frm.alloc NoS w (.cells #[.slice ae n ce, .slice ak m ck] 27))
  go_enter Try.func22, Try.ntmps22
  go_wp2_with (first
    | (go_at_call 34; refine (HC.out _ HA.out).mono ?_; rintro e w1 ⟨ev', kv', es', ks', rfl, hta, hok, hx, hf⟩; obtain ⟨a1, c1, rfl⟩ := hta.ents.rd.sl; obtain ⟨os3, hkr3, -⟩ := hta.kids; obtain ⟨a2, c2, rfl⟩ := hkr3.rd.sl; clear hkr3; subst hx; have HK := Lib.hid (fun ho => pput_go _ _ es' ks' w1 ob v bs _ _ (Nat.lt_succ_self _) ho hta (fun b hb hQ => by have := outS_lt HO.out b hb; have := HA.out.size; omega) hok (by have := HLE.out; omega)); generalize es'.length = n' at *; generalize ks'.len = m' at *; clear hta hok; have HF := Lib.hid (HA.out.then1 hf); clear hf)
    | (go_at_call 36; refine (HK.out (HO.out.keep0 HF.out)).mono ?_; rintro e w2 ⟨rfl, hp⟩; have HP := Lib.hid hp; clear hp))
  go_end0
  exact ⟨rfl, HP.out.base HF.out⟩
noncomputable def cauB (es : List Ent) (ks : KidsL) (c : CtxL) : List UInt8 := if tf (CauRight es ks c) then encX es ks c else encX [] .nil []
set_option maxRecDepth 100000 in
theorem caClone_no (Q : Nat → Prop) (es : List Ent) (ks : KidsL) (c : CtxL) (w : World) (ev kv cv : Value) (h : CauAt Q w ev kv cv es ks c) (hok : CauOk es ks c) (hr : ¬ CauRight es ks c) :
    Calls Try.prog 21 #[.agg #[ev, kv, cv]] w fun e w' => e = .returned (.agg #[.slice none 0 0, .slice none 0 0, .slice none 0 0]) ∧ Frm NoS w w' := by
  obtain ⟨a0, c0, a1, c1, a2, c2, rfl, rfl, rfl⟩ := h.shape
  have HR := Lib.hid (fun w' (f : Frm NoS w w') => tf_false hr ▸ caRight_any Q es ks c w' _ _ _ (h.keep0 f) hok)
  clear h hok hr
  generalize es.length = n at *
  generalize ks.len = m at *
  generalize c.length = k at *
  obtain ⟨hb2, hfb, hbs⟩ := two_blocks w (.cells #[.slice a0 n c0, .slice a1 m c1, .slice a2 k c2] 31) #[.slice none 0 0, .slice none 0 0, .slice none 0 0] 31
  have HB2 := Lib.hid hb2; clear hb2
  have HFB := Lib.hid hfb; clear hfb
  have HBS := Lib.hid hbs; clear hbs
  go_enter Try.func21, Try.ntmps21
  go_wp2_with (go_at_call 11; refine (HR.out _ HFB.out).mono ?_; rintro e w1 ⟨rfl, hw1⟩; obtain ⟨y0, y1, y2⟩ := box3 w _ _ _ _ w1 ((Frm.alloc NoS _ _).then1 hw1); have hblk := hw1.blk HB2.out id; have z0 := cell_at' hblk 0 rfl; have z1 := cell_at' hblk 1 rfl; have z2 := cell_at' hblk 2 rfl; have f0 := free_at' hblk 0; have f1 := free_at' hblk 1; have f2 := free_at' hblk 2; have hsb := lt_of_block hblk; have HR3 := Lib.hid (res3 hblk (HFB.out.then1 hw1) (by omega) (.slice none 0 0) (.slice none 0 0) (.slice none 0 0)); have HW1 := Lib.hid hw1; clear hw1 hblk)
  clear y0 y1 y2 z0 z1 z2
  have y0 := cell_at' HR3.out.1 0 rfl
  have y1 := cell_at' HR3.out.1 1 rfl
  have y2 := cell_at' HR3.out.1 2 rfl
  exact bodyPost_ret (v := .agg #[.slice none 0 0, .slice none 0 0, .slice none 0 0]) (by simp [results, Try.results21, go_sem, y0, y1, y2]) rfl ⟨rfl, HR3.out.2.1⟩
/-- A clone of what is known: what its bytes tell. -/
theorem caClone_all (Q : Nat → Prop) (es : List Ent) (ks : KidsL) (c : CtxL) (w : World) (ev kv cv : Value) (h : CauAt Q w ev kv cv es ks c) (hok : CauOk es ks c) :
    Calls Try.prog 21 #[.agg #[ev, kv, cv]] w fun e w' => ∃ ev' kv' cv' es' ks' c', e = .returned (.agg #[ev', kv', cv']) ∧ TreeAt (fun b => w.heap.size ≤ b) w' ev' kv' es' ks' ∧ RdQ (fun b => w.heap.size ≤ b) w' cv' c'.length (spC c') ∧ CauOk es' ks' c' ∧ treeB es' ks' ++ ctxB c' = cauB es ks c ∧ Frm NoS w w' := by
  by_cases hr : CauRight es ks c
  · refine (caClone_ok Q es ks c w ev kv cv h hok hr).mono fun e w' ⟨ev', kv', cv', h1, h2, h3⟩ => ⟨ev', kv', cv', es, ks, c, h1, h2, h3.rdq, hok, ?_, h3.frm⟩
    unfold cauB treeB ctxB
    rw [tf_true hr, hr.tree, tf_true hr.ctx]
    rfl
  · refine (caClone_no Q es ks c w ev kv cv h hok hr).mono fun e w' ⟨h1, h3⟩ => ⟨_, _, _, [], .nil, [], h1, (tree_nil w).keep0 h3, ⟨.inl ⟨none, rfl, rfl, rfl⟩, fun h => absurd rfl h⟩, ⟨⟨⟨by simp, fun e he => by cases he⟩, by simp [KidsL.len], trivial⟩, by decide, (fun s hs => by cases hs), by simp⟩, ?_, h3⟩
    have e1 : rightT 5 [] .nil = true := by decide
    unfold cauB treeB ctxB
    rw [tf_false hr, e1, tf_true right_nilC]
    rfl
set_option maxRecDepth 100000 in
theorem pPutCausal_any (Q : Nat → Prop) (ob : Nat) (w : World) (v : Value) (bs : List UInt8) (es : List Ent) (ks : KidsL) (c : CtxL) (ev kv cv : Value) (ho : OutAt w ob v bs) (h : CauAt Q w ev kv cv es ks c) (hok : CauOk es ks c) (hl : bs.length ≤ 79000000) :
    Calls Try.prog 12 #[.pointer (some ⟨ob, 0, none⟩), .agg #[ev, kv, cv]] w fun e w' => e = .returned (.tuple #[]) ∧ Put1 w ob v bs (cauB es ks c) w' := by
  have HC := Lib.hid (fun W (f : Frm NoS w W) => caClone_all Q es ks c W _ _ _ (h.keep0 f) hok)
  obtain ⟨a0, c0, a1, c1, a2, c2, rfl, rfl, rfl⟩ := h.shape
  clear h hok
  generalize cauB es ks c = X at *
  generalize es.length = n at *
  generalize ks.len = m at *
  generalize c.length = k at *
  have HO := Lib.hid ho; clear ho
  have HBX := Lib.hid (heap_alloc_new w (.cells #[.slice a0 n c0, .slice a1 m c1, .slice a2 k c2] 31))
  have HA := Lib.hid (Frm.alloc NoS w (.cells #[.slice a0 n c0, .slice a1 m c1, .slice a2 k c2] 31))
  have HAS := Lib.hid (show (w.alloc (.cells #[.slice a0 n c0, .slice a1 m c1, .slice a2 k c2] 31)).heap.size = w.heap.size + 1 by simp)
  have HNO := Lib.hid (show ¬ OutS ob v w.heap.size from fun h => by have := outS_lt HO.out _ h; omega)
  go_enter Try.func12, Try.ntmps12
  go_wp2_with (first
    | (go_at_call 21; refine (HC.out _ HA.out).mono ?_; rintro e w1 ⟨ev', kv', cv', es', ks', c', rfl, hta, hrc, hok, hx, hf⟩; obtain ⟨a3, c3, rfl⟩ := hta.ents.rd.sl; obtain ⟨os3, hkr3, -⟩ := hta.kids; obtain ⟨a4, c4, rfl⟩ := hkr3.rd.sl; clear hkr3; obtain ⟨a5, c5, rfl⟩ := hrc.rd.sl; have HXX := Lib.hid hx; clear hx
       have hblk := hf.blk HBX.out id
       have HBLK := Lib.hid hblk
       have y0 := cell_at' hblk 0 rfl
       have y1 := cell_at' hblk 1 rfl
       have y2 := cell_at' hblk 2 rfl
       have f0 := free_at' hblk 0
       have f1 := free_at' hblk 1
       have f2 := free_at' hblk 2
       have hsb := lt_of_block hblk
       have HR3 := Lib.hid (res3 (w0 := w) hblk (HA.out.then1 hf) (Nat.le_refl _) (.slice a3 es'.length c3) (.slice a4 ks'.len c4) (.slice a5 c'.length c5))
       have HTA := Lib.hid (hta.turn (Q' := fun b => w.heap.size + 1 ≤ b) fun b hb hQ => ⟨HR3.out.2.2 b (by have := HAS.out; omega), by have := HAS.out; omega⟩)
       have HRC := Lib.hid (hrc.turn (Q' := fun b => w.heap.size + 1 ≤ b ∧ b < w1.heap.size) fun b hb hQ => ⟨HR3.out.2.2 b (by have := HAS.out; omega), by have := HAS.out; omega, hb⟩)
       have HXL := Lib.hid (treeB_le (es := es') (ks := ks') (Nat.le_trans hok.small (by decide)))
       have HK := Lib.hid (pPutTree_any _ ob _ v bs es' ks' _ _ (HO.out.keep0 HR3.out.2.1) HTA.out hok.tree (Nat.le_trans hok.small (by decide)) (by omega))
       have HK2 := Lib.hid (fun W v' (f : Frm (OutS ob v) _ W) (hb : ∀ b, b < _ → OutS ob v' b → OutS ob v b) (ho : OutAt W ob v' (bs ++ treeB es' ks')) => pPutCtx_any (fun b => w.heap.size + 1 ≤ b ∧ b < w1.heap.size) ob W v' _ _ c' ho (HRC.out.keep f fun b _ hs => (by have := outS_lt HO.out b hs; omega)) (fun b hb' hQ => by have := outS_lt HO.out b (hb b hQ.2 hb'); omega) hok.fits (by have := hok.len; omega) (by have := HXL.out; rw [List.length_append]; omega))
       clear hta hrc hok hblk hf
       generalize treeB es' ks' = X1 at *
       generalize ctxB c' = X2 at *
       generalize es'.length = n' at *
       generalize ks'.len = m' at *
       generalize c'.length = k' at *)
    | (go_at_call 22; refine HK.out.mono ?_; rintro e w2 ⟨rfl, hp⟩; have y2 : w2.cell? ⟨w.heap.size, 2, none⟩ = some (.slice a5 k' c5) := hp.cell (cell_at' HR3.out.1 2 rfl) HNO.out; have HP := Lib.hid hp; clear hp)
    | (go_at_call 23; refine (HP.out.call fun v' ho hb hf => HK2.out _ v' hf (fun b hb' hs => hb b (by simpa using hb') hs) ho).mono ?_; rintro e w3 ⟨rfl, hp⟩; have HP3 := Lib.hid hp; clear hp))
  go_end0
  exact ⟨rfl, (HP3.out.base HR3.out.2.1).cast HXX.out⟩
theorem cauB_le {es : List Ent} {ks : KidsL} {c : CtxL} (hok : CauOk es ks c) : (cauB es ks c).length ≤ 300000 := by
  have h1 := hok.small
  have h2 := hok.len
  unfold cauB
  by_cases hr : CauRight es ks c
  · rw [tf_true hr, if_pos rfl]
    have g1 := encT_le hr.tree (by omega)
    have g2 := encC_le hr.ctx (by omega)
    unfold encX
    rw [List.length_append]; omega
  · rw [tf_false hr, if_neg (by decide)]
    have g1 := encT_le (es := []) (ks := .nil) (by decide) (by decide)
    have g2 := encC_le right_nilC (by simp)
    have h0 : sizeT [] .nil = 0 := rfl
    unfold encX
    rw [List.length_append]
    simp only [List.length_nil] at g2
    omega
/-- What End hands out of bytes. -/
def EndIs (w : World) (v : Value) (k : Int) (bs : List UInt8) (w' : World) : Prop := if bs.length ≤ 60000 then k = 0 ∧ Copy w v bs w' else k = 3 ∧ v = .slice none 0 0
/-- The bytes of what is known. -/
def BytesPost (w : World) (es : List Ent) (ks : KidsL) (c : CtxL) (e : Ending) (w' : World) : Prop :=
  (CauRight es ks c → ∃ v k, e = .returned (.tuple #[v, .int .i64 k]) ∧ EndIs w v k (encX es ks c) w') ∧
  (¬ CauRight es ks c → e = .returned (.tuple #[.slice none 0 0, .int .i64 1])) ∧ Frm NoS w w'
theorem end_all (ob : Nat) (w : World) (v : Value) (bs : List UInt8) (h : OutAt w ob v bs) : Calls Try.prog 13 #[.pointer (some ⟨ob, 0, none⟩)] w fun e w' =>
    ∃ v' k, e = .returned (.tuple #[v', .int .i64 k]) ∧ (if bs.length ≤ 60000 then k = 0 ∧ Copy w v' bs w' else k = 3 ∧ v' = .slice none 0 0 ∧ Frm NoS w w') := by
  by_cases hl : bs.length ≤ 60000
  · exact (end_ok ob w v bs h hl).mono fun e w' ⟨v', he, hc⟩ => ⟨v', 0, he, by rw [if_pos hl]; exact ⟨rfl, hc⟩⟩
  · exact (end_long ob w v bs h (by omega)).mono fun e w' ⟨he, hw⟩ => ⟨_, 3, he, by rw [if_neg hl]; subst hw; exact ⟨rfl, rfl, Frm.refl _ _⟩⟩
theorem end_frm {w w' : World} {v : Value} {k : Int} {bs : List UInt8} (h : if bs.length ≤ 60000 then k = 0 ∧ Copy w v bs w' else k = 3 ∧ v = .slice none 0 0 ∧ Frm NoS w w') : Frm NoS w w' := by
  split at h
  · exact h.2.frm
  · exact h.2.2
theorem end_shape {w w' : World} {v : Value} {k : Int} {bs : List UInt8} (h : if bs.length ≤ 60000 then k = 0 ∧ Copy w v bs w' else k = 3 ∧ v = .slice none 0 0 ∧ Frm NoS w w') : ∃ a n c, v = .slice a n c := by
  split at h
  · obtain ⟨a, c, h⟩ := h.2.shape
    exact ⟨_, _, _, h⟩
  · exact ⟨_, _, _, h.2.1⟩
theorem end_base {w0 w w' : World} {v : Value} {k : Int} {bs : List UInt8} (h : if bs.length ≤ 60000 then k = 0 ∧ Copy w v bs w' else k = 3 ∧ v = .slice none 0 0 ∧ Frm NoS w w') (f : Frm NoS w0 w) : EndIs w0 v k bs w' := by
  unfold EndIs
  split at h
  · rw [if_pos (by assumption)]
    exact ⟨h.1, h.2.weaken f⟩
  · rw [if_neg (by assumption)]
    exact ⟨h.1, h.2.1⟩
set_option maxRecDepth 100000 in
theorem pBytes_any (Q : Nat → Prop) (es : List Ent) (ks : KidsL) (c : CtxL) (w : World) (ev kv cv : Value) (h : CauAt Q w ev kv cv es ks c) (hok : CauOk es ks c) :
    Calls Try.prog 7 #[.agg #[ev, kv, cv]] w (BytesPost w es ks c) := by
  have HR := Lib.hid (fun W (f : Frm NoS w W) => caRight_any Q es ks c W _ _ _ (h.keep0 f) hok)
  have HC := Lib.hid (fun W v ob bs (f : Frm NoS w W) (ho : OutAt W ob v bs) (hl : bs.length ≤ 79000000) => pPutCausal_any Q ob W v bs es ks c _ _ _ ho (h.keep0 f) hok hl)
  obtain ⟨a0, c0, a1, c1, a2, c2, rfl, rfl, rfl⟩ := h.shape
  clear h hok
  by_cases hr : CauRight es ks c
  · rw [tf_true hr] at HR
    have hX : cauB es ks c = encX es ks c := by unfold cauB; rw [tf_true hr, if_pos rfl]
    rw [hX] at HC
    clear hX
    unfold BytesPost
    have HRT := Lib.hid hr; clear hr
    generalize encX es ks c = X at *
    generalize CauRight es ks c = p at *
    generalize es.length = n at *
    generalize ks.len = m at *
    generalize c.length = k at *
    go_enter Try.func7, Try.ntmps7
    go_wp2_with (first
      | (go_at_call 11; refine (HR.out _ (Frm.alloc _ _ _)).mono ?_; rintro e w1 ⟨rfl, hw1⟩; obtain ⟨y0, y1, y2⟩ := box3 w _ _ _ _ w1 hw1; have hlb := World.block_lt_of_cell? _ _ y0; have HW1 := Lib.hid ((Frm.alloc NoS _ _).then1 hw1); clear hw1)
      | (go_at_call 12; refine (HC.out _ _ _ _ (HW1.out.alloc1) (out_new w1) (by simp)).mono ?_; rintro e w2 ⟨rfl, hp⟩; obtain ⟨v2, ho2, hfr2, hfm2⟩ := hp; rw [List.nil_append] at ho2; have HO2 := Lib.hid ho2; have HF2 := Lib.hid ((Frm.alloc NoS w1 _).trans hfm2 fun i hi hs => out_alloc_no w1 i hi hs); clear ho2 hfr2 hfm2)
      | (go_at_call 13; refine (end_all _ w2 v2 _ HO2.out).mono ?_; rintro e w3 ⟨v3, k3, rfl, h3⟩; obtain ⟨a3, n3, c3, rfl⟩ := end_shape h3; have H3 := Lib.hid h3; clear h3))
    go_ret2
    exact ⟨fun _ => ⟨_, k3, rfl, end_base H3.out (HW1.out.then1 HF2.out)⟩, fun hn => absurd HRT.out hn, (HW1.out.then1 HF2.out).then1 (end_frm H3.out)⟩
  · rw [tf_false hr] at HR
    unfold BytesPost
    have HRT := Lib.hid hr; clear hr HC
    generalize encX es ks c = X at *
    generalize CauRight es ks c = p at *
    generalize es.length = n at *
    generalize ks.len = m at *
    generalize c.length = k at *
    go_enter Try.func7, Try.ntmps7
    go_wp2_with (go_at_call 11; refine (HR.out _ (Frm.alloc _ _ _)).mono ?_; rintro e w1 ⟨rfl, hw1⟩; have HW1 := Lib.hid ((Frm.alloc NoS _ _).then1 hw1); clear hw1)
    go_ret2
    exact ⟨fun h => absurd h HRT.out, fun _ => rfl, HW1.out⟩
end Go.Proofs.Ytafdclkpeomomaa

/- tributaryref07: Same: the walk. -/
namespace Go.Proofs.Ytafdclkpeomomaa
open Go.RowKit

/-- The first k spans are alike. -/
def LikeC (a b : CtxL) (k : Nat) : Prop := ∀ j, j < k → a.getD j (0, 0, 0) = b.getD j (0, 0, 0)
theorem LikeC.all {a b : CtxL} (hl : a.length = b.length) (h : LikeC a b a.length) : a = b := by
  refine List.ext_getElem hl fun j h1 h2 => ?_
  have := h j h1
  rwa [getD_at _ h1, getD_at _ h2] at this
theorem LikeC.step {a b : CtxL} {k : Nat} (h : LikeC a b k) (he : a.getD k (0, 0, 0) = b.getD k (0, 0, 0)) : LikeC a b (k + 1) := fun j hj => by
  rcases Nat.lt_succ_iff_lt_or_eq.1 hj with hj | rfl
  · exact h j hj
  · exact he
def eq3 (s t : Int × Int × Int) : Bool := decide (s = t)
set_option maxHeartbeats 2000000 in
set_option maxRecDepth 1000000 in
theorem r7Same_any (w : World) (va vb : Value) (a b : CtxL) (ha : CtxAt w va a) (hb : CtxAt w vb b) (la : a.length ≤ 100000) (lb : b.length ≤ 100000) :
    Calls Try.prog 18 #[va, vb] w fun e w' => e = .returned (.bool (decide (a = b))) ∧ Frm NoS w w' := by
  obtain ⟨aA, cA, rfl⟩ := ha.sl
  obtain ⟨aB, cB, rfl⟩ := hb.sl
  by_cases hab : a.length = b.length
  rotate_left 1
  · have hne : decide (a = b) = false := by rw [decide_eq_false_iff_not]; intro h; exact hab (by rw [h])
    rw [hne]
    clear hne ha hb
    generalize a.length = n at *
    generalize b.length = m at *
    have hz : ((n : Int) == (m : Int)) = false := by simp; omega
    go_enter Try.func18, Try.ntmps18
    go_wp2
    go_ret
    exact ⟨rfl, Frm.refl _ _⟩
  have HAB := Lib.hid hab
  rw [← hab] at lb
  have hb2 : CtxAt w (.slice aB a.length cB) b := by rw [hab]; exact hb
  have HA := Lib.hid ha; clear ha
  have HB := Lib.hid hb2; clear hb hb2
  clear hab lb
  have hbl : b.length = a.length := HAB.out.symm
  rw [hbl]
  clear hbl
  generalize hn : a.length = n at *
  have HN := Lib.hid hn; clear hn
  go_enter Try.func18, Try.ntmps18
  go_wp2
  go_loopw [13] (fun i ww => ∃ k : Nat, k ≤ n ∧ i = .int .i64 k ∧ LikeC a b k ∧ Frm NoS w ww) (fun i _ => n - (intOf i).toNat)
  case atStart => exact ⟨0, Nat.zero_le _, rfl, (fun j hj => absurd hj (Nat.not_lt_zero _)), Frm.refl _ _⟩
  case round =>
    obtain ⟨k, hk, rfl, hlk, hf⟩ := hrel
    have HLK := Lib.hid hlk; clear hlk
    have HF := Lib.hid hf; clear hf
    by_cases hlt : k < n
    · have hka : k < a.length := by rw [HN.out]; exact hlt
      have hkb : k < b.length := by rw [← HAB.out]; exact hlt
      rcases Rd.shape HA.out with ⟨ad, he, h0⟩ | ⟨o1, off1, cc1, he, hmax⟩
      · exfalso; have := HN.out; omega
      rcases Rd.shape HB.out with ⟨ad, he2, h0⟩ | ⟨o2, off2, cc2, he2, hmax2⟩
      · exfalso; have := HN.out; have := HAB.out; omega
      injection he with e1 e2 e3
      injection he2 with e4 e5 e6
      subst e1 e3 e4 e6
      clear e2 e5
      obtain ⟨p0, p1, p2⟩ := spn_at HA.out (by rw [HN.out]) k hka
      obtain ⟨q0, q1, q2⟩ := spn_at HB.out HAB.out k hkb
      have p0 := HF.out.cell' p0 id
      have p1 := HF.out.cell' p1 id
      have p2 := HF.out.cell' p2 id
      have q0 := HF.out.cell' q0 id
      have q1 := HF.out.cell' q1 id
      have q2 := HF.out.cell' q2 id
      have hst : a.getD k (0, 0, 0) = b.getD k (0, 0, 0) → LikeC a b (k + 1) := HLK.out.step
      have HST := Lib.hid hst; clear hst
      have hno : a.getD k (0, 0, 0) ≠ b.getD k (0, 0, 0) → a ≠ b := fun h e => h (by rw [e])
      have HNO := Lib.hid hno; clear hno
      generalize a.getD k (0, 0, 0) = s at *
      generalize b.getD k (0, 0, 0) = t at *
      by_cases hst : s = t
      · subst hst
        go_wp2_with fail
        go_quiet (fail)
        go_wp2
        go_roundw
        case rel => exact ⟨k + 1, by omega, by go_num, HST.out (by trivial), HF.out.drewN1⟩
        case measure => simp [intOf]; omega
      · have HNE := Lib.hid (show false = decide (a = b) from by symm; rw [decide_eq_false_iff_not]; exact HNO.out hst)
        obtain ⟨s0, s1, s2⟩ := s
        obtain ⟨t0, t1, t2⟩ := t
        clear HST HNO
        dsimp only at p0 p1 p2 q0 q1 q2
        by_cases g0 : s0 = t0
        · subst g0
          by_cases g1 : s1 = t1
          · subst g1
            have g2 : s2 ≠ t2 := fun h => hst (by rw [h])
            clear hst
            have gb : ((s2 : Int) == t2) = false := by simpa using g2
            go_wp2_with fail
            go_quiet (fail)
            go_wp2
            go_ret
            exact ⟨ret_bool HNE.out, HF.out.drewN1⟩
          · clear hst
            have gb : ((s1 : Int) == t1) = false := by simpa using g1
            go_wp2_with fail
            go_quiet (fail)
            go_wp2
            go_ret
            exact ⟨ret_bool HNE.out, HF.out.drewN1⟩
        · clear hst
          have gb : ((s0 : Int) == t0) = false := by simpa using g0
          go_wp2_with fail
          go_quiet (fail)
          go_wp2
          go_ret
          exact ⟨ret_bool HNE.out, HF.out.drewN1⟩
    · obtain rfl : n = k := by omega
      have heq : decide (a = b) = true := by rw [decide_eq_true_iff]; exact LikeC.all (HN.out.trans HAB.out) (by rw [HN.out]; exact HLK.out)
      have HEQ := Lib.hid heq; clear heq
      go_wp2
      go_ret
      exact ⟨ret_bool HEQ.out.symm, HF.out⟩
end Go.Proofs.Ytafdclkpeomomaa
