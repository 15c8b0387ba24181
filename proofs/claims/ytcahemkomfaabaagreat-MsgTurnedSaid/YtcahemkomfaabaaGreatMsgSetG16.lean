/- Words for the law MsgSet: PackGet6, CSame, Eq, TSame, Same1, VecEq, Same2. -/
import Derived.Test.YtcahemkomfaabaaGreatMsgSetG3
import Derived.Test.YtcahemkomfaabaaGreatMsgSetG7
import Derived.Test.YtcahemkomfaabaaGreatMsgSetG9
import Derived.Test.YtcahemkomfaabaaGreatMsgSetG11
import Derived.Test.YtcahemkomfaabaaGreatMsgSetG15
import Derived.ChangeKeysEq
set_option linter.unusedSimpArgs false
set_option linter.unusedVariables false
set_option maxHeartbeats 32000000
set_option maxRecDepth 1000000
namespace Go.Proofs.YtcahemkomfaabaaGreat
open Go.RowKit
theorem TreeRes.total (st : Option (List UInt8)) : ∃ es ks s, TreeRes st es ks s := by
 by_cases h : ∃ es ks rest, st = some (encT es ks ++ rest) ∧ rightT 5 es ks = true
 · obtain ⟨es, ks, rest, h1, h2⟩ := h
   exact ⟨es, ks, some rest, .inl ⟨rest, h1, h2, rfl⟩⟩
 · exact ⟨[], .nil, none, .inr ⟨rfl, rfl, rfl, fun es ks rest h1 => by
    cases h2 : rightT 5 es ks with
    | false => rfl
    | true => exact absurd ⟨es, ks, rest, h1, h2⟩ h⟩⟩
theorem CtxRes.total (st : Option (List UInt8)) : ∃ c s, CtxRes st c s := by
 by_cases h : ∃ c rest, st = some (encC c ++ rest) ∧ RightC c
 · obtain ⟨c, rest, h1, h2⟩ := h
   exact ⟨c, some rest, .inl ⟨rest, h1, h2, rfl⟩⟩
 · exact ⟨[], none, .inr ⟨rfl, rfl, fun c rest h1 h2 => h ⟨c, rest, h1, h2⟩⟩⟩
theorem CauRes.total (st : Option (List UInt8)) : ∃ es ks c s, CauRes st es ks c s := by
 by_cases h : ∃ es ks c rest, st = some (encX es ks c ++ rest) ∧ CauRight es ks c
 · obtain ⟨es, ks, c, rest, h1, h2⟩ := h
   exact ⟨es, ks, c, some rest, .inl ⟨rest, h1, h2, rfl⟩⟩
 · exact ⟨[], .nil, [], none, .inr ⟨rfl, rfl, rfl, rfl, fun es ks c rest h1 h2 => h ⟨es, ks, c, rest, h1, h2⟩⟩⟩
theorem tree_at {st s : Option (List UInt8)} {es : List Ent} {ks : KidsL} (hr : TreeRes st es ks s) (ib : Nat) (w : World) (h : InSt w ib st) (hl : (leftOf st).length ≤ 60000) :
 Calls Tryz.prog 110 #[.pointer (some ⟨ib, 0, none⟩)] w fun e w' => ∃ ev kv, e = .returned (.agg #[ev, kv]) ∧ TreeAt (fun b => w.heap.size ≤ b) w' ev kv es ks ∧ InSt w' ib s ∧ Frm (Only ib) w w' :=
 (pGetTree_any ib st w h hl).mono fun e w' ⟨ev, kv, es', ks', s', he, ht, hr', hi, hf⟩ => by
  obtain ⟨⟨rfl, rfl⟩, rfl⟩ := hr.det hr'
  exact ⟨ev, kv, he, ht, hi, hf⟩
theorem ctx_at {st s : Option (List UInt8)} {c : CtxL} (hr : CtxRes st c s) (ib : Nat) (w : World) (h : InSt w ib st) (hl : (leftOf st).length ≤ 60000) :
 Calls Tryz.prog 111 #[.pointer (some ⟨ib, 0, none⟩)] w fun e w' => ∃ cv, e = .returned cv ∧ RdQ (fun b => w.heap.size ≤ b) w' cv c.length (spC c) ∧ InSt w' ib s ∧ Frm (Only ib) w w' :=
 (pGetCtx_any ib st w h hl).mono fun e w' ⟨cv, c', s', he, ht, hr', _, _, hi, hf⟩ => by
  obtain ⟨rfl, rfl⟩ := hr.det hr'
  exact ⟨cv, he, ht, hi, hf⟩
theorem CtxRes.fits {st s : Option (List UInt8)} {c : CtxL} (h : CtxRes st c s) : FitsC c := by
 rcases h with ⟨r, rfl, hr, rfl⟩ | ⟨rfl, rfl, _⟩
 · exact hr.fits
 · exact fun s hs => by cases hs
theorem both_ok {st s1 s2 : Option (List UInt8)} {es : List Ent} {ks : KidsL} {c : CtxL} (h1 : TreeRes st es ks s1) (h2 : CtxRes s1 c s2) (hl : (leftOf st).length ≤ 6000) : CauOk es ks c := by
 have g1 := h1.sizes
 have g2 := h2.sizes
 exact ⟨h1.tr (by omega), by omega, h2.fits, by omega⟩
def CauFit (st : Option (List UInt8)) : Prop := ∀ es ks s1 c s2, TreeRes st es ks s1 → CtxRes s1 c s2 → CauOk es ks c
theorem CauFit.small {st : Option (List UInt8)} (hl : (leftOf st).length ≤ 6000) : CauFit st := fun _ _ _ _ _ h1 h2 => both_ok h1 h2 hl
theorem CauFit.ok {st s : Option (List UInt8)} {es : List Ent} {ks : KidsL} {c : CtxL} (hf : CauFit st) (h : CauRes st es ks c s) : CauOk es ks c := by
 rcases h with ⟨r, rfl, hr, rfl⟩ | ⟨rfl, rfl, rfl, rfl, _⟩
 · exact hf es ks (some (encC c ++ r)) c (some r) (.inl ⟨encC c ++ r, by unfold encX; rw [List.append_assoc], hr.tree, rfl⟩) (.inl ⟨r, rfl, hr.ctx, rfl⟩)
 · exact ⟨trOk_nil, Nat.zero_le _, (fun s hs => by cases hs), Nat.zero_le _⟩
theorem CauFit.known {es : List Ent} {ks : KidsL} {c : CtxL} {r : List UInt8} (h : CauRight es ks c) (hk : CauOk es ks c) : CauFit (some (encX es ks c ++ r)) := fun es' ks' s1 c' s2 h1 h2 => by
 obtain ⟨rfl, rfl, rfl, -⟩ := cau_parts h1 h2 rfl h
 exact hk
theorem rdq_nil (Q : Nat → Prop) (w : World) : RdQ Q w (.slice none 0 0) 0 [] := ⟨.inl ⟨none, rfl, rfl, rfl⟩, fun h => absurd rfl h⟩
def CtxQ (Q : Nat → Prop) (w : World) (v : Value) (c : CtxL) : Prop := RdQ Q w v c.length (spC c)
theorem CtxQ.keep0 {Q : Nat → Prop} {w w' : World} {v : Value} {c : CtxL} (h : CtxQ Q w v c) (f : Frm NoS w w') : CtxQ Q w' v c := RdQ.keep h f fun _ _ h => h.elim
theorem CtxQ.at_ {Q : Nat → Prop} {w : World} {v : Value} {c : CtxL} (h : CtxQ Q w v c) : CtxAt w v c := RdQ.rd h
def CauTk (es : List Ent) (ks : KidsL) (c : CtxL) (s : Option (List UInt8)) (ib : Nat) (w : World) (e : Ending) (w' : World) : Prop :=
 ∃ ev kv cv, e = .returned (.agg #[ev, kv, cv]) ∧ TreeAt (fun b => w.heap.size ≤ b) w' ev kv es ks ∧ CtxQ (fun b => w.heap.size ≤ b) w' cv c ∧ InSt w' ib s ∧ Frm (Only ib) w w'
theorem cauOut {Q : Nat → Prop} {w ww w' : World} {ib : Nat} {s : Option (List UInt8)} {e2 k2 c2 : Value} {es2 : List Ent} {ks2 : KidsL} {c : CtxL}
 (hin : InSt ww ib s) (hib : ib < w.heap.size) (hf : Frm (Only ib) w ww) (ht : TreeAt Q ww e2 k2 es2 ks2) (hc : CtxQ Q ww c2 c) (hq : ∀ b, Q b → w.heap.size ≤ b ∧ b ≠ w.heap.size) (hts : Frm (fun b => b = w.heap.size) ww w') :
 CauTk es2 ks2 c s ib w (.returned (.agg #[e2, k2, c2])) w' :=
 ⟨e2, k2, c2, rfl, ht.turn fun b hb hQ => ⟨hts.block b hb (hq b hQ).2, (hq b hQ).1⟩, (RdQ.turn hc (Q' := fun b => w.heap.size ≤ b) fun b hb hQ => ⟨hts.block b hb (hq b hQ).2, (hq b hQ).1⟩), hin.keep hts fun j hj hs => by have hs : j = w.heap.size := hs; omega, hf.trans hts fun i hi hs => by have hs : i = w.heap.size := hs; omega⟩
theorem three_set (w : World) (b : Nat) (u u' u2 : Value) : Frm (Only b) w (((w.setCell ⟨b, 0, none⟩ u).setCell ⟨b, 1, none⟩ u').setCell ⟨b, 2, none⟩ u2) := ((only_set w b 0 u).trans (only_set _ b 1 u') fun _ _ h => h).trans (only_set _ b 2 u2) fun _ _ h => h
theorem pGetCausal_fit (ib : Nat) (st s : Option (List UInt8)) (es : List Ent) (ks : KidsL) (c : CtxL) (w : World) (hc : CauRes st es ks c s) (h : InSt w ib st) (hl : (leftOf st).length ≤ 60000) (hfit : CauFit st) :
 Calls Tryz.prog 57 #[.pointer (some ⟨ib, 0, none⟩)] w (CauTk es ks c s ib w) := by
 have hib := h.lt
 have hno : ¬ Only ib w.heap.size := fun h => by have h : w.heap.size = ib := h; omega
 have HNO := Lib.hid hno; clear hno
 have HB0 := Lib.hid (heap_alloc_new w (.cells #[.slice none 0 0, .slice none 0 0, .slice none 0 0] 32))
 have HI0 := Lib.hid (h.keep (Frm.alloc NoS w (.cells #[.slice none 0 0, .slice none 0 0, .slice none 0 0] 32)) fun _ _ => id)
 have HIB := Lib.hid hib; clear hib
 have HF0 := Lib.hid ((Frm.alloc NoS w (.cells #[.slice none 0 0, .slice none 0 0, .slice none 0 0] 32)).mono (T := Only ib) fun _ _ h => h.elim)
 have HS0 := Lib.hid (show (w.alloc (.cells #[.slice none 0 0, .slice none 0 0, .slice none 0 0] 32)).heap.size = w.heap.size + 1 by simp)
 clear h
 obtain ⟨es1, ks1, s1, ht1⟩ := TreeRes.total st
 obtain ⟨c1, s2, hc1⟩ := CtxRes.total s1
 have hok := hfit _ _ _ _ _ ht1 hc1
 have hl1 := ht1.sizes
 have HG := Lib.hid (tree_at ht1 ib _ HI0.out (by omega))
 have HC := Lib.hid (fun W (h : InSt W ib s1) => ctx_at hc1 ib W h (by omega))
 have HRT := Lib.hid (fun W Q ev kv cv (h : CauAt Q W ev kv cv es1 ks1 c1) => caRight_any Q es1 ks1 c1 W ev kv cv h hok)
 clear hok hl1 hfit
 cases s2 with
 | some r =>
  by_cases hr : CauRight es1 ks1 c1
  · rw [tf_true hr] at HRT
    obtain ⟨⟨⟨rfl, rfl⟩, rfl⟩, rfl⟩ := hc.det (cau_good ht1 hc1 hr)
    clear hc hr ht1 hc1
    go_enter Tryz.func57, Tryz.ntmps57
    go_wp2_with (first
     | (go_at_call 110; refine HG.out.mono ?_; rintro e w1 ⟨ev, kv, rfl, hta, hi1, hf1⟩; obtain ⟨a3, c3, rfl⟩ := hta.ents.rd.sl; obtain ⟨os3, hkr3, -⟩ := hta.kids; obtain ⟨a4, c4, rfl⟩ := hkr3.rd.sl; clear hkr3
        have HB1 := Lib.hid (hf1.blk HB0.out HNO.out)
        have HTA := Lib.hid hta; clear hta
        have HI1 := Lib.hid hi1; clear hi1
        have HF1 := Lib.hid hf1; clear hf1)
     | (go_at_call 111; refine (HC.out _ HI1.out).mono ?_; rintro e w2 ⟨cv, rfl, hrc, hi2, hf2⟩; obtain ⟨a5, c5, rfl⟩ := hrc.rd.sl
        have HB2 := Lib.hid (hf2.blk HB1.out HNO.out)
        have HTA2 := Lib.hid (HTA.out.turn (Q' := fun b => (w.alloc (.cells #[.slice none 0 0, .slice none 0 0, .slice none 0 0] 32)).heap.size ≤ b) fun b hb hQ => ⟨hf2.block b hb fun hs => by have hs : b = ib := hs; have := HIB.out; have := HS0.out; omega, hQ⟩)
        have HRC := Lib.hid (show CtxQ (fun b => (w.alloc (.cells #[.slice none 0 0, .slice none 0 0, .slice none 0 0] 32)).heap.size ≤ b) w2 (.slice a5 c.length c5) c from hrc.turn fun b hb hQ => ⟨rfl, Nat.le_trans HF1.out.size hQ⟩); clear hrc
        have HI2 := Lib.hid hi2; clear hi2
        have HF2 := Lib.hid ((HF0.out.trans HF1.out fun _ _ h => h).trans hf2 fun _ _ h => h)
        clear hf2
        generalize es.length = n at *
        generalize ks.len = m at *
        generalize c.length = k at *
        have HA2 := Lib.hid (Frm.alloc NoS w2 (.cells #[.slice a3 n c3, .slice a4 m c4, .slice a5 k c5] 32))
        have HX2 := Lib.hid (heap_alloc_new w2 (.cells #[.slice a3 n c3, .slice a4 m c4, .slice a5 k c5] 32)))
     | (go_at_call 55; refine (bad_go ib _ _ (HI2.out.keep HA2.out fun _ _ => id)).mono ?_; rintro e w9 ⟨rfl, rfl⟩)
     | (go_at_call 79; refine (HRT.out _ _ _ _ _ ⟨HTA2.out.keep0 HA2.out, (HRC.out.keep0 HA2.out).at_⟩).mono ?_; rintro e w3 ⟨rfl, hf3⟩
        have hx3 := hf3.blk HX2.out id
        have z0 := cell_at' hx3 0 rfl
        have z1 := cell_at' hx3 1 rfl
        have z2 := cell_at' hx3 2 rfl
        have hb3 := hf3.blk (HA2.out.blk HB2.out id) id
        have y0 := cell_at' hb3 0 rfl
        have y1 := cell_at' hb3 1 rfl
        have y2 := cell_at' hb3 2 rfl
        have f0 := free_at' hb3 0
        have f1 := free_at' hb3 1
        have f2 := free_at' hb3 2
        have hl2 := lt_of_block hb3
        have hl3 := lt_of_block hx3
        have HB3 := Lib.hid hb3
        have HF3 := Lib.hid (HA2.out.then1 hf3)
        clear hf3 hx3 hb3))
    clear y0 y1 y2 z0 z1 z2
    have y0 := cell_at' (set_at' (set_at' (set_at' HB3.out 0 (.slice a3 n c3)) 1 (.slice a4 m c4)) 2 (.slice a5 k c5)) 0 rfl
    have y1 := cell_at' (set_at' (set_at' (set_at' HB3.out 0 (.slice a3 n c3)) 1 (.slice a4 m c4)) 2 (.slice a5 k c5)) 1 rfl
    have y2 := cell_at' (set_at' (set_at' (set_at' HB3.out 0 (.slice a3 n c3)) 1 (.slice a4 m c4)) 2 (.slice a5 k c5)) 2 rfl
    have hts := three_set w3 w.heap.size (.slice a3 n c3) (.slice a4 m c4) (.slice a5 k c5)
    exact bodyPost_ret (v := .agg #[.slice a3 n c3, .slice a4 m c4, .slice a5 k c5]) (by simp [results, Tryz.results57, go_sem, y0, y1, y2]) rfl (cauOut (HI2.out.keep HF3.out fun _ _ => id) HIB.out (HF2.out.trans HF3.out fun _ _ h => h.elim) (HTA2.out.keep0 HF3.out) (HRC.out.keep0 HF3.out) (fun b h => by have := HS0.out; have h : (w.alloc (.cells #[.slice none 0 0, .slice none 0 0, .slice none 0 0] 32)).heap.size ≤ b := h; omega) hts)
  · rw [tf_false hr] at HRT
    obtain ⟨⟨⟨rfl, rfl⟩, rfl⟩, rfl⟩ := hc.det (cau_bad ht1 hc1 (.inr hr))
    clear hc hr ht1 hc1
    go_enter Tryz.func57, Tryz.ntmps57
    go_wp2_with (first
     | (go_at_call 110; refine HG.out.mono ?_; rintro e w1 ⟨ev, kv, rfl, hta, hi1, hf1⟩; obtain ⟨a3, c3, rfl⟩ := hta.ents.rd.sl; obtain ⟨os3, hkr3, -⟩ := hta.kids; obtain ⟨a4, c4, rfl⟩ := hkr3.rd.sl; clear hkr3
        have HB1 := Lib.hid (hf1.blk HB0.out HNO.out)
        have HTA := Lib.hid hta; clear hta
        have HI1 := Lib.hid hi1; clear hi1
        have HF1 := Lib.hid hf1; clear hf1)
     | (go_at_call 111; refine (HC.out _ HI1.out).mono ?_; rintro e w2 ⟨cv, rfl, hrc, hi2, hf2⟩; obtain ⟨a5, c5, rfl⟩ := hrc.rd.sl
        have HB2 := Lib.hid (hf2.blk HB1.out HNO.out)
        have HTA2 := Lib.hid (HTA.out.turn (Q' := fun b => (w.alloc (.cells #[.slice none 0 0, .slice none 0 0, .slice none 0 0] 32)).heap.size ≤ b) fun b hb hQ => ⟨hf2.block b hb fun hs => by have hs : b = ib := hs; have := HIB.out; have := HS0.out; omega, hQ⟩)
        have HRC := Lib.hid (show CtxQ (fun b => (w.alloc (.cells #[.slice none 0 0, .slice none 0 0, .slice none 0 0] 32)).heap.size ≤ b) w2 (.slice a5 c1.length c5) c1 from hrc.turn fun b hb hQ => ⟨rfl, Nat.le_trans HF1.out.size hQ⟩); clear hrc
        have HI2 := Lib.hid hi2; clear hi2
        have HF2 := Lib.hid ((HF0.out.trans HF1.out fun _ _ h => h).trans hf2 fun _ _ h => h)
        clear hf2
        generalize es1.length = n at *
        generalize ks1.len = m at *
        generalize c1.length = k at *
        have HA2 := Lib.hid (Frm.alloc NoS w2 (.cells #[.slice a3 n c3, .slice a4 m c4, .slice a5 k c5] 32)))
     | (go_at_call 55; refine (bad_go ib _ _ (HI2.out.keep HA2.out fun _ _ => id)).mono ?_; rintro e w9 ⟨rfl, rfl⟩)
     | (go_at_call 79; refine (HRT.out _ _ _ _ _ ⟨HTA2.out.keep0 HA2.out, (HRC.out.keep0 HA2.out).at_⟩).mono ?_; rintro e w3 ⟨rfl, hf3⟩; have HF3 := Lib.hid (HA2.out.then1 hf3); clear hf3)
     | (go_at_call 109; obtain ⟨a, c, hh⟩ := (HI2.out.keep HF3.out fun _ _ => id).heap; refine (fail_go ib _ _ w3 hh).mono ?_; rintro e w4 ⟨rfl, hi4, hf4⟩
        have HI4 := Lib.hid (show InSt w4 ib none from hi4); clear hi4 hh
        have hb3 := hf4.blk (HF3.out.blk HB2.out id) HNO.out
        have y0 := cell_at' hb3 0 rfl
        have y1 := cell_at' hb3 1 rfl
        have y2 := cell_at' hb3 2 rfl
        have f0 := free_at' hb3 0
        have f1 := free_at' hb3 1
        have f2 := free_at' hb3 2
        have hl2 := lt_of_block hb3
        have HB3 := Lib.hid hb3
        have HF4 := Lib.hid ((HF2.out.trans HF3.out fun _ _ h => h.elim).trans hf4 fun _ _ h => h)
        clear hf4 hb3))
    clear y0 y1 y2
    have y0 := cell_at' (set_at' (set_at' (set_at' HB3.out 0 (.slice none 0 0)) 1 (.slice none 0 0)) 2 (.slice none 0 0)) 0 rfl
    have y1 := cell_at' (set_at' (set_at' (set_at' HB3.out 0 (.slice none 0 0)) 1 (.slice none 0 0)) 2 (.slice none 0 0)) 1 rfl
    have y2 := cell_at' (set_at' (set_at' (set_at' HB3.out 0 (.slice none 0 0)) 1 (.slice none 0 0)) 2 (.slice none 0 0)) 2 rfl
    have hts := three_set w4 w.heap.size (.slice none 0 0) (.slice none 0 0) (.slice none 0 0)
    exact bodyPost_ret (v := .agg #[.slice none 0 0, .slice none 0 0, .slice none 0 0]) (by simp [results, Tryz.results57, go_sem, y0, y1, y2]) rfl (cauOut (c := []) HI4.out HIB.out HF4.out (tree_nilQ (fun b => w.heap.size ≤ b ∧ b ≠ w.heap.size) w4) (rdq_nil _ _) (fun b h => h) hts)
 | none =>
  obtain ⟨⟨⟨rfl, rfl⟩, rfl⟩, rfl⟩ := hc.det (cau_bad ht1 hc1 (.inl rfl))
  clear hc ht1 hc1 HRT
  go_enter Tryz.func57, Tryz.ntmps57
  go_wp2_with (first
   | (go_at_call 110; refine HG.out.mono ?_; rintro e w1 ⟨ev, kv, rfl, hta, hi1, hf1⟩; obtain ⟨a3, c3, rfl⟩ := hta.ents.rd.sl; obtain ⟨os3, hkr3, -⟩ := hta.kids; obtain ⟨a4, c4, rfl⟩ := hkr3.rd.sl; clear hkr3 hta
      have HB1 := Lib.hid (hf1.blk HB0.out HNO.out)
      have HI1 := Lib.hid hi1; clear hi1
      have HF1 := Lib.hid hf1; clear hf1)
   | (go_at_call 111; refine (HC.out _ HI1.out).mono ?_; rintro e w2 ⟨cv, rfl, hrc, hi2, hf2⟩; obtain ⟨a5, c5, rfl⟩ := hrc.rd.sl; clear hrc
      have HB2 := Lib.hid (hf2.blk HB1.out HNO.out)
      have HI2 := Lib.hid hi2; clear hi2
      have HF2 := Lib.hid ((HF0.out.trans HF1.out fun _ _ h => h).trans hf2 fun _ _ h => h)
      clear hf2
      generalize es1.length = n at *
      generalize ks1.len = m at *
      generalize c1.length = k at *
      have HA2 := Lib.hid (Frm.alloc NoS w2 (.cells #[.slice a3 n c3, .slice a4 m c4, .slice a5 k c5] 32)))
   | (go_at_call 55; refine (bad_go ib _ _ (HI2.out.keep HA2.out fun _ _ => id)).mono ?_; rintro e w9 ⟨rfl, rfl⟩)
   | (go_at_call 109; obtain ⟨a, c, hh⟩ := (HI2.out.keep HA2.out fun _ _ => id).heap; refine (fail_go ib _ _ _ hh).mono ?_; rintro e w4 ⟨rfl, hi4, hf4⟩
      have HI4 := Lib.hid (show InSt w4 ib none from hi4); clear hi4 hh
      have hb3 := hf4.blk (HA2.out.blk HB2.out id) HNO.out
      have y0 := cell_at' hb3 0 rfl
      have y1 := cell_at' hb3 1 rfl
      have y2 := cell_at' hb3 2 rfl
      have f0 := free_at' hb3 0
      have f1 := free_at' hb3 1
      have f2 := free_at' hb3 2
      have hl2 := lt_of_block hb3
      have HB3 := Lib.hid hb3
      have HF4 := Lib.hid ((HF2.out.trans HA2.out fun _ _ h => h.elim).trans hf4 fun _ _ h => h)
      clear hf4 hb3))
  clear y0 y1 y2
  have y0 := cell_at' (set_at' (set_at' (set_at' HB3.out 0 (.slice none 0 0)) 1 (.slice none 0 0)) 2 (.slice none 0 0)) 0 rfl
  have y1 := cell_at' (set_at' (set_at' (set_at' HB3.out 0 (.slice none 0 0)) 1 (.slice none 0 0)) 2 (.slice none 0 0)) 1 rfl
  have y2 := cell_at' (set_at' (set_at' (set_at' HB3.out 0 (.slice none 0 0)) 1 (.slice none 0 0)) 2 (.slice none 0 0)) 2 rfl
  have hts := three_set w4 w.heap.size (.slice none 0 0) (.slice none 0 0) (.slice none 0 0)
  exact bodyPost_ret (v := .agg #[.slice none 0 0, .slice none 0 0, .slice none 0 0]) (by simp [results, Tryz.results57, go_sem, y0, y1, y2]) rfl (cauOut (c := []) HI4.out HIB.out HF4.out (tree_nilQ (fun b => w.heap.size ≤ b ∧ b ≠ w.heap.size) w4) (rdq_nil _ _) (fun b h => h) hts)
def LikeC (a b : CtxL) (k : Nat) : Prop := ∀ j, j < k → a.getD j (0, 0, 0) = b.getD j (0, 0, 0)
theorem LikeC.all {a b : CtxL} (hl : a.length = b.length) (h : LikeC a b a.length) : a = b := by
 refine List.ext_getElem hl fun j h1 h2 => ?_
 have := h j h1
 rwa [getD_at _ h1, getD_at _ h2] at this
theorem LikeC.step {a b : CtxL} {k : Nat} (h : LikeC a b k) (he : a.getD k (0, 0, 0) = b.getD k (0, 0, 0)) : LikeC a b (k + 1) := fun j hj => by
 rcases Nat.lt_succ_iff_lt_or_eq.1 hj with hj | rfl
 · exact h j hj
 · exact he
theorem r7Same_any (w : World) (va vb : Value) (a b : CtxL) (ha : CtxAt w va a) (hb : CtxAt w vb b) (la : a.length ≤ 100000) (lb : b.length ≤ 100000) :
 Calls Tryz.prog 70 #[va, vb] w fun e w' => e = .returned (.bool (decide (a = b))) ∧ Frm NoS w w' := by
 obtain ⟨aA, cA, rfl⟩ := ha.sl
 obtain ⟨aB, cB, rfl⟩ := hb.sl
 by_cases hab : a.length = b.length
 rotate_left 1
 · have hne : decide (a = b) = false := by rw [decide_eq_false_iff_not]; intro h; exact hab (by rw [h])
   rw [hne]
   clear hne ha hb
   generalize a.length = n at *
   generalize b.length = m at *
   have hz : ((n : Int) == (m : Int)) = false := by simp; omega
   go_enter Tryz.func70, Tryz.ntmps70
   go_wp2
   go_ret
   exact ⟨rfl, Frm.refl _ _⟩
 have HAB := Lib.hid hab
 rw [← hab] at lb
 have hb2 : CtxAt w (.slice aB a.length cB) b := by rw [hab]; exact hb
 have HA := Lib.hid ha; clear ha
 have HB := Lib.hid hb2; clear hb hb2
 clear hab lb
 have hbl : b.length = a.length := HAB.out.symm
 rw [hbl]
 clear hbl
 generalize hn : a.length = n at *
 have HN := Lib.hid hn; clear hn
 go_enter Tryz.func70, Tryz.ntmps70
 go_wp2
 go_loopw [13] (fun i ww => ∃ k : Nat, k ≤ n ∧ i = .int .i64 k ∧ LikeC a b k ∧ Frm NoS w ww) (fun i _ => n - (intOf i).toNat)
 case atStart => exact ⟨0, Nat.zero_le _, rfl, (fun j hj => absurd hj (Nat.not_lt_zero _)), Frm.refl _ _⟩
 case round =>
  obtain ⟨k, hk, rfl, hlk, hf⟩ := hrel
  have HLK := Lib.hid hlk; clear hlk
  have HF := Lib.hid hf; clear hf
  by_cases hlt : k < n
  · have hka : k < a.length := by rw [HN.out]; exact hlt
    have hkb : k < b.length := by rw [← HAB.out]; exact hlt
    rcases Rd.shape HA.out with ⟨ad, he, h0⟩ | ⟨o1, off1, cc1, he, hmax⟩
    · exfalso; have := HN.out; omega
    rcases Rd.shape HB.out with ⟨ad, he2, h0⟩ | ⟨o2, off2, cc2, he2, hmax2⟩
    · exfalso; have := HN.out; have := HAB.out; omega
    injection he with e1 e2 e3
    injection he2 with e4 e5 e6
    subst e1 e3 e4 e6
    clear e2 e5
    obtain ⟨p0, p1, p2⟩ := spn_at HA.out (by rw [HN.out]) k hka
    obtain ⟨q0, q1, q2⟩ := spn_at HB.out HAB.out k hkb
    have p0 := HF.out.cell' p0 id
    have p1 := HF.out.cell' p1 id
    have p2 := HF.out.cell' p2 id
    have q0 := HF.out.cell' q0 id
    have q1 := HF.out.cell' q1 id
    have q2 := HF.out.cell' q2 id
    have hst : a.getD k (0, 0, 0) = b.getD k (0, 0, 0) → LikeC a b (k + 1) := HLK.out.step
    have HST := Lib.hid hst; clear hst
    have hno : a.getD k (0, 0, 0) ≠ b.getD k (0, 0, 0) → a ≠ b := fun h e => h (by rw [e])
    have HNO := Lib.hid hno; clear hno
    generalize a.getD k (0, 0, 0) = s at *
    generalize b.getD k (0, 0, 0) = t at *
    by_cases hst : s = t
    · subst hst
      go_wp2_with fail
      go_quiet (fail)
      go_wp2
      go_roundw
      case rel => exact ⟨k + 1, by omega, by go_num, HST.out (by trivial), HF.out.drewN1⟩
      case measure => simp [intOf]; omega
    · have HNE := Lib.hid (show false = decide (a = b) from by symm; rw [decide_eq_false_iff_not]; exact HNO.out hst)
      obtain ⟨s0, s1, s2⟩ := s
      obtain ⟨t0, t1, t2⟩ := t
      clear HST HNO
      dsimp only at p0 p1 p2 q0 q1 q2
      by_cases g0 : s0 = t0
      · subst g0
        by_cases g1 : s1 = t1
        · subst g1
          have g2 : s2 ≠ t2 := fun h => hst (by rw [h])
          clear hst
          have gb : ((s2 : Int) == t2) = false := by simpa using g2
          go_wp2_with fail
          go_quiet (fail)
          go_wp2
          go_ret
          exact ⟨ret_bool HNE.out, HF.out.drewN1⟩
        · clear hst
          have gb : ((s1 : Int) == t1) = false := by simpa using g1
          go_wp2_with fail
          go_quiet (fail)
          go_wp2
          go_ret
          exact ⟨ret_bool HNE.out, HF.out.drewN1⟩
      · clear hst
        have gb : ((s0 : Int) == t0) = false := by simpa using g0
        go_wp2_with fail
        go_quiet (fail)
        go_wp2
        go_ret
        exact ⟨ret_bool HNE.out, HF.out.drewN1⟩
  · obtain rfl : n = k := by omega
    have heq : decide (a = b) = true := by rw [decide_eq_true_iff]; exact LikeC.all (HN.out.trans HAB.out) (by rw [HN.out]; exact HLK.out)
    have HEQ := Lib.hid heq; clear heq
    go_wp2
    go_ret
    exact ⟨ret_bool HEQ.out.symm, HF.out⟩
def LikeE (a b : List Ent) (k : Nat) : Prop := ∀ j, j < k → a.getD j Ent.zero = b.getD j Ent.zero
theorem LikeE.all {a b : List Ent} (hl : a.length = b.length) (h : LikeE a b a.length) : a = b := by
 refine List.ext_getElem hl fun j h1 h2 => ?_
 have := h j h1
 rwa [getD_at _ h1, getD_at _ h2] at this
theorem LikeE.step {a b : List Ent} {k : Nat} (h : LikeE a b k) (he : a.getD k Ent.zero = b.getD k Ent.zero) : LikeE a b (k + 1) := fun j hj => by
 rcases Nat.lt_succ_iff_lt_or_eq.1 hj with hj | rfl
 · exact h j hj
 · exact he
theorem ne_text {s t : ByteArray} (h : ¬ s = t) : ¬ s.toList = t.toList := fun e => h (by rw [ByteArray.toList_eq, ByteArray.toList_eq] at e; exact ByteArray.ext (Array.toList_inj.1 e))
theorem pair2 (w : World) (a0 a1 b0 b1 : Value) (T : TypeId) (W : World) (f : Frm NoS ((w.alloc (.cells #[a0, a1] T)).alloc (.cells #[b0, b1] T)) W) :
 W.cell? ⟨w.heap.size, 0, none⟩ = some a0 ∧ W.cell? ⟨w.heap.size, 1, none⟩ = some a1 ∧ W.cell? ⟨w.heap.size + 1, 0, none⟩ = some b0 ∧ W.cell? ⟨w.heap.size + 1, 1, none⟩ = some b1 := by
 obtain ⟨h1, _, _⟩ := two_blocks w (.cells #[a0, a1] T) #[b0, b1] T
 have h0 : ((w.alloc (.cells #[a0, a1] T)).alloc (.cells #[b0, b1] T)).heap[w.heap.size]? = some (.cells #[a0, a1] T (0, 0)) := (Frm.alloc NoS _ _).blk (heap_alloc_new w _) id
 exact ⟨f.cell' (cell_at' h0 0 rfl) id, f.cell' (cell_at' h0 1 rfl) id, f.cell' (cell_at' h1 0 rfl) id, f.cell' (cell_at' h1 1 rfl) id⟩
theorem pair3 (w : World) (a0 a1 a2 b0 b1 b2 : Value) (T : TypeId) (W : World) (f : Frm NoS ((w.alloc (.cells #[a0, a1, a2] T)).alloc (.cells #[b0, b1, b2] T)) W) :
 W.cell? ⟨w.heap.size, 0, none⟩ = some a0 ∧ W.cell? ⟨w.heap.size, 1, none⟩ = some a1 ∧ W.cell? ⟨w.heap.size, 2, none⟩ = some a2 ∧ W.cell? ⟨w.heap.size + 1, 0, none⟩ = some b0 ∧ W.cell? ⟨w.heap.size + 1, 1, none⟩ = some b1 ∧ W.cell? ⟨w.heap.size + 1, 2, none⟩ = some b2 := by
 obtain ⟨h1, _, _⟩ := two_blocks w (.cells #[a0, a1, a2] T) #[b0, b1, b2] T
 have h0 : ((w.alloc (.cells #[a0, a1, a2] T)).alloc (.cells #[b0, b1, b2] T)).heap[w.heap.size]? = some (.cells #[a0, a1, a2] T (0, 0)) := (Frm.alloc NoS _ _).blk (heap_alloc_new w _) id
 exact ⟨f.cell' (cell_at' h0 0 rfl) id, f.cell' (cell_at' h0 1 rfl) id, f.cell' (cell_at' h0 2 rfl) id, f.cell' (cell_at' h1 0 rfl) id, f.cell' (cell_at' h1 1 rfl) id, f.cell' (cell_at' h1 2 rfl) id⟩
theorem kids_step {ks ks' : KidsL} {k : Nat} {key key' : ByteArray} {es es' : List Ent} {sub sub' rest rest' : KidsL} (h : ks.drop k = .cons key es sub rest) (h' : ks'.drop k = .cons key' es' sub' rest') :
 (ks.drop k = ks'.drop k) ↔ ((key = key' ∧ es = es' ∧ sub = sub') ∧ ks.drop (k + 1) = ks'.drop (k + 1)) := by
 rw [KidsL.drop_succ k ks h, KidsL.drop_succ k ks' h', h, h']
 constructor
 · intro e
   injection e with e1 e2 e3 e4
   exact ⟨⟨e1, e2, e3⟩, e4⟩
 · rintro ⟨⟨rfl, rfl, rfl⟩, rfl⟩
   rfl
theorem Tryz.vec_cells : Tryz.prog.cellsOf 2 = 1 := by kernel_rfl
theorem i64_eql (d : Nat) (a b : Int) (W : World) : (Op.equalIn (d + 1) 2 (.int .i64 a) (.int .i64 b)).run Tryz.prog W = .ok (a == b) W := by
 simp [Op.equalIn, run_underlying Tryz.underlying2]
theorem part_i64 (xs : Array Value) (k : Nat) (v : Value) (h : xs[k]? = some v) (W : World) : (part 2 xs k).run Tryz.prog W = .ok v W := by
 obtain ⟨i0, hi, hz0, hz1, hz2⟩ := info_parts info_i64
 simp [part, go_sem, h]
theorem items_step (d : Nat) (xs ys : Array Value) (i : Nat) (is : List Nat) (a b : Int) (hx : xs[i]? = some (.int .i64 a)) (hy : ys[i]? = some (.int .i64 b)) (W : World) :
 (Op.eqItems (d + 1) 2 1 xs ys (i :: is)).run Tryz.prog W = if a = b then (Op.eqItems (d + 1) 2 1 xs ys is).run Tryz.prog W else .ok false W := by
 have h1 := part_i64 xs i _ hx
 have h2 := part_i64 ys i _ hy
 rw [Op.eqItems]
 simp only [Sem.run_bind, Nat.mul_one, h1, h2, Result.andThen_ok, i64_eql]
 by_cases h : a = b
 · rw [if_pos h]; subst h; simp
 · rw [if_neg h]
   have : (a == b) = false := by simpa using h
   rw [this]; simp
theorem vec_equal (a0 a1 a2 a3 b0 b1 b2 b3 : Int) (W : World) : (Op.equal 23 (.agg #[.int .i64 a0, .int .i64 a1, .int .i64 a2, .int .i64 a3]) (.agg #[.int .i64 b0, .int .i64 b1, .int .i64 b2, .int .i64 b3])).run Tryz.prog W = .ok ((a0 == b0) && ((a1 == b1) && ((a2 == b2) && (a3 == b3)))) W := by
 obtain ⟨i0, hi, hz0, hz1, hz2⟩ := info_parts info_i64
 unfold Op.equal
 obtain ⟨d, hd⟩ : ∃ d, Op.maxDepth = d + 1 + 1 := ⟨Op.maxDepth - 2, rfl⟩
 rw [hd, run_equalIn_array (d := d + 1) (hu := Tryz.underlying23) (hi := hi), Tryz.vec_cells, show List.range 4 = [0, 1, 2, 3] from rfl]
 rw [items_step d _ _ 0 _ a0 b0 rfl rfl, items_step d _ _ 1 _ a1 b1 rfl rfl, items_step d _ _ 2 _ a2 b2 rfl rfl, items_step d _ _ 3 _ a3 b3 rfl rfl]
 by_cases h0 : a0 = b0 <;> by_cases h1 : a1 = b1 <;> by_cases h2 : a2 = b2 <;> by_cases h3 : a3 = b3 <;> simp [h0, h1, h2, h3, Op.eqItems]
theorem vec_eql (a0 a1 a2 a3 b0 b1 b2 b3 : Int) (W : World) : (binOp .eql 23 (.agg #[.int .i64 a0, .int .i64 a1, .int .i64 a2, .int .i64 a3]) (.agg #[.int .i64 b0, .int .i64 b1, .int .i64 b2, .int .i64 b3])).run Tryz.prog W = .ok (.bool ((a0 == b0) && ((a1 == b1) && ((a2 == b2) && (a3 == b3))))) W := by
 simp [binOp, vec_equal]
theorem vec_same (a0 a1 a2 a3 : Int) (W : World) : (binOp .eql 23 (.agg #[.int .i64 a0, .int .i64 a1, .int .i64 a2, .int .i64 a3]) (.agg #[.int .i64 a0, .int .i64 a1, .int .i64 a2, .int .i64 a3])).run Tryz.prog W = .ok (.bool true) W := by
 rw [vec_eql]; simp
theorem pair10 (w : World) (u0 u1 u2 u3 u4 u5 u6 u7 u8 u9 x0 x1 x2 x3 x4 x5 x6 x7 x8 x9 : Value) (T : TypeId) (W : World) (f : Frm NoS ((w.alloc (.cells #[u0, u1, u2, u3, u4, u5, u6, u7, u8, u9] T)).alloc (.cells #[x0, x1, x2, x3, x4, x5, x6, x7, x8, x9] T)) W) :
 (W.cell? ⟨w.heap.size, 0, none⟩ = some u0 ∧ W.cell? ⟨w.heap.size, 1, none⟩ = some u1 ∧ W.cell? ⟨w.heap.size, 2, none⟩ = some u2 ∧ W.cell? ⟨w.heap.size, 3, none⟩ = some u3 ∧ W.cell? ⟨w.heap.size, 4, none⟩ = some u4 ∧ W.cell? ⟨w.heap.size, 5, none⟩ = some u5 ∧ W.cell? ⟨w.heap.size, 6, none⟩ = some u6 ∧ W.cell? ⟨w.heap.size, 7, none⟩ = some u7 ∧ W.cell? ⟨w.heap.size, 8, none⟩ = some u8 ∧ W.cell? ⟨w.heap.size, 9, none⟩ = some u9) ∧ W.cell? ⟨w.heap.size + 1, 0, none⟩ = some x0 ∧ W.cell? ⟨w.heap.size + 1, 1, none⟩ = some x1 ∧ W.cell? ⟨w.heap.size + 1, 2, none⟩ = some x2 ∧ W.cell? ⟨w.heap.size + 1, 3, none⟩ = some x3 ∧ W.cell? ⟨w.heap.size + 1, 4, none⟩ = some x4 ∧ W.cell? ⟨w.heap.size + 1, 5, none⟩ = some x5 ∧ W.cell? ⟨w.heap.size + 1, 6, none⟩ = some x6 ∧ W.cell? ⟨w.heap.size + 1, 7, none⟩ = some x7 ∧ W.cell? ⟨w.heap.size + 1, 8, none⟩ = some x8 ∧ W.cell? ⟨w.heap.size + 1, 9, none⟩ = some x9 := by
 obtain ⟨h1, _, _⟩ := two_blocks w (.cells #[u0, u1, u2, u3, u4, u5, u6, u7, u8, u9] T) #[x0, x1, x2, x3, x4, x5, x6, x7, x8, x9] T
 exact ⟨box10 w u0 u1 u2 u3 u4 u5 u6 u7 u8 u9 T W ((Frm.alloc NoS _ _).then1 f), f.cell' (cell_at' h1 0 rfl) id, f.cell' (cell_at' h1 1 rfl) id, f.cell' (cell_at' h1 2 rfl) id, f.cell' (cell_at' h1 3 rfl) id, f.cell' (cell_at' h1 4 rfl) id, f.cell' (cell_at' h1 5 rfl) id, f.cell' (cell_at' h1 6 rfl) id, f.cell' (cell_at' h1 7 rfl) id, f.cell' (cell_at' h1 8 rfl) id, f.cell' (cell_at' h1 9 rfl) id⟩
def BunEq (dc af la v0 v1 v2 v3 dc' af' la' v0' v1' v2' v3' : Int) (es : List Ent) (ks : KidsL) (c : CtxL) (es' : List Ent) (ks' : KidsL) (c' : CtxL) : Prop :=
 dc = dc' ∧ af = af' ∧ la = la' ∧ (v0 = v0' ∧ v1 = v1' ∧ v2 = v2' ∧ v3 = v3') ∧ (es = es' ∧ ks = ks') ∧ c = c'
theorem BunRight.cau {dc af la : Int} {f : Int → Int} {es : List Ent} {ks : KidsL} {c : CtxL} (h : BunRight dc af la f es ks c) : CauRight es ks c := ⟨h.tree, h.ctx, h.dots⟩
theorem vec_eq_true {a0 a1 a2 a3 b0 b1 b2 b3 : Int} (h : a0 = b0 ∧ a1 = b1 ∧ a2 = b2 ∧ a3 = b3) (W : World) : (binOp .eql 23 (.agg #[.int .i64 a0, .int .i64 a1, .int .i64 a2, .int .i64 a3]) (.agg #[.int .i64 b0, .int .i64 b1, .int .i64 b2, .int .i64 b3])).run Tryz.prog W = .ok (.bool true) W := by
 rw [vec_eql]; simp [h.1, h.2.1, h.2.2.1, h.2.2.2]
theorem vec_eq_false {a0 a1 a2 a3 b0 b1 b2 b3 : Int} (h : ¬ (a0 = b0 ∧ a1 = b1 ∧ a2 = b2 ∧ a3 = b3)) (W : World) : (binOp .eql 23 (.agg #[.int .i64 a0, .int .i64 a1, .int .i64 a2, .int .i64 a3]) (.agg #[.int .i64 b0, .int .i64 b1, .int .i64 b2, .int .i64 b3])).run Tryz.prog W = .ok (.bool false) W := by
 rw [vec_eql]
 have : ((a0 == b0) && ((a1 == b1) && ((a2 == b2) && (a3 == b3)))) = false := by
  rw [Bool.eq_false_iff]
  intro e
  simp only [Bool.and_eq_true, beq_iff_eq] at e
  exact h e
 rw [this]
end Go.Proofs.YtcahemkomfaabaaGreat
