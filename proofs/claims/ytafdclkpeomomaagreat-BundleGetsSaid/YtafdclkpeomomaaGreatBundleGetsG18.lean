/- Words for the law BundleGets: PackGet5, PackGet6, CSame, Eq, TSame, Same1, Bun0. -/
import Derived.Test.YtafdclkpeomomaaGreatBundleGetsG5
import Derived.Test.YtafdclkpeomomaaGreatBundleGetsG10
import Derived.Test.YtafdclkpeomomaaGreatBundleGetsG15
import Derived.Test.YtafdclkpeomomaaGreatBundleGetsG17
set_option linter.unusedSimpArgs false
set_option linter.unusedVariables false
/- pack: GetTree: the walk. -/
namespace Go.Proofs.YtafdclkpeomomaaGreat
open Go.RowKit

theorem pget_ok {es : List Ent} {ks : KidsL} {bs r : List UInt8} (hg : GetOk bdP 5 bs es ks r) (ib : Nat) (w : World) (h : InSt w ib (some bs)) (hl : bs.length ≤ 60000) :
    Calls Tryz.prog 86 #[.pointer (some ⟨ib, 0, none⟩), .int .i64 5] w fun e w' => ∃ ev kv, e = .returned (.agg #[ev, kv]) ∧ TreeAt (fun b => w.heap.size ≤ b) w' ev kv es ks ∧ InSt w' ib (some r) ∧ Frm (Only ib) w w' := by
  refine Calls.mono (pget_any 5 ib (some bs) w (Nat.le_refl _) h hl) fun e w' ⟨ev, kv, es', ks', s, he, ht, hr, hi, hf⟩ => ?_
  rcases hr with ⟨b2, r2, h1, h2, h3⟩ | ⟨_, h2⟩
  · injection h1 with h1
    subst h1 h2
    have e2 : encT es' ks' ++ r2 = encT es ks ++ r := by rw [← h3.eq, ← hg.eq]
    obtain ⟨⟨rfl, rfl⟩, rfl⟩ := encT_pfx e2
    exact ⟨ev, kv, he, ht, hi, hf⟩
  · exact absurd hg (h2 _ _ _ _ rfl)
theorem pget_no {st : Option (List UInt8)} (hg : ∀ bs es ks r, st = some bs → ¬ GetOk bdP 5 bs es ks r) (ib : Nat) (w : World) (h : InSt w ib st) (hl : (leftOf st).length ≤ 60000) :
    Calls Tryz.prog 86 #[.pointer (some ⟨ib, 0, none⟩), .int .i64 5] w fun e w' => ∃ a n c a2 n2 c2, e = .returned (.agg #[.slice a n c, .slice a2 n2 c2]) ∧ InSt w' ib none ∧ Frm (Only ib) w w' := by
  refine Calls.mono (pget_any 5 ib st w (Nat.le_refl _) h hl) fun e w' ⟨ev, kv, es', ks', s, he, ht, hr, hi, hf⟩ => ?_
  obtain ⟨a0, c0, rfl⟩ := ht.ents.rd.sl
  obtain ⟨os, hk, _⟩ := ht.kids
  obtain ⟨a1, c1, rfl⟩ := hk.rd.sl
  rcases hr with ⟨b2, r2, h1, h2, h3⟩ | ⟨rfl, _⟩
  · exact absurd h3 (hg _ _ _ _ h1)
  · exact ⟨_, _, _, _, _, _, he, hi, hf⟩
theorem TreeRes.tr {st s : Option (List UInt8)} {es : List Ent} {ks : KidsL} (h : TreeRes st es ks s) (hl : (leftOf st).length ≤ 60000) : TrOk es ks := by
  rcases h with ⟨r, rfl, hr, rfl⟩ | ⟨rfl, rfl, rfl, _⟩
  · exact ((right_ok wideP hr).tr bdP_ok (Nat.le_trans hl (by decide))).1
  · exact trOk_nil
def TreePost (st : Option (List UInt8)) (ib : Nat) (w : World) (e : Ending) (w' : World) : Prop :=
  ∃ ev kv es ks s, e = .returned (.agg #[ev, kv]) ∧ TreeAt (fun b => w.heap.size ≤ b) w' ev kv es ks ∧ TreeRes st es ks s ∧ InSt w' ib s ∧ Frm (Only ib) w w'
theorem treeOut {Q : Nat → Prop} {w ww w' : World} {ib : Nat} {s : Option (List UInt8)} {e2 k2 : Value} {es2 : List Ent} {ks2 : KidsL} {st : Option (List UInt8)}
    (hin : InSt ww ib s) (hib : ib < w.heap.size) (hf : Frm (Only ib) w ww) (ht : TreeAt Q ww e2 k2 es2 ks2) (hq : ∀ b, Q b → w.heap.size ≤ b ∧ b ≠ w.heap.size) (hts : Frm (fun b => b = w.heap.size) ww w') (hres : TreeRes st es2 ks2 s) :
    TreePost st ib w (.returned (.agg #[e2, k2])) w' :=
  ⟨e2, k2, es2, ks2, s, rfl, ht.turn fun b hb hQ => ⟨hts.block b hb (hq b hQ).2, (hq b hQ).1⟩, hres, hin.keep hts fun j hj hs => by have hs : j = w.heap.size := hs; omega, hf.trans hts fun i hi hs => by have hs : i = w.heap.size := hs; omega⟩
set_option maxHeartbeats 2000000 in
set_option maxRecDepth 1000000 in
theorem pGetTree_any (ib : Nat) (st : Option (List UInt8)) (w : World) (h : InSt w ib st) (hl : (leftOf st).length ≤ 60000) :
    Calls Tryz.prog 38 #[.pointer (some ⟨ib, 0, none⟩)] w (TreePost st ib w) := by
  have hib := h.lt
  have hno : ¬ Only ib w.heap.size := fun h => by have h : w.heap.size = ib := h; omega
  have HNO := Lib.hid hno; clear hno
  have HB0 := Lib.hid (heap_alloc_new w (.cells #[.slice none 0 0, .slice none 0 0] 25))
  have HI0 := Lib.hid (h.keep (Frm.alloc NoS w (.cells #[.slice none 0 0, .slice none 0 0] 25)) fun _ _ => id)
  have HIB := Lib.hid hib; clear hib
  have HF0 := Lib.hid ((Frm.alloc NoS w (.cells #[.slice none 0 0, .slice none 0 0] 25)).mono (T := Only ib) fun _ _ h => h.elim)
  have HS0 := Lib.hid (show (w.alloc (.cells #[.slice none 0 0, .slice none 0 0] 25)).heap.size = w.heap.size + 1 by simp)
  clear h
  by_cases hg : ∃ bs es ks r, st = some bs ∧ GetOk bdP 5 bs es ks r
  · obtain ⟨bs, es, ks, r, rfl, hg⟩ := hg
    have HG := Lib.hid (pget_ok hg ib _ HI0.out hl)
    have hok := (hg.tr bdP_ok (Nat.le_trans hl (by decide))).1
    have HRT := Lib.hid (fun W Q ev kv (h : TreeAt Q W ev kv es ks) => tRight_any Q es ks W ev kv h hok)
    clear hok
    cases hr : rightT 5 es ks with
    | true =>
      rw [hr] at HRT
      have HPOST := Lib.hid (tree_good (B := bdP) (st := some bs) (rest := r) (.inl ⟨bs, r, rfl, rfl, hg⟩) hr)
      clear hr hg
      go_enter Tryz.func38, Tryz.ntmps38
      go_wp2_with (first
        | (go_at_call 86; refine HG.out.mono ?_; rintro e w1 ⟨ev, kv, rfl, hta, hi1, hf1⟩; obtain ⟨a3, c3, rfl⟩ := hta.ents.rd.sl; obtain ⟨os3, hkr3, -⟩ := hta.kids; obtain ⟨a4, c4, rfl⟩ := hkr3.rd.sl; clear hkr3
           have HB1 := Lib.hid (hf1.blk HB0.out HNO.out)
           have HTA := Lib.hid hta; clear hta
           generalize es.length = n at *
           generalize ks.len = m at *
           have HI1 := Lib.hid hi1; clear hi1
           have HF1 := Lib.hid (HF0.out.trans hf1 fun _ _ h => h)
           have hsz1 := hf1.size
           have HSZ1 := Lib.hid hsz1; clear hsz1 hf1
           have HA1 := Lib.hid (Frm.alloc NoS w1 (.cells #[.slice a3 n c3, .slice a4 m c4] 25))
           have HX1 := Lib.hid (heap_alloc_new w1 (.cells #[.slice a3 n c3, .slice a4 m c4] 25)))
        | (go_at_call 25; refine (bad_go ib _ _ (HI1.out.keep HA1.out fun _ _ => id)).mono ?_; rintro e w2 ⟨rfl, rfl⟩)
        | (go_at_call 87; refine (HRT.out _ _ _ _ (HTA.out.keep0 HA1.out)).mono ?_; rintro e w3 ⟨rfl, hf3⟩
           have hx3 := hf3.blk HX1.out id
           have z0 := cell_at' hx3 0 rfl
           have z1 := cell_at' hx3 1 rfl
           have hb3 := hf3.blk (HA1.out.blk HB1.out id) id
           have y0 := cell_at' hb3 0 rfl
           have y1 := cell_at' hb3 1 rfl
           have f0 := free_at' hb3 0
           have f1 := free_at' hb3 1
           have hl2 := lt_of_block hb3
           have hl3 := lt_of_block hx3
           have HB3 := Lib.hid hb3
           have HF3 := Lib.hid (HA1.out.then1 hf3)
           clear hf3 hx3 hb3))
      clear y0 y1 z0 z1
      have y0 := cell_at' (set_at' (set_at' HB3.out 0 (.slice a3 n c3)) 1 (.slice a4 m c4)) 0 rfl
      have y1 := cell_at' (set_at' (set_at' HB3.out 0 (.slice a3 n c3)) 1 (.slice a4 m c4)) 1 rfl
      have hts : Frm (Only w.heap.size) w3 ((w3.setCell ⟨w.heap.size, 0, none⟩ (.slice a3 n c3)).setCell ⟨w.heap.size, 1, none⟩ (.slice a4 m c4)) := two_set _ _ _ _
      exact bodyPost_ret (v := .agg #[.slice a3 n c3, .slice a4 m c4]) (by simp [results, Tryz.results38, go_sem, y0, y1]) rfl (treeOut (HI1.out.keep HF3.out fun _ _ => id) HIB.out (HF1.out.trans HF3.out fun _ _ h => h.elim) (HTA.out.keep0 HF3.out) (fun b h => by have := HS0.out; have h : (w.alloc (.cells #[.slice none 0 0, .slice none 0 0] 25)).heap.size ≤ b := h; omega) hts HPOST.out)
    | false =>
      rw [hr] at HRT
      have HPOST := Lib.hid (tree_wrong (B := bdP) (st := some bs) (rest := r) (.inl ⟨bs, r, rfl, rfl, hg⟩) hr)
      clear hr hg
      go_enter Tryz.func38, Tryz.ntmps38
      go_wp2_with (first
        | (go_at_call 86; refine HG.out.mono ?_; rintro e w1 ⟨ev, kv, rfl, hta, hi1, hf1⟩; obtain ⟨a3, c3, rfl⟩ := hta.ents.rd.sl; obtain ⟨os3, hkr3, -⟩ := hta.kids; obtain ⟨a4, c4, rfl⟩ := hkr3.rd.sl; clear hkr3
           have HB1 := Lib.hid (hf1.blk HB0.out HNO.out)
           have HTA := Lib.hid hta; clear hta
           generalize es.length = n at *
           generalize ks.len = m at *
           have HI1 := Lib.hid hi1; clear hi1
           have HF1 := Lib.hid (HF0.out.trans hf1 fun _ _ h => h)
           clear hf1
           have HA1 := Lib.hid (Frm.alloc NoS w1 (.cells #[.slice a3 n c3, .slice a4 m c4] 25)))
        | (go_at_call 25; refine (bad_go ib _ _ (HI1.out.keep HA1.out fun _ _ => id)).mono ?_; rintro e w2 ⟨rfl, rfl⟩)
        | (go_at_call 87; refine (HRT.out _ _ _ _ (HTA.out.keep0 HA1.out)).mono ?_; rintro e w3 ⟨rfl, hf3⟩; have HF3 := Lib.hid (HA1.out.then1 hf3); clear hf3)
        | (go_at_call 67; obtain ⟨a, c, hh⟩ := (HI1.out.keep HF3.out fun _ _ => id).heap; refine (fail_go ib _ _ w3 hh).mono ?_; rintro e w4 ⟨rfl, hi4, hf4⟩
           have HI4 := Lib.hid (show InSt w4 ib none from hi4); clear hi4 hh
           have hb3 := hf4.blk (HF3.out.blk HB1.out id) HNO.out
           have y0 := cell_at' hb3 0 rfl
           have y1 := cell_at' hb3 1 rfl
           have f0 := free_at' hb3 0
           have f1 := free_at' hb3 1
           have hl2 := lt_of_block hb3
           have HB3 := Lib.hid hb3
           have HF4 := Lib.hid ((HF1.out.trans HF3.out fun _ _ h => h.elim).trans hf4 fun _ _ h => h)
           clear hf4 hb3))
      clear y0 y1
      have y0 := cell_at' (set_at' (set_at' HB3.out 0 (.slice none 0 0)) 1 (.slice none 0 0)) 0 rfl
      have y1 := cell_at' (set_at' (set_at' HB3.out 0 (.slice none 0 0)) 1 (.slice none 0 0)) 1 rfl
      have hts : Frm (Only w.heap.size) w4 ((w4.setCell ⟨w.heap.size, 0, none⟩ (.slice none 0 0)).setCell ⟨w.heap.size, 1, none⟩ (.slice none 0 0)) := two_set _ _ _ _
      exact bodyPost_ret (v := .agg #[.slice none 0 0, .slice none 0 0]) (by simp [results, Tryz.results38, go_sem, y0, y1]) rfl (treeOut HI4.out HIB.out HF4.out (tree_nilQ (fun b => w.heap.size ≤ b ∧ b ≠ w.heap.size) w4) (fun b h => h) hts HPOST.out)
  · have hg' : ∀ bs es ks r, st = some bs → ¬ GetOk bdP 5 bs es ks r := fun bs es ks r h1 h2 => hg ⟨bs, es, ks, r, h1, h2⟩
    have HG := Lib.hid (pget_no hg' ib _ HI0.out hl)
    have HPOST := Lib.hid (tree_bad (B := bdP) (es := []) (ks := .nil) wideP (.inr ⟨rfl, hg'⟩ : GetRes bdP 5 st [] .nil none))
    clear hg hg'
    go_enter Tryz.func38, Tryz.ntmps38
    go_wp2_with (first
      | (go_at_call 86; refine HG.out.mono ?_; rintro e w1 ⟨a3, n, c3, a4, m, c4, rfl, hi1, hf1⟩
         have HB1 := Lib.hid (hf1.blk HB0.out HNO.out)
         have HI1 := Lib.hid hi1; clear hi1
         have HF1 := Lib.hid (HF0.out.trans hf1 fun _ _ h => h)
         clear hf1
         have HA1 := Lib.hid (Frm.alloc NoS w1 (.cells #[.slice a3 n c3, .slice a4 m c4] 25)))
      | (go_at_call 25; refine (bad_go ib _ _ (HI1.out.keep HA1.out fun _ _ => id)).mono ?_; rintro e w2 ⟨rfl, rfl⟩)
      | (go_at_call 67; obtain ⟨a, c, hh⟩ := (HI1.out.keep HA1.out fun _ _ => id).heap; refine (fail_go ib _ _ _ hh).mono ?_; rintro e w4 ⟨rfl, hi4, hf4⟩
         have HI4 := Lib.hid (show InSt w4 ib none from hi4); clear hi4 hh
         have hb3 := hf4.blk (HA1.out.blk HB1.out id) HNO.out
         have y0 := cell_at' hb3 0 rfl
         have y1 := cell_at' hb3 1 rfl
         have f0 := free_at' hb3 0
         have f1 := free_at' hb3 1
         have hl2 := lt_of_block hb3
         have HB3 := Lib.hid hb3
         have HF4 := Lib.hid ((HF1.out.trans HA1.out fun _ _ h => h.elim).trans hf4 fun _ _ h => h)
         clear hf4 hb3))
    clear y0 y1
    have y0 := cell_at' (set_at' (set_at' HB3.out 0 (.slice none 0 0)) 1 (.slice none 0 0)) 0 rfl
    have y1 := cell_at' (set_at' (set_at' HB3.out 0 (.slice none 0 0)) 1 (.slice none 0 0)) 1 rfl
    have hts : Frm (Only w.heap.size) w4 ((w4.setCell ⟨w.heap.size, 0, none⟩ (.slice none 0 0)).setCell ⟨w.heap.size, 1, none⟩ (.slice none 0 0)) := two_set _ _ _ _
    exact bodyPost_ret (v := .agg #[.slice none 0 0, .slice none 0 0]) (by simp [results, Tryz.results38, go_sem, y0, y1]) rfl (treeOut HI4.out HIB.out HF4.out (tree_nilQ (fun b => w.heap.size ≤ b ∧ b ≠ w.heap.size) w4) (fun b h => h) hts HPOST.out)
end Go.Proofs.YtafdclkpeomomaaGreat

/- pack: GetCausal, Read: the walks. -/
namespace Go.Proofs.YtafdclkpeomomaaGreat
open Go.RowKit

theorem TreeRes.total (st : Option (List UInt8)) : ∃ es ks s, TreeRes st es ks s := by
  by_cases h : ∃ es ks rest, st = some (encT es ks ++ rest) ∧ rightT 5 es ks = true
  · obtain ⟨es, ks, rest, h1, h2⟩ := h
    exact ⟨es, ks, some rest, .inl ⟨rest, h1, h2, rfl⟩⟩
  · exact ⟨[], .nil, none, .inr ⟨rfl, rfl, rfl, fun es ks rest h1 => by
      cases h2 : rightT 5 es ks with
      | false => rfl
      | true => exact absurd ⟨es, ks, rest, h1, h2⟩ h⟩⟩
theorem CtxRes.total (st : Option (List UInt8)) : ∃ c s, CtxRes st c s := by
  by_cases h : ∃ c rest, st = some (encC c ++ rest) ∧ RightC c
  · obtain ⟨c, rest, h1, h2⟩ := h
    exact ⟨c, some rest, .inl ⟨rest, h1, h2, rfl⟩⟩
  · exact ⟨[], none, .inr ⟨rfl, rfl, fun c rest h1 h2 => h ⟨c, rest, h1, h2⟩⟩⟩
theorem CauRes.total (st : Option (List UInt8)) : ∃ es ks c s, CauRes st es ks c s := by
  by_cases h : ∃ es ks c rest, st = some (encX es ks c ++ rest) ∧ CauRight es ks c
  · obtain ⟨es, ks, c, rest, h1, h2⟩ := h
    exact ⟨es, ks, c, some rest, .inl ⟨rest, h1, h2, rfl⟩⟩
  · exact ⟨[], .nil, [], none, .inr ⟨rfl, rfl, rfl, rfl, fun es ks c rest h1 h2 => h ⟨es, ks, c, rest, h1, h2⟩⟩⟩
theorem tree_at {st s : Option (List UInt8)} {es : List Ent} {ks : KidsL} (hr : TreeRes st es ks s) (ib : Nat) (w : World) (h : InSt w ib st) (hl : (leftOf st).length ≤ 60000) :
    Calls Tryz.prog 38 #[.pointer (some ⟨ib, 0, none⟩)] w fun e w' => ∃ ev kv, e = .returned (.agg #[ev, kv]) ∧ TreeAt (fun b => w.heap.size ≤ b) w' ev kv es ks ∧ InSt w' ib s ∧ Frm (Only ib) w w' :=
  (pGetTree_any ib st w h hl).mono fun e w' ⟨ev, kv, es', ks', s', he, ht, hr', hi, hf⟩ => by
    obtain ⟨⟨rfl, rfl⟩, rfl⟩ := hr.det hr'
    exact ⟨ev, kv, he, ht, hi, hf⟩
theorem ctx_at {st s : Option (List UInt8)} {c : CtxL} (hr : CtxRes st c s) (ib : Nat) (w : World) (h : InSt w ib st) (hl : (leftOf st).length ≤ 60000) :
    Calls Tryz.prog 36 #[.pointer (some ⟨ib, 0, none⟩)] w fun e w' => ∃ cv, e = .returned cv ∧ RdQ (fun b => w.heap.size ≤ b) w' cv c.length (spC c) ∧ InSt w' ib s ∧ Frm (Only ib) w w' :=
  (pGetCtx_any ib st w h hl).mono fun e w' ⟨cv, c', s', he, ht, hr', _, _, hi, hf⟩ => by
    obtain ⟨rfl, rfl⟩ := hr.det hr'
    exact ⟨cv, he, ht, hi, hf⟩
theorem CtxRes.fits {st s : Option (List UInt8)} {c : CtxL} (h : CtxRes st c s) : FitsC c := by
  rcases h with ⟨r, rfl, hr, rfl⟩ | ⟨rfl, rfl, _⟩
  · exact hr.fits
  · exact fun s hs => by cases hs
theorem both_ok {st s1 s2 : Option (List UInt8)} {es : List Ent} {ks : KidsL} {c : CtxL} (h1 : TreeRes st es ks s1) (h2 : CtxRes s1 c s2) (hl : (leftOf st).length ≤ 6000) : CauOk es ks c := by
  have g1 := h1.sizes
  have g2 := h2.sizes
  exact ⟨h1.tr (by omega), by omega, h2.fits, by omega⟩
theorem CauRes.ok {st s : Option (List UInt8)} {es : List Ent} {ks : KidsL} {c : CtxL} (h : CauRes st es ks c s) (hl : (leftOf st).length ≤ 6000) : CauOk es ks c := by
  rcases h with ⟨r, rfl, hr, rfl⟩ | ⟨rfl, rfl, rfl, rfl, _⟩
  · refine both_ok (st := some (encX es ks c ++ r)) (s1 := some (encC c ++ r)) (s2 := some r) (.inl ⟨encC c ++ r, ?_, hr.tree, rfl⟩) (.inl ⟨r, rfl, hr.ctx, rfl⟩) hl
    unfold encX
    rw [List.append_assoc]
  · exact ⟨trOk_nil, Nat.zero_le _, (fun s hs => by cases hs), Nat.zero_le _⟩
theorem rdq_nil (Q : Nat → Prop) (w : World) : RdQ Q w (.slice none 0 0) 0 [] := ⟨.inl ⟨none, rfl, rfl, rfl⟩, fun h => absurd rfl h⟩
/-- A context, in blocks with Q. -/
def CtxQ (Q : Nat → Prop) (w : World) (v : Value) (c : CtxL) : Prop := RdQ Q w v c.length (spC c)
theorem CtxQ.keep0 {Q : Nat → Prop} {w w' : World} {v : Value} {c : CtxL} (h : CtxQ Q w v c) (f : Frm NoS w w') : CtxQ Q w' v c := RdQ.keep h f fun _ _ h => h.elim
theorem CtxQ.at_ {Q : Nat → Prop} {w : World} {v : Value} {c : CtxL} (h : CtxQ Q w v c) : CtxAt w v c := RdQ.rd h
/-- What taking what is known answers. -/
def CauTk (es : List Ent) (ks : KidsL) (c : CtxL) (s : Option (List UInt8)) (ib : Nat) (w : World) (e : Ending) (w' : World) : Prop :=
  ∃ ev kv cv, e = .returned (.agg #[ev, kv, cv]) ∧ TreeAt (fun b => w.heap.size ≤ b) w' ev kv es ks ∧ CtxQ (fun b => w.heap.size ≤ b) w' cv c ∧ InSt w' ib s ∧ Frm (Only ib) w w'
theorem cauOut {Q : Nat → Prop} {w ww w' : World} {ib : Nat} {s : Option (List UInt8)} {e2 k2 c2 : Value} {es2 : List Ent} {ks2 : KidsL} {c : CtxL}
    (hin : InSt ww ib s) (hib : ib < w.heap.size) (hf : Frm (Only ib) w ww) (ht : TreeAt Q ww e2 k2 es2 ks2) (hc : CtxQ Q ww c2 c) (hq : ∀ b, Q b → w.heap.size ≤ b ∧ b ≠ w.heap.size) (hts : Frm (fun b => b = w.heap.size) ww w') :
    CauTk es2 ks2 c s ib w (.returned (.agg #[e2, k2, c2])) w' :=
  ⟨e2, k2, c2, rfl, ht.turn fun b hb hQ => ⟨hts.block b hb (hq b hQ).2, (hq b hQ).1⟩, (RdQ.turn hc (Q' := fun b => w.heap.size ≤ b) fun b hb hQ => ⟨hts.block b hb (hq b hQ).2, (hq b hQ).1⟩), hin.keep hts fun j hj hs => by have hs : j = w.heap.size := hs; omega, hf.trans hts fun i hi hs => by have hs : i = w.heap.size := hs; omega⟩
theorem three_set (w : World) (b : Nat) (u u' u2 : Value) : Frm (Only b) w (((w.setCell ⟨b, 0, none⟩ u).setCell ⟨b, 1, none⟩ u').setCell ⟨b, 2, none⟩ u2) := ((only_set w b 0 u).trans (only_set _ b 1 u') fun _ _ h => h).trans (only_set _ b 2 u2) fun _ _ h => h
set_option maxHeartbeats 2000000 in
set_option maxRecDepth 1000000 in
theorem pGetCausal_at (ib : Nat) (st s : Option (List UInt8)) (es : List Ent) (ks : KidsL) (c : CtxL) (w : World) (hc : CauRes st es ks c s) (h : InSt w ib st) (hl : (leftOf st).length ≤ 6000) :
    Calls Tryz.prog 39 #[.pointer (some ⟨ib, 0, none⟩)] w (CauTk es ks c s ib w) := by
  have hib := h.lt
  have hno : ¬ Only ib w.heap.size := fun h => by have h : w.heap.size = ib := h; omega
  have HNO := Lib.hid hno; clear hno
  have HB0 := Lib.hid (heap_alloc_new w (.cells #[.slice none 0 0, .slice none 0 0, .slice none 0 0] 29))
  have HI0 := Lib.hid (h.keep (Frm.alloc NoS w (.cells #[.slice none 0 0, .slice none 0 0, .slice none 0 0] 29)) fun _ _ => id)
  have HIB := Lib.hid hib; clear hib
  have HF0 := Lib.hid ((Frm.alloc NoS w (.cells #[.slice none 0 0, .slice none 0 0, .slice none 0 0] 29)).mono (T := Only ib) fun _ _ h => h.elim)
  have HS0 := Lib.hid (show (w.alloc (.cells #[.slice none 0 0, .slice none 0 0, .slice none 0 0] 29)).heap.size = w.heap.size + 1 by simp)
  clear h
  obtain ⟨es1, ks1, s1, ht1⟩ := TreeRes.total st
  obtain ⟨c1, s2, hc1⟩ := CtxRes.total s1
  have hok := both_ok ht1 hc1 hl
  have hl1 := ht1.sizes
  have HG := Lib.hid (tree_at ht1 ib _ HI0.out (by omega))
  have HC := Lib.hid (fun W (h : InSt W ib s1) => ctx_at hc1 ib W h (by omega))
  have HRT := Lib.hid (fun W Q ev kv cv (h : CauAt Q W ev kv cv es1 ks1 c1) => caRight_any Q es1 ks1 c1 W ev kv cv h hok)
  clear hok hl1
  cases s2 with
  | some r =>
    by_cases hr : CauRight es1 ks1 c1
    · rw [tf_true hr] at HRT
      obtain ⟨⟨⟨rfl, rfl⟩, rfl⟩, rfl⟩ := hc.det (cau_good ht1 hc1 hr)
      clear hc hr ht1 hc1
      go_enter Tryz.func39, Tryz.ntmps39
      go_wp2_with (first
        | (go_at_call 38; refine HG.out.mono ?_; rintro e w1 ⟨ev, kv, rfl, hta, hi1, hf1⟩; obtain ⟨a3, c3, rfl⟩ := hta.ents.rd.sl; obtain ⟨os3, hkr3, -⟩ := hta.kids; obtain ⟨a4, c4, rfl⟩ := hkr3.rd.sl; clear hkr3
           have HB1 := Lib.hid (hf1.blk HB0.out HNO.out)
           have HTA := Lib.hid hta; clear hta
           have HI1 := Lib.hid hi1; clear hi1
           have HF1 := Lib.hid hf1; clear hf1)
        | (go_at_call 36; refine (HC.out _ HI1.out).mono ?_; rintro e w2 ⟨cv, rfl, hrc, hi2, hf2⟩; obtain ⟨a5, c5, rfl⟩ := hrc.rd.sl
           have HB2 := Lib.hid (hf2.blk HB1.out HNO.out)
           have HTA2 := Lib.hid (HTA.out.turn (Q' := fun b => (w.alloc (.cells #[.slice none 0 0, .slice none 0 0, .slice none 0 0] 29)).heap.size ≤ b) fun b hb hQ => ⟨hf2.block b hb fun hs => by have hs : b = ib := hs; have := HIB.out; have := HS0.out; omega, hQ⟩)
           have HRC := Lib.hid (show CtxQ (fun b => (w.alloc (.cells #[.slice none 0 0, .slice none 0 0, .slice none 0 0] 29)).heap.size ≤ b) w2 (.slice a5 c.length c5) c from hrc.turn fun b hb hQ => ⟨rfl, Nat.le_trans HF1.out.size hQ⟩); clear hrc
           have HI2 := Lib.hid hi2; clear hi2
           have HF2 := Lib.hid ((HF0.out.trans HF1.out fun _ _ h => h).trans hf2 fun _ _ h => h)
           clear hf2
           generalize es.length = n at *
           generalize ks.len = m at *
           generalize c.length = k at *
           have HA2 := Lib.hid (Frm.alloc NoS w2 (.cells #[.slice a3 n c3, .slice a4 m c4, .slice a5 k c5] 29))
           have HX2 := Lib.hid (heap_alloc_new w2 (.cells #[.slice a3 n c3, .slice a4 m c4, .slice a5 k c5] 29)))
        | (go_at_call 25; refine (bad_go ib _ _ (HI2.out.keep HA2.out fun _ _ => id)).mono ?_; rintro e w9 ⟨rfl, rfl⟩)
        | (go_at_call 52; refine (HRT.out _ _ _ _ _ ⟨HTA2.out.keep0 HA2.out, (HRC.out.keep0 HA2.out).at_⟩).mono ?_; rintro e w3 ⟨rfl, hf3⟩
           have hx3 := hf3.blk HX2.out id
           have z0 := cell_at' hx3 0 rfl
           have z1 := cell_at' hx3 1 rfl
           have z2 := cell_at' hx3 2 rfl
           have hb3 := hf3.blk (HA2.out.blk HB2.out id) id
           have y0 := cell_at' hb3 0 rfl
           have y1 := cell_at' hb3 1 rfl
           have y2 := cell_at' hb3 2 rfl
           have f0 := free_at' hb3 0
           have f1 := free_at' hb3 1
           have f2 := free_at' hb3 2
           have hl2 := lt_of_block hb3
           have hl3 := lt_of_block hx3
           have HB3 := Lib.hid hb3
           have HF3 := Lib.hid (HA2.out.then1 hf3)
           clear hf3 hx3 hb3))
      clear y0 y1 y2 z0 z1 z2
      have y0 := cell_at' (set_at' (set_at' (set_at' HB3.out 0 (.slice a3 n c3)) 1 (.slice a4 m c4)) 2 (.slice a5 k c5)) 0 rfl
      have y1 := cell_at' (set_at' (set_at' (set_at' HB3.out 0 (.slice a3 n c3)) 1 (.slice a4 m c4)) 2 (.slice a5 k c5)) 1 rfl
      have y2 := cell_at' (set_at' (set_at' (set_at' HB3.out 0 (.slice a3 n c3)) 1 (.slice a4 m c4)) 2 (.slice a5 k c5)) 2 rfl
      have hts := three_set w3 w.heap.size (.slice a3 n c3) (.slice a4 m c4) (.slice a5 k c5)
      exact bodyPost_ret (v := .agg #[.slice a3 n c3, .slice a4 m c4, .slice a5 k c5]) (by simp [results, Tryz.results39, go_sem, y0, y1, y2]) rfl (cauOut (HI2.out.keep HF3.out fun _ _ => id) HIB.out (HF2.out.trans HF3.out fun _ _ h => h.elim) (HTA2.out.keep0 HF3.out) (HRC.out.keep0 HF3.out) (fun b h => by have := HS0.out; have h : (w.alloc (.cells #[.slice none 0 0, .slice none 0 0, .slice none 0 0] 29)).heap.size ≤ b := h; omega) hts)
    · rw [tf_false hr] at HRT
      obtain ⟨⟨⟨rfl, rfl⟩, rfl⟩, rfl⟩ := hc.det (cau_bad ht1 hc1 (.inr hr))
      clear hc hr ht1 hc1
      go_enter Tryz.func39, Tryz.ntmps39
      go_wp2_with (first
        | (go_at_call 38; refine HG.out.mono ?_; rintro e w1 ⟨ev, kv, rfl, hta, hi1, hf1⟩; obtain ⟨a3, c3, rfl⟩ := hta.ents.rd.sl; obtain ⟨os3, hkr3, -⟩ := hta.kids; obtain ⟨a4, c4, rfl⟩ := hkr3.rd.sl; clear hkr3
           have HB1 := Lib.hid (hf1.blk HB0.out HNO.out)
           have HTA := Lib.hid hta; clear hta
           have HI1 := Lib.hid hi1; clear hi1
           have HF1 := Lib.hid hf1; clear hf1)
        | (go_at_call 36; refine (HC.out _ HI1.out).mono ?_; rintro e w2 ⟨cv, rfl, hrc, hi2, hf2⟩; obtain ⟨a5, c5, rfl⟩ := hrc.rd.sl
           have HB2 := Lib.hid (hf2.blk HB1.out HNO.out)
           have HTA2 := Lib.hid (HTA.out.turn (Q' := fun b => (w.alloc (.cells #[.slice none 0 0, .slice none 0 0, .slice none 0 0] 29)).heap.size ≤ b) fun b hb hQ => ⟨hf2.block b hb fun hs => by have hs : b = ib := hs; have := HIB.out; have := HS0.out; omega, hQ⟩)
           have HRC := Lib.hid (show CtxQ (fun b => (w.alloc (.cells #[.slice none 0 0, .slice none 0 0, .slice none 0 0] 29)).heap.size ≤ b) w2 (.slice a5 c1.length c5) c1 from hrc.turn fun b hb hQ => ⟨rfl, Nat.le_trans HF1.out.size hQ⟩); clear hrc
           have HI2 := Lib.hid hi2; clear hi2
           have HF2 := Lib.hid ((HF0.out.trans HF1.out fun _ _ h => h).trans hf2 fun _ _ h => h)
           clear hf2
           generalize es1.length = n at *
           generalize ks1.len = m at *
           generalize c1.length = k at *
           have HA2 := Lib.hid (Frm.alloc NoS w2 (.cells #[.slice a3 n c3, .slice a4 m c4, .slice a5 k c5] 29)))
        | (go_at_call 25; refine (bad_go ib _ _ (HI2.out.keep HA2.out fun _ _ => id)).mono ?_; rintro e w9 ⟨rfl, rfl⟩)
        | (go_at_call 52; refine (HRT.out _ _ _ _ _ ⟨HTA2.out.keep0 HA2.out, (HRC.out.keep0 HA2.out).at_⟩).mono ?_; rintro e w3 ⟨rfl, hf3⟩; have HF3 := Lib.hid (HA2.out.then1 hf3); clear hf3)
        | (go_at_call 67; obtain ⟨a, c, hh⟩ := (HI2.out.keep HF3.out fun _ _ => id).heap; refine (fail_go ib _ _ w3 hh).mono ?_; rintro e w4 ⟨rfl, hi4, hf4⟩
           have HI4 := Lib.hid (show InSt w4 ib none from hi4); clear hi4 hh
           have hb3 := hf4.blk (HF3.out.blk HB2.out id) HNO.out
           have y0 := cell_at' hb3 0 rfl
           have y1 := cell_at' hb3 1 rfl
           have y2 := cell_at' hb3 2 rfl
           have f0 := free_at' hb3 0
           have f1 := free_at' hb3 1
           have f2 := free_at' hb3 2
           have hl2 := lt_of_block hb3
           have HB3 := Lib.hid hb3
           have HF4 := Lib.hid ((HF2.out.trans HF3.out fun _ _ h => h.elim).trans hf4 fun _ _ h => h)
           clear hf4 hb3))
      clear y0 y1 y2
      have y0 := cell_at' (set_at' (set_at' (set_at' HB3.out 0 (.slice none 0 0)) 1 (.slice none 0 0)) 2 (.slice none 0 0)) 0 rfl
      have y1 := cell_at' (set_at' (set_at' (set_at' HB3.out 0 (.slice none 0 0)) 1 (.slice none 0 0)) 2 (.slice none 0 0)) 1 rfl
      have y2 := cell_at' (set_at' (set_at' (set_at' HB3.out 0 (.slice none 0 0)) 1 (.slice none 0 0)) 2 (.slice none 0 0)) 2 rfl
      have hts := three_set w4 w.heap.size (.slice none 0 0) (.slice none 0 0) (.slice none 0 0)
      exact bodyPost_ret (v := .agg #[.slice none 0 0, .slice none 0 0, .slice none 0 0]) (by simp [results, Tryz.results39, go_sem, y0, y1, y2]) rfl (cauOut (c := []) HI4.out HIB.out HF4.out (tree_nilQ (fun b => w.heap.size ≤ b ∧ b ≠ w.heap.size) w4) (rdq_nil _ _) (fun b h => h) hts)
  | none =>
    obtain ⟨⟨⟨rfl, rfl⟩, rfl⟩, rfl⟩ := hc.det (cau_bad ht1 hc1 (.inl rfl))
    clear hc ht1 hc1 HRT
    go_enter Tryz.func39, Tryz.ntmps39
    go_wp2_with (first
      | (go_at_call 38; refine HG.out.mono ?_; rintro e w1 ⟨ev, kv, rfl, hta, hi1, hf1⟩; obtain ⟨a3, c3, rfl⟩ := hta.ents.rd.sl; obtain ⟨os3, hkr3, -⟩ := hta.kids; obtain ⟨a4, c4, rfl⟩ := hkr3.rd.sl; clear hkr3 hta
         have HB1 := Lib.hid (hf1.blk HB0.out HNO.out)
         have HI1 := Lib.hid hi1; clear hi1
         have HF1 := Lib.hid hf1; clear hf1)
      | (go_at_call 36; refine (HC.out _ HI1.out).mono ?_; rintro e w2 ⟨cv, rfl, hrc, hi2, hf2⟩; obtain ⟨a5, c5, rfl⟩ := hrc.rd.sl; clear hrc
         have HB2 := Lib.hid (hf2.blk HB1.out HNO.out)
         have HI2 := Lib.hid hi2; clear hi2
         have HF2 := Lib.hid ((HF0.out.trans HF1.out fun _ _ h => h).trans hf2 fun _ _ h => h)
         clear hf2
         generalize es1.length = n at *
         generalize ks1.len = m at *
         generalize c1.length = k at *
         have HA2 := Lib.hid (Frm.alloc NoS w2 (.cells #[.slice a3 n c3, .slice a4 m c4, .slice a5 k c5] 29)))
      | (go_at_call 25; refine (bad_go ib _ _ (HI2.out.keep HA2.out fun _ _ => id)).mono ?_; rintro e w9 ⟨rfl, rfl⟩)
      | (go_at_call 67; obtain ⟨a, c, hh⟩ := (HI2.out.keep HA2.out fun _ _ => id).heap; refine (fail_go ib _ _ _ hh).mono ?_; rintro e w4 ⟨rfl, hi4, hf4⟩
         have HI4 := Lib.hid (show InSt w4 ib none from hi4); clear hi4 hh
         have hb3 := hf4.blk (HA2.out.blk HB2.out id) HNO.out
         have y0 := cell_at' hb3 0 rfl
         have y1 := cell_at' hb3 1 rfl
         have y2 := cell_at' hb3 2 rfl
         have f0 := free_at' hb3 0
         have f1 := free_at' hb3 1
         have f2 := free_at' hb3 2
         have hl2 := lt_of_block hb3
         have HB3 := Lib.hid hb3
         have HF4 := Lib.hid ((HF2.out.trans HA2.out fun _ _ h => h.elim).trans hf4 fun _ _ h => h)
         clear hf4 hb3))
    clear y0 y1 y2
    have y0 := cell_at' (set_at' (set_at' (set_at' HB3.out 0 (.slice none 0 0)) 1 (.slice none 0 0)) 2 (.slice none 0 0)) 0 rfl
    have y1 := cell_at' (set_at' (set_at' (set_at' HB3.out 0 (.slice none 0 0)) 1 (.slice none 0 0)) 2 (.slice none 0 0)) 1 rfl
    have y2 := cell_at' (set_at' (set_at' (set_at' HB3.out 0 (.slice none 0 0)) 1 (.slice none 0 0)) 2 (.slice none 0 0)) 2 rfl
    have hts := three_set w4 w.heap.size (.slice none 0 0) (.slice none 0 0) (.slice none 0 0)
    exact bodyPost_ret (v := .agg #[.slice none 0 0, .slice none 0 0, .slice none 0 0]) (by simp [results, Tryz.results39, go_sem, y0, y1, y2]) rfl (cauOut (c := []) HI4.out HIB.out HF4.out (tree_nilQ (fun b => w.heap.size ≤ b ∧ b ≠ w.heap.size) w4) (rdq_nil _ _) (fun b h => h) hts)
end Go.Proofs.YtafdclkpeomomaaGreat

/- tributaryref07: Same: the walk. -/
namespace Go.Proofs.YtafdclkpeomomaaGreat
open Go.RowKit

/-- The first k spans are alike. -/
def LikeC (a b : CtxL) (k : Nat) : Prop := ∀ j, j < k → a.getD j (0, 0, 0) = b.getD j (0, 0, 0)
theorem LikeC.all {a b : CtxL} (hl : a.length = b.length) (h : LikeC a b a.length) : a = b := by
  refine List.ext_getElem hl fun j h1 h2 => ?_
  have := h j h1
  rwa [getD_at _ h1, getD_at _ h2] at this
theorem LikeC.step {a b : CtxL} {k : Nat} (h : LikeC a b k) (he : a.getD k (0, 0, 0) = b.getD k (0, 0, 0)) : LikeC a b (k + 1) := fun j hj => by
  rcases Nat.lt_succ_iff_lt_or_eq.1 hj with hj | rfl
  · exact h j hj
  · exact he
def eq3 (s t : Int × Int × Int) : Bool := decide (s = t)
set_option maxHeartbeats 2000000 in
set_option maxRecDepth 1000000 in
theorem r7Same_any (w : World) (va vb : Value) (a b : CtxL) (ha : CtxAt w va a) (hb : CtxAt w vb b) (la : a.length ≤ 100000) (lb : b.length ≤ 100000) :
    Calls Tryz.prog 35 #[va, vb] w fun e w' => e = .returned (.bool (decide (a = b))) ∧ Frm NoS w w' := by
  obtain ⟨aA, cA, rfl⟩ := ha.sl
  obtain ⟨aB, cB, rfl⟩ := hb.sl
  by_cases hab : a.length = b.length
  rotate_left 1
  · have hne : decide (a = b) = false := by rw [decide_eq_false_iff_not]; intro h; exact hab (by rw [h])
    rw [hne]
    clear hne ha hb
    generalize a.length = n at *
    generalize b.length = m at *
    have hz : ((n : Int) == (m : Int)) = false := by simp; omega
    go_enter Tryz.func35, Tryz.ntmps35
    go_wp2
    go_ret
    exact ⟨rfl, Frm.refl _ _⟩
  have HAB := Lib.hid hab
  rw [← hab] at lb
  have hb2 : CtxAt w (.slice aB a.length cB) b := by rw [hab]; exact hb
  have HA := Lib.hid ha; clear ha
  have HB := Lib.hid hb2; clear hb hb2
  clear hab lb
  have hbl : b.length = a.length := HAB.out.symm
  rw [hbl]
  clear hbl
  generalize hn : a.length = n at *
  have HN := Lib.hid hn; clear hn
  go_enter Tryz.func35, Tryz.ntmps35
  go_wp2
  go_loopw [13] (fun i ww => ∃ k : Nat, k ≤ n ∧ i = .int .i64 k ∧ LikeC a b k ∧ Frm NoS w ww) (fun i _ => n - (intOf i).toNat)
  case atStart => exact ⟨0, Nat.zero_le _, rfl, (fun j hj => absurd hj (Nat.not_lt_zero _)), Frm.refl _ _⟩
  case round =>
    obtain ⟨k, hk, rfl, hlk, hf⟩ := hrel
    have HLK := Lib.hid hlk; clear hlk
    have HF := Lib.hid hf; clear hf
    by_cases hlt : k < n
    · have hka : k < a.length := by rw [HN.out]; exact hlt
      have hkb : k < b.length := by rw [← HAB.out]; exact hlt
      rcases Rd.shape HA.out with ⟨ad, he, h0⟩ | ⟨o1, off1, cc1, he, hmax⟩
      · exfalso; have := HN.out; omega
      rcases Rd.shape HB.out with ⟨ad, he2, h0⟩ | ⟨o2, off2, cc2, he2, hmax2⟩
      · exfalso; have := HN.out; have := HAB.out; omega
      injection he with e1 e2 e3
      injection he2 with e4 e5 e6
      subst e1 e3 e4 e6
      clear e2 e5
      obtain ⟨p0, p1, p2⟩ := spn_at HA.out (by rw [HN.out]) k hka
      obtain ⟨q0, q1, q2⟩ := spn_at HB.out HAB.out k hkb
      have p0 := HF.out.cell' p0 id
      have p1 := HF.out.cell' p1 id
      have p2 := HF.out.cell' p2 id
      have q0 := HF.out.cell' q0 id
      have q1 := HF.out.cell' q1 id
      have q2 := HF.out.cell' q2 id
      have hst : a.getD k (0, 0, 0) = b.getD k (0, 0, 0) → LikeC a b (k + 1) := HLK.out.step
      have HST := Lib.hid hst; clear hst
      have hno : a.getD k (0, 0, 0) ≠ b.getD k (0, 0, 0) → a ≠ b := fun h e => h (by rw [e])
      have HNO := Lib.hid hno; clear hno
      generalize a.getD k (0, 0, 0) = s at *
      generalize b.getD k (0, 0, 0) = t at *
      by_cases hst : s = t
      · subst hst
        go_wp2_with fail
        go_quiet (fail)
        go_wp2
        go_roundw
        case rel => exact ⟨k + 1, by omega, by go_num, HST.out (by trivial), HF.out.drewN1⟩
        case measure => simp [intOf]; omega
      · have HNE := Lib.hid (show false = decide (a = b) from by symm; rw [decide_eq_false_iff_not]; exact HNO.out hst)
        obtain ⟨s0, s1, s2⟩ := s
        obtain ⟨t0, t1, t2⟩ := t
        clear HST HNO
        dsimp only at p0 p1 p2 q0 q1 q2
        by_cases g0 : s0 = t0
        · subst g0
          by_cases g1 : s1 = t1
          · subst g1
            have g2 : s2 ≠ t2 := fun h => hst (by rw [h])
            clear hst
            have gb : ((s2 : Int) == t2) = false := by simpa using g2
            go_wp2_with fail
            go_quiet (fail)
            go_wp2
            go_ret
            exact ⟨ret_bool HNE.out, HF.out.drewN1⟩
          · clear hst
            have gb : ((s1 : Int) == t1) = false := by simpa using g1
            go_wp2_with fail
            go_quiet (fail)
            go_wp2
            go_ret
            exact ⟨ret_bool HNE.out, HF.out.drewN1⟩
        · clear hst
          have gb : ((s0 : Int) == t0) = false := by simpa using g0
          go_wp2_with fail
          go_quiet (fail)
          go_wp2
          go_ret
          exact ⟨ret_bool HNE.out, HF.out.drewN1⟩
    · obtain rfl : n = k := by omega
      have heq : decide (a = b) = true := by rw [decide_eq_true_iff]; exact LikeC.all (HN.out.trans HAB.out) (by rw [HN.out]; exact HLK.out)
      have HEQ := Lib.hid heq; clear heq
      go_wp2
      go_ret
      exact ⟨ret_bool HEQ.out.symm, HF.out⟩
end Go.Proofs.YtafdclkpeomomaaGreat

/- slices.Equal of spans and of entries: the walks. -/
namespace Go.Proofs.YtafdclkpeomomaaGreat
open Go.RowKit

/-- The first k entries are alike. -/
def LikeE (a b : List Ent) (k : Nat) : Prop := ∀ j, j < k → a.getD j Ent.zero = b.getD j Ent.zero
theorem LikeE.all {a b : List Ent} (hl : a.length = b.length) (h : LikeE a b a.length) : a = b := by
  refine List.ext_getElem hl fun j h1 h2 => ?_
  have := h j h1
  rwa [getD_at _ h1, getD_at _ h2] at this
theorem LikeE.step {a b : List Ent} {k : Nat} (h : LikeE a b k) (he : a.getD k Ent.zero = b.getD k Ent.zero) : LikeE a b (k + 1) := fun j hj => by
  rcases Nat.lt_succ_iff_lt_or_eq.1 hj with hj | rfl
  · exact h j hj
  · exact he
set_option maxHeartbeats 2000000 in
set_option maxRecDepth 1000000 in
theorem spEq_any (w : World) (va vb : Value) (a b : CtxL) (ha : CtxAt w va a) (hb : CtxAt w vb b) (la : a.length ≤ 100000) (lb : b.length ≤ 100000) :
    Calls Tryz.prog 129 #[va, vb] w fun e w' => e = .returned (.bool (decide (a = b))) ∧ Frm NoS w w' := by
  obtain ⟨aA, cA, rfl⟩ := ha.sl
  obtain ⟨aB, cB, rfl⟩ := hb.sl
  by_cases hab : a.length = b.length
  rotate_left 1
  · have hne : decide (a = b) = false := by rw [decide_eq_false_iff_not]; intro h; exact hab (by rw [h])
    rw [hne]
    clear hne ha hb
    generalize a.length = n at *
    generalize b.length = m at *
    have hz : ((n : Int) == (m : Int)) = false := by simp; omega
    go_enter Tryz.func129, Tryz.ntmps129
    go_wp2
    go_ret
    exact ⟨rfl, Frm.refl _ _⟩
  have HAB := Lib.hid hab
  rw [← hab] at lb
  have hb2 : CtxAt w (.slice aB a.length cB) b := by rw [hab]; exact hb
  have HA := Lib.hid ha; clear ha
  have HB := Lib.hid hb2; clear hb hb2
  clear hab lb
  have hbl : b.length = a.length := HAB.out.symm
  rw [hbl]
  clear hbl
  generalize hn : a.length = n at *
  have HN := Lib.hid hn; clear hn
  go_enter Tryz.func129, Tryz.ntmps129
  go_wp2
  go_loopw [13] (fun i ww => ∃ k : Nat, k ≤ n ∧ i = .int .i64 k ∧ LikeC a b k ∧ Frm NoS w ww) (fun i _ => n - (intOf i).toNat)
  case atStart => exact ⟨0, Nat.zero_le _, rfl, (fun j hj => absurd hj (Nat.not_lt_zero _)), Frm.refl _ _⟩
  case round =>
    obtain ⟨k, hk, rfl, hlk, hf⟩ := hrel
    have HLK := Lib.hid hlk; clear hlk
    have HF := Lib.hid hf; clear hf
    by_cases hlt : k < n
    · have hka : k < a.length := by rw [HN.out]; exact hlt
      have hkb : k < b.length := by rw [← HAB.out]; exact hlt
      rcases Rd.shape HA.out with ⟨ad, he, h0⟩ | ⟨o1, off1, cc1, he, hmax⟩
      · exfalso; have := HN.out; omega
      rcases Rd.shape HB.out with ⟨ad, he2, h0⟩ | ⟨o2, off2, cc2, he2, hmax2⟩
      · exfalso; have := HN.out; have := HAB.out; omega
      injection he with e1 e2 e3
      injection he2 with e4 e5 e6
      subst e1 e3 e4 e6
      clear e2 e5
      obtain ⟨p0, p1, p2⟩ := spn_at HA.out (by rw [HN.out]) k hka
      obtain ⟨q0, q1, q2⟩ := spn_at HB.out HAB.out k hkb
      have p0 := HF.out.cell' p0 id
      have p1 := HF.out.cell' p1 id
      have p2 := HF.out.cell' p2 id
      have q0 := HF.out.cell' q0 id
      have q1 := HF.out.cell' q1 id
      have q2 := HF.out.cell' q2 id
      have hst : a.getD k (0, 0, 0) = b.getD k (0, 0, 0) → LikeC a b (k + 1) := HLK.out.step
      have HST := Lib.hid hst; clear hst
      have hno : a.getD k (0, 0, 0) ≠ b.getD k (0, 0, 0) → a ≠ b := fun h e => h (by rw [e])
      have HNO := Lib.hid hno; clear hno
      generalize a.getD k (0, 0, 0) = s at *
      generalize b.getD k (0, 0, 0) = t at *
      by_cases hst : s = t
      · subst hst
        go_wp2_with fail
        go_quiet (fail)
        go_wp2
        go_roundw
        case rel => exact ⟨k + 1, by omega, by go_num, HST.out (by trivial), HF.out.drewN1⟩
        case measure => simp [intOf]; omega
      · have HNE := Lib.hid (show false = decide (a = b) from by symm; rw [decide_eq_false_iff_not]; exact HNO.out hst)
        obtain ⟨s0, s1, s2⟩ := s
        obtain ⟨t0, t1, t2⟩ := t
        clear HST HNO
        dsimp only at p0 p1 p2 q0 q1 q2
        by_cases g0 : s0 = t0
        · subst g0
          by_cases g1 : s1 = t1
          · subst g1
            have g2 : s2 ≠ t2 := fun h => hst (by rw [h])
            clear hst
            have gb : ((s2 : Int) == t2) = false := by simpa using g2
            go_wp2_with fail
            go_quiet (fail)
            go_wp2
            go_ret
            exact ⟨ret_bool HNE.out, HF.out.drewN1⟩
          · clear hst
            have gb : ((s1 : Int) == t1) = false := by simpa using g1
            go_wp2_with fail
            go_quiet (fail)
            go_wp2
            go_ret
            exact ⟨ret_bool HNE.out, HF.out.drewN1⟩
        · clear hst
          have gb : ((s0 : Int) == t0) = false := by simpa using g0
          go_wp2_with fail
          go_quiet (fail)
          go_wp2
          go_ret
          exact ⟨ret_bool HNE.out, HF.out.drewN1⟩
    · obtain rfl : n = k := by omega
      have heq : decide (a = b) = true := by rw [decide_eq_true_iff]; exact LikeC.all (HN.out.trans HAB.out) (by rw [HN.out]; exact HLK.out)
      have HEQ := Lib.hid heq; clear heq
      go_wp2
      go_ret
      exact ⟨ret_bool HEQ.out.symm, HF.out⟩
set_option maxHeartbeats 2000000 in
set_option maxRecDepth 1000000 in
theorem enEq_any (w : World) (va vb : Value) (a b : List Ent) (ha : Rd w va a.length (entC a)) (hb : Rd w vb b.length (entC b)) (la : a.length ≤ 100000) (lb : b.length ≤ 100000) :
    Calls Tryz.prog 159 #[va, vb] w fun e w' => e = .returned (.bool (tf (a = b))) ∧ Frm NoS w w' := by
  obtain ⟨aA, cA, rfl⟩ := ha.sl
  obtain ⟨aB, cB, rfl⟩ := hb.sl
  by_cases hab : a.length = b.length
  rotate_left 1
  · have hne : tf (a = b) = false := by exact tf_false fun h => hab (by rw [h])
    rw [hne]
    clear hne ha hb
    generalize a.length = n at *
    generalize b.length = m at *
    have hz : ((n : Int) == (m : Int)) = false := by simp; omega
    go_enter Tryz.func159, Tryz.ntmps159
    go_wp2
    go_ret
    exact ⟨rfl, Frm.refl _ _⟩
  have HAB := Lib.hid hab
  rw [← hab] at lb
  have hb2 : Rd w (.slice aB a.length cB) a.length (entC b) := by rw [hab]; exact hb
  have HA := Lib.hid ha; clear ha
  have HB := Lib.hid hb2; clear hb hb2
  clear hab lb
  have hbl : b.length = a.length := HAB.out.symm
  rw [hbl]
  clear hbl
  generalize hn : a.length = n at *
  have HN := Lib.hid hn; clear hn
  go_enter Tryz.func159, Tryz.ntmps159
  go_wp2
  go_loopw [13] (fun i ww => ∃ k : Nat, k ≤ n ∧ i = .int .i64 k ∧ LikeE a b k ∧ Frm NoS w ww) (fun i _ => n - (intOf i).toNat)
  case atStart => exact ⟨0, Nat.zero_le _, rfl, (fun j hj => absurd hj (Nat.not_lt_zero _)), Frm.refl _ _⟩
  case round =>
    obtain ⟨k, hk, rfl, hlk, hf⟩ := hrel
    have HLK := Lib.hid hlk; clear hlk
    have HF := Lib.hid hf; clear hf
    by_cases hlt : k < n
    · have hka : k < a.length := by rw [HN.out]; exact hlt
      have hkb : k < b.length := by rw [← HAB.out]; exact hlt
      rcases Rd.shape HA.out with ⟨ad, he, h0⟩ | ⟨o1, off1, cc1, he, hmax⟩
      · exfalso; have := HN.out; omega
      rcases Rd.shape HB.out with ⟨ad, he2, h0⟩ | ⟨o2, off2, cc2, he2, hmax2⟩
      · exfalso; have := HN.out; have := HAB.out; omega
      injection he with e1 e2 e3
      injection he2 with e4 e5 e6
      subst e1 e3 e4 e6
      clear e2 e5
      obtain ⟨p0, p1, p2, p3⟩ := ent_at HA.out k hka
      obtain ⟨q0, q1, q2, q3⟩ := ent_at HB.out k hkb
      have p0 := HF.out.cell' p0 id
      have p1 := HF.out.cell' p1 id
      have p2 := HF.out.cell' p2 id
      have p3 := HF.out.cell' p3 id
      have q0 := HF.out.cell' q0 id
      have q1 := HF.out.cell' q1 id
      have q2 := HF.out.cell' q2 id
      have q3 := HF.out.cell' q3 id
      have hst : a.getD k Ent.zero = b.getD k Ent.zero → LikeE a b (k + 1) := HLK.out.step
      have HST := Lib.hid hst; clear hst
      have hno : a.getD k Ent.zero ≠ b.getD k Ent.zero → a ≠ b := fun h e => h (by rw [e])
      have HNO := Lib.hid hno; clear hno
      generalize a.getD k Ent.zero = s at *
      generalize b.getD k Ent.zero = t at *
      by_cases hst : s = t
      · subst hst
        go_wp2_with fail
        go_quiet (fail)
        go_wp2
        go_roundw
        case rel => exact ⟨k + 1, by omega, by go_num, HST.out (by trivial), HF.out.drewN1⟩
        case measure => simp [intOf]; omega
      · have HNE := Lib.hid (show false = tf (a = b) from (tf_false (HNO.out hst)).symm)
        obtain ⟨s0, s1, s2, s3⟩ := s
        obtain ⟨t0, t1, t2, t3⟩ := t
        clear HST HNO
        dsimp only at p0 p1 p2 p3 q0 q1 q2 q3
        by_cases g0 : s0 = t0
        · subst g0
          by_cases g1 : s1 = t1
          · subst g1
            by_cases g2 : s2 = t2
            · subst g2
              have g3 : s3 ≠ t3 := fun h => hst (by rw [h])
              clear hst
              have gb : ((s3 : Int) == t3) = false := by simpa using g3
              go_wp2_with fail
              go_quiet (fail)
              go_wp2
              go_ret
              exact ⟨ret_bool HNE.out, HF.out.drewN1⟩
            · clear hst
              have gb : ¬ s2.toList = t2.toList := fun h => g2 (by rw [ByteArray.toList_eq, ByteArray.toList_eq] at h; exact ByteArray.ext (Array.toList_inj.1 h))
              go_wp2_with fail
              go_quiet (fail)
              go_wp2
              go_ret
              exact ⟨ret_bool HNE.out, HF.out.drewN1⟩
          · clear hst
            have gb : ((s1 : Int) == t1) = false := by simpa using g1
            go_wp2_with fail
            go_quiet (fail)
            go_wp2
            go_ret
            exact ⟨ret_bool HNE.out, HF.out.drewN1⟩
        · clear hst
          have gb : ((s0 : Int) == t0) = false := by simpa using g0
          go_wp2_with fail
          go_quiet (fail)
          go_wp2
          go_ret
          exact ⟨ret_bool HNE.out, HF.out.drewN1⟩
    · obtain rfl : n = k := by omega
      have heq : tf (a = b) = true := tf_true (LikeE.all (HN.out.trans HAB.out) (by rw [HN.out]; exact HLK.out))
      have HEQ := Lib.hid heq; clear heq
      go_wp2
      go_ret
      exact ⟨ret_bool HEQ.out.symm, HF.out⟩
end Go.Proofs.YtafdclkpeomomaaGreat

/- tree: same: the walk, with slices.EqualFunc and the function that it is handed. -/
namespace Go.Proofs.YtafdclkpeomomaaGreat
open Go.RowKit

theorem ne_text {s t : ByteArray} (h : ¬ s = t) : ¬ s.toList = t.toList := fun e => h (by rw [ByteArray.toList_eq, ByteArray.toList_eq] at e; exact ByteArray.ext (Array.toList_inj.1 e))
/-- Two blocks of two cells, of three. -/
theorem pair2 (w : World) (a0 a1 b0 b1 : Value) (T : TypeId) (W : World) (f : Frm NoS ((w.alloc (.cells #[a0, a1] T)).alloc (.cells #[b0, b1] T)) W) :
    W.cell? ⟨w.heap.size, 0, none⟩ = some a0 ∧ W.cell? ⟨w.heap.size, 1, none⟩ = some a1 ∧ W.cell? ⟨w.heap.size + 1, 0, none⟩ = some b0 ∧ W.cell? ⟨w.heap.size + 1, 1, none⟩ = some b1 := by
  obtain ⟨h1, _, _⟩ := two_blocks w (.cells #[a0, a1] T) #[b0, b1] T
  have h0 : ((w.alloc (.cells #[a0, a1] T)).alloc (.cells #[b0, b1] T)).heap[w.heap.size]? = some (.cells #[a0, a1] T (0, 0)) := (Frm.alloc NoS _ _).blk (heap_alloc_new w _) id
  exact ⟨f.cell' (cell_at' h0 0 rfl) id, f.cell' (cell_at' h0 1 rfl) id, f.cell' (cell_at' h1 0 rfl) id, f.cell' (cell_at' h1 1 rfl) id⟩
theorem pair3 (w : World) (a0 a1 a2 b0 b1 b2 : Value) (T : TypeId) (W : World) (f : Frm NoS ((w.alloc (.cells #[a0, a1, a2] T)).alloc (.cells #[b0, b1, b2] T)) W) :
    W.cell? ⟨w.heap.size, 0, none⟩ = some a0 ∧ W.cell? ⟨w.heap.size, 1, none⟩ = some a1 ∧ W.cell? ⟨w.heap.size, 2, none⟩ = some a2 ∧ W.cell? ⟨w.heap.size + 1, 0, none⟩ = some b0 ∧ W.cell? ⟨w.heap.size + 1, 1, none⟩ = some b1 ∧ W.cell? ⟨w.heap.size + 1, 2, none⟩ = some b2 := by
  obtain ⟨h1, _, _⟩ := two_blocks w (.cells #[a0, a1, a2] T) #[b0, b1, b2] T
  have h0 : ((w.alloc (.cells #[a0, a1, a2] T)).alloc (.cells #[b0, b1, b2] T)).heap[w.heap.size]? = some (.cells #[a0, a1, a2] T (0, 0)) := (Frm.alloc NoS _ _).blk (heap_alloc_new w _) id
  exact ⟨f.cell' (cell_at' h0 0 rfl) id, f.cell' (cell_at' h0 1 rfl) id, f.cell' (cell_at' h0 2 rfl) id, f.cell' (cell_at' h1 0 rfl) id, f.cell' (cell_at' h1 1 rfl) id, f.cell' (cell_at' h1 2 rfl) id⟩
set_option maxHeartbeats 2000000 in
set_option maxRecDepth 1000000 in
theorem tsame1_of (key key' : ByteArray) (b : Bool) (W : World) (a0 a1 b0 b1 : Option Addr) (n m n' m' c0 c1 d0 d1 : Nat)
    (HT : ∀ W', Frm NoS W W' → Calls Tryz.prog 128 #[.agg #[.slice a0 n c0, .slice a1 m c1], .agg #[.slice b0 n' d0, .slice b1 m' d1]] W' fun e w' => e = .returned (.bool b) ∧ Frm NoS W' w') :
    Calls Tryz.prog 161 #[.agg #[.string key, .slice a0 n c0, .slice a1 m c1], .agg #[.string key', .slice b0 n' d0, .slice b1 m' d1]] W fun e w' => e = .returned (.bool (tf (key = key') && b)) ∧ Frm NoS W w' := by
  have HTT := Lib.hid HT; clear HT
  have HF := Lib.hid ((Frm.alloc NoS W (.cells #[.string key, .slice a0 n c0, .slice a1 m c1] 138)).alloc1 (o := .cells #[.string key', .slice b0 n' d0, .slice b1 m' d1] 138))
  by_cases hk : key = key'
  · subst hk
    rw [tf_true rfl, Bool.true_and]
    go_enter Tryz.func161, Tryz.ntmps161
    go_wp2_with (go_at_call 128; go_loud (refine (HTT.out _ HF.out).mono ?_); rintro e w1 ⟨rfl, hw1⟩; have HW1 := Lib.hid (HF.out.then1 hw1); clear hw1)
    go_ret
    exact ⟨rfl, HW1.out⟩
  · rw [tf_false hk, Bool.false_and]
    have hne := ne_text hk
    clear hk
    go_enter Tryz.func161, Tryz.ntmps161
    go_wp2
    go_ret
    exact ⟨rfl, HF.out⟩
theorem kids_step {ks ks' : KidsL} {k : Nat} {key key' : ByteArray} {es es' : List Ent} {sub sub' rest rest' : KidsL} (h : ks.drop k = .cons key es sub rest) (h' : ks'.drop k = .cons key' es' sub' rest') :
    (ks.drop k = ks'.drop k) ↔ ((key = key' ∧ es = es' ∧ sub = sub') ∧ ks.drop (k + 1) = ks'.drop (k + 1)) := by
  rw [KidsL.drop_succ k ks h, KidsL.drop_succ k ks' h', h, h']
  constructor
  · intro e
    injection e with e1 e2 e3 e4
    exact ⟨⟨e1, e2, e3⟩, e4⟩
  · rintro ⟨⟨rfl, rfl, rfl⟩, rfl⟩
    rfl
set_option maxHeartbeats 4000000 in
set_option maxRecDepth 1000000 in
theorem kidEq_any (Q Q' : Nat → Prop) (ks ks' : KidsL) (w : World) (kv kv' : Value) (os os' : List (Value × Value)) (h : Rd w kv ks.len (kidC ks os)) (hf : ForAt Q w ks os) (h' : Rd w kv' ks'.len (kidC ks' os')) (hf' : ForAt Q' w ks' os') (hl : ks.len ≤ 100000) (hl' : ks'.len ≤ 100000)
    (HG : ∀ n key es sub rest key' es' sub' rest', ks.drop n = .cons key es sub rest → ks'.drop n = .cons key' es' sub' rest' → ∀ W ev kv ev' kv', TreeAt Q W ev kv es sub → TreeAt Q' W ev' kv' es' sub' →
      Calls Tryz.prog 161 #[.agg #[.string key, ev, kv], .agg #[.string key', ev', kv']] W fun e w' => e = .returned (.bool (tf (key = key' ∧ es = es' ∧ sub = sub'))) ∧ Frm NoS W w') :
    Calls Tryz.prog 160 #[kv, kv', .func (.func 161) #[] #[]] w fun e w' => e = .returned (.bool (tf (ks = ks'))) ∧ Frm NoS w w' := by
  have eg : ∀ args w, (callFunc 161 args).run Tryz.prog w = .ok (.enter 161 args) w := enters_of Tryz.func161 (by kernel_rfl) rfl
  obtain ⟨a0, c0, rfl⟩ := h.sl
  obtain ⟨a1, c1, rfl⟩ := h'.sl
  have HKR := Lib.hid h; clear h
  have HFOR := Lib.hid hf; clear hf
  have HKR' := Lib.hid h'; clear h'
  have HFOR' := Lib.hid hf'; clear hf'
  have HGG := Lib.hid HG; clear HG
  by_cases hlen : ks.len = ks'.len
  rotate_left 1
  · rw [tf_false fun e => hlen (by rw [e])]
    clear HKR HFOR HKR' HFOR' HGG eg
    generalize ks.len = n at *
    generalize ks'.len = m at *
    have hz : ((n : Int) == (m : Int)) = false := by simp; omega
    go_enter Tryz.func160, Tryz.ntmps160
    go_wp2
    go_ret
    exact ⟨rfl, Frm.refl _ _⟩
  have HLEN := Lib.hid hlen.symm
  rw [← hlen] at HKR' ⊢
  clear hlen hl'
  generalize hkl : ks.len = m at *
  have HM := Lib.hid hkl; clear hkl
  go_enter Tryz.func160, Tryz.ntmps160
  go_wp2
  go_loopw [17] (fun i ww => ∃ k : Nat, k ≤ m ∧ i = .int .i64 k ∧ (ks = ks' ↔ ks.drop k = ks'.drop k) ∧ Frm NoS w ww) (fun i _ => m - (intOf i).toNat)
  case atStart => exact ⟨0, Nat.zero_le _, rfl, Iff.rfl, Frm.refl _ _⟩
  case round =>
    obtain ⟨k, hk, rfl, he, hw⟩ := hrel
    have HE := Lib.hid he; clear he
    have HW := Lib.hid hw; clear hw
    by_cases hlt : k < m
    · obtain ⟨key, es, sub, rest, hdr⟩ := KidsL.drop_some (n := k) (ks := ks) (by rw [HM.out]; exact hlt)
      obtain ⟨key', es', sub', rest', hdr'⟩ := KidsL.drop_some (n := k) (ks := ks') (by rw [HLEN.out]; exact hlt)
      rcases Rd.shape HKR.out with ⟨ad, he, h0⟩ | ⟨b, off, cc, he, hmax⟩
      · exfalso; omega
      rcases Rd.shape HKR'.out with ⟨ad, he2, h0⟩ | ⟨b2, off2, cc2, he2, hmax2⟩
      · exfalso; omega
      injection he with e1 e2 e3
      injection he2 with e4 e5 e6
      subst e1 e3 e4 e6
      clear e2 e5
      obtain ⟨ev, kv, p0, p1, p2, hta⟩ := kid_at (HKR.out.keep0 HW.out) (HFOR.out.keep0 HW.out) hdr
      obtain ⟨ev', kv', q0, q1, q2, htb⟩ := kid_at (HKR'.out.keep0 HW.out) (HFOR'.out.keep0 HW.out) hdr'
      have HC := Lib.hid (fun W (f : Frm NoS wr W) => HGG.out k key es sub rest key' es' sub' rest' hdr hdr' W ev kv ev' kv' (hta.keep0 f) (htb.keep0 f))
      have HST := Lib.hid (kids_step hdr hdr')
      obtain ⟨ae, ce, rfl⟩ := hta.ents.rd.sl
      obtain ⟨o3, hk3, -⟩ := hta.kids
      obtain ⟨ak, ck, rfl⟩ := hk3.rd.sl
      obtain ⟨ae', ce', rfl⟩ := htb.ents.rd.sl
      obtain ⟨o4, hk4, -⟩ := htb.kids
      obtain ⟨ak', ck', rfl⟩ := hk4.rd.sl
      clear hk3 hk4 hta htb hdr hdr'
      generalize es.length = n0 at *
      generalize sub.len = m0 at *
      generalize es'.length = n1 at *
      generalize sub'.len = m1 at *
      have HFB := Lib.hid ((Frm.alloc NoS wr (.cells #[.string key, .slice ae n0 ce, .slice ak m0 ck] 138)).alloc1 (o := .cells #[.string key', .slice ae' n1 ce', .slice ak' m1 ck'] 138))
      have hbl1 : b < wr.heap.size := World.block_lt_of_cell? _ _ p0
      have hbl2 : b2 < wr.heap.size := World.block_lt_of_cell? _ _ q0
      by_cases hy : key = key' ∧ es = es' ∧ sub = sub'
      · rw [tf_true hy] at HC
        have HY := Lib.hid hy; clear hy
        go_wp2_with (go_at_call 161; go_loud (refine (HC.out _ HFB.out).mono ?_); rintro e w1 ⟨rfl, hw1⟩; have HW1 := Lib.hid (HFB.out.then1 hw1); clear hw1)
        go_roundw
        case rel => exact ⟨k + 1, by omega, by go_num, HE.out.trans (HST.out.trans ⟨fun h => h.2, fun h => ⟨HY.out, h⟩⟩), HW.out.then1 HW1.out⟩
        case measure => simp [intOf]; omega
      · rw [tf_false hy] at HC
        have HY := Lib.hid hy; clear hy
        go_wp2_with (go_at_call 161; go_loud (refine (HC.out _ HFB.out).mono ?_); rintro e w1 ⟨rfl, hw1⟩; have HW1 := Lib.hid (HFB.out.then1 hw1); clear hw1)
        go_ret
        exact ⟨ret_bool (tf_false fun h => HY.out (HST.out.1 (HE.out.1 h)).1).symm, HW.out.then1 HW1.out⟩
    · obtain rfl : m = k := by omega
      have hend : ks = ks' := HE.out.2 (by rw [KidsL.drop_none (by rw [HM.out]; exact Nat.le_refl _), KidsL.drop_none (by rw [HLEN.out]; exact Nat.le_refl _)])
      have HEND := Lib.hid hend; clear hend
      go_wp2
      go_ret
      exact ⟨ret_bool (tf_true HEND.out).symm, HW.out⟩
set_option maxHeartbeats 4000000 in
set_option maxRecDepth 1000000 in
theorem tsame_any (Q Q' : Nat → Prop) : ∀ (N : Nat) (es : List Ent) (ks : KidsL) (es' : List Ent) (ks' : KidsL) (w : World) (ev kv ev' kv' : Value), sizeK ks < N → TreeAt Q w ev kv es ks → TreeAt Q' w ev' kv' es' ks' → sizeT es ks ≤ 100000 → sizeT es' ks' ≤ 100000 →
    Calls Tryz.prog 128 #[.agg #[ev, kv], .agg #[ev', kv']] w fun e w' => e = .returned (.bool (tf (es = es' ∧ ks = ks'))) ∧ Frm NoS w w' := by
  intro N
  induction N with
  | zero => intros; exfalso; omega
  | succ N IHN =>
    intro es ks es' ks' w ev kv ev' kv' hN ht ht' hsz hsz'
    obtain ⟨ae, ce, rfl⟩ := ht.ents.rd.sl
    obtain ⟨os, hkr, hfor⟩ := ht.kids
    obtain ⟨ak, ck, rfl⟩ := hkr.rd.sl
    obtain ⟨ae', ce', rfl⟩ := ht'.ents.rd.sl
    obtain ⟨os', hkr', hfor'⟩ := ht'.kids
    obtain ⟨ak', ck', rfl⟩ := hkr'.rd.sl
    have h1 : es.length ≤ 100000 := by unfold sizeT at hsz; omega
    have h2 : es'.length ≤ 100000 := by unfold sizeT at hsz'; omega
    have h3 : ks.len ≤ 100000 := by have := len_le_sizeK ks; unfold sizeT at hsz; omega
    have h4 : ks'.len ≤ 100000 := by have := len_le_sizeK ks'; unfold sizeT at hsz'; omega
    have HEN := Lib.hid (fun W (f : Frm NoS w W) => enEq_any W _ _ es es' (ht.ents.rd.keep0 f) (ht'.ents.rd.keep0 f) h1 h2)
    have HKE := Lib.hid (fun W (f : Frm NoS w W) => kidEq_any Q Q' ks ks' W _ _ os os' (hkr.rd.keep0 f) (hfor.keep0 f) (hkr'.rd.keep0 f) (hfor'.keep0 f) h3 h4 (fun n key es0 sub rest key' es0' sub' rest' hd hd' W ev kv ev' kv' hta htb => by
      obtain ⟨a0, c0, rfl⟩ := hta.ents.rd.sl
      obtain ⟨o3, hk3, _⟩ := hta.kids
      obtain ⟨a1, c1, rfl⟩ := hk3.rd.sl
      obtain ⟨b0, d0, rfl⟩ := htb.ents.rd.sl
      obtain ⟨o4, hk4, _⟩ := htb.kids
      obtain ⟨b1, d1, rfl⟩ := hk4.rd.sl
      have hss := size_sub n hd
      have hst := sizeT_sub n hd
      have hst' := sizeT_sub n hd'
      have := tsame1_of key key' (tf (es0 = es0' ∧ sub = sub')) W _ _ _ _ _ _ _ _ _ _ _ _ fun W' f => IHN es0 sub es0' sub' W' _ _ _ _ (by omega) (hta.keep0 f) (htb.keep0 f) (by unfold sizeT at *; omega) (by unfold sizeT at *; omega)
      have he : (tf (key = key') && tf (es0 = es0' ∧ sub = sub')) = tf (key = key' ∧ es0 = es0' ∧ sub = sub') := by
        rw [Bool.eq_iff_iff]; simp only [Bool.and_eq_true, tf_iff]
      rw [he] at this
      exact this))
    clear hkr hkr' hfor hfor' ht ht' IHN hN hsz hsz' h1 h2 h3 h4
    have HFB := Lib.hid ((Frm.alloc NoS w (.cells #[.slice ae es.length ce, .slice ak ks.len ck] 25)).alloc1 (o := .cells #[.slice ae' es'.length ce', .slice ak' ks'.len ck'] 25))
    have HBX := Lib.hid (pair2 w (.slice ae es.length ce) (.slice ak ks.len ck) (.slice ae' es'.length ce') (.slice ak' ks'.len ck') 25)
    by_cases hy : es = es'
    · rw [tf_true hy] at HEN
      have hall : tf (es = es' ∧ ks = ks') = tf (ks = ks') := tf_congr ⟨fun h => h.2, fun h => ⟨hy, h⟩⟩
      rw [hall]
      clear hall hy
      generalize tf (ks = ks') = b at *
      generalize es.length = n at *
      generalize ks.len = m at *
      generalize es'.length = n' at *
      generalize ks'.len = m' at *
      go_enter Tryz.func128, Tryz.ntmps128
      go_wp2_with (first
        | (go_at_call 159; go_loud (refine (HEN.out _ HFB.out).mono ?_); rintro e w1 ⟨rfl, hw1⟩; obtain ⟨y0, y1, y2, y3⟩ := HBX.out w1 hw1; have HW1 := Lib.hid (HFB.out.then1 hw1); clear hw1)
        | (go_at_call 160; go_loud (refine (HKE.out _ HW1.out).mono ?_); rintro e w2 ⟨rfl, hw2⟩; have HW2 := Lib.hid (HW1.out.then1 hw2); clear hw2))
      go_ret
      exact ⟨rfl, HW2.out⟩
    · rw [tf_false hy] at HEN
      rw [tf_false fun h => hy h.1]
      clear hy HKE
      generalize es.length = n at *
      generalize ks.len = m at *
      generalize es'.length = n' at *
      generalize ks'.len = m' at *
      go_enter Tryz.func128, Tryz.ntmps128
      go_wp2_with (go_at_call 159; go_loud (refine (HEN.out _ HFB.out).mono ?_); rintro e w1 ⟨rfl, hw1⟩; have HW1 := Lib.hid (HFB.out.then1 hw1); clear hw1)
      go_ret
      exact ⟨rfl, HW1.out⟩
end Go.Proofs.YtafdclkpeomomaaGreat

/- tree: Same; context: Same; causal: Same: the walks. Printed by wip/samegen.py. -/
namespace Go.Proofs.YtafdclkpeomomaaGreat
open Go.RowKit

set_option maxRecDepth 100000 in
theorem cSame_ok (w : World) (va vb : Value) (a b : CtxL) (ha : CtxAt w va a) (hb : CtxAt w vb b) (ra : RightC a) (rb : RightC b) (la : a.length ≤ 20000) (lb : b.length ≤ 20000) :
    Calls Tryz.prog 98 #[va, vb] w fun e w' => e = .returned (.bool (tf (a = b))) ∧ Frm NoS w w' := by
  obtain ⟨aA, cA, rfl⟩ := ha.sl
  obtain ⟨aB, cB, rfl⟩ := hb.sl
  have HRA := Lib.hid (tf_true ra ▸ cRight_any w _ a ha ra.fits (by omega))
  have HRB := Lib.hid (fun W (f : Frm NoS w W) => tf_true rb ▸ cRight_any W _ b (Rd.keep0 hb f) rb.fits (by omega))
  have HEQ := Lib.hid (fun W (f : Frm NoS w W) => spEq_any W _ _ a b (Rd.keep0 ha f) (Rd.keep0 hb f) (by omega) (by omega))
  have hde : decide (a = b) = tf (a = b) := tf_bool (by rw [decide_eq_true_iff])
  rw [hde] at HEQ
  clear ha hb ra rb la lb hde
  generalize tf (a = b) = y at *
  generalize a.length = n at *
  generalize b.length = m at *
  go_enter Tryz.func98, Tryz.ntmps98
  go_wp2_with (first
    | (go_at_call_of 85 aA; go_loud (refine HRA.out.mono ?_); rintro e w1 ⟨rfl, hw1⟩; have HW1 := Lib.hid hw1; clear hw1)
    | (go_at_call_of 85 aB; go_loud (refine (HRB.out _ HW1.out).mono ?_); rintro e w2 ⟨rfl, hw2⟩; have HW2 := Lib.hid (HW1.out.then1 hw2); clear hw2)
    | (go_at_call 129; go_loud (refine (HEQ.out _ HW2.out).mono ?_); rintro e w3 ⟨rfl, hw3⟩; have HW3 := Lib.hid (HW2.out.then1 hw3); clear hw3))
  go_ret
  exact ⟨rfl, HW3.out⟩
set_option maxRecDepth 100000 in
theorem tSame_ok (Q Q' : Nat → Prop) (es : List Ent) (ks : KidsL) (es' : List Ent) (ks' : KidsL) (w : World) (ev kv ev' kv' : Value) (ht : TreeAt Q w ev kv es ks) (hok : TrOk es ks) (hr : rightT 5 es ks = true) (hs : sizeT es ks ≤ 4000)
    (ht' : TreeAt Q' w ev' kv' es' ks') (hok' : TrOk es' ks') (hr' : rightT 5 es' ks' = true) (hs' : sizeT es' ks' ≤ 4000) :
    Calls Tryz.prog 97 #[.agg #[ev, kv], .agg #[ev', kv']] w fun e w' => e = .returned (.bool (tf (es = es' ∧ ks = ks'))) ∧ Frm NoS w w' := by
  have HA := Lib.hid (fun W (f : Frm NoS w W) => hr ▸ tRight_any Q es ks W _ _ (ht.keep0 f) hok)
  have HB := Lib.hid (fun W (f : Frm NoS w W) => hr' ▸ tRight_any Q' es' ks' W _ _ (ht'.keep0 f) hok')
  have HS := Lib.hid (fun W (f : Frm NoS w W) => tsame_any Q Q' _ es ks es' ks' W _ _ _ _ (Nat.lt_succ_self _) (ht.keep0 f) (ht'.keep0 f) (by omega) (by omega))
  obtain ⟨ae, ce, rfl⟩ := ht.ents.rd.sl
  obtain ⟨os, hkr, -⟩ := ht.kids
  obtain ⟨ak, ck, rfl⟩ := hkr.rd.sl
  obtain ⟨ae', ce', rfl⟩ := ht'.ents.rd.sl
  obtain ⟨os', hkr', -⟩ := ht'.kids
  obtain ⟨ak', ck', rfl⟩ := hkr'.rd.sl
  clear hkr hkr' ht ht' hok hok' hr hr' hs hs'
  generalize tf (es = es' ∧ ks = ks') = y at *
  generalize es.length = n at *
  generalize ks.len = m at *
  generalize es'.length = n' at *
  generalize ks'.len = m' at *
  have HFB := Lib.hid ((Frm.alloc NoS w (.cells #[.slice ae n ce, .slice ak m ck] 25)).alloc1 (o := .cells #[.slice ae' n' ce', .slice ak' m' ck'] 25))
  have HBX := Lib.hid (pair2 w (.slice ae n ce) (.slice ak m ck) (.slice ae' n' ce') (.slice ak' m' ck') 25)
  go_enter Tryz.func97, Tryz.ntmps97
  go_wp2_with (first
    | (go_at_call 128; go_loud (refine (HS.out _ (HFB.out.then1 HW2.out)).mono ?_); rintro e w3 ⟨rfl, hw3⟩; have HW3 := Lib.hid ((HFB.out.then1 HW2.out).then1 hw3); clear hw3)
    | (go_at_call 87; first
      | (refine (HB.out _ (HFB.out.then1 HW1.out)).mono ?_; rintro e w2 ⟨rfl, hw2⟩; clear y0 y1 y2 y3; obtain ⟨y0, y1, y2, y3⟩ := HBX.out w2 (HW1.out.then1 hw2); have HW2 := Lib.hid (HW1.out.then1 hw2); clear hw2)
      | (refine (HA.out _ HFB.out).mono ?_; rintro e w1 ⟨rfl, hw1⟩; obtain ⟨y0, y1, y2, y3⟩ := HBX.out w1 hw1; have HW1 := Lib.hid hw1; clear hw1)))
  go_ret
  exact ⟨rfl, HW3.out⟩
set_option maxHeartbeats 4000000 in
set_option maxRecDepth 1000000 in
theorem caSame_any (Q Q' : Nat → Prop) (es : List Ent) (ks : KidsL) (c : CtxL) (es' : List Ent) (ks' : KidsL) (c' : CtxL) (w : World) (ev kv cv ev' kv' cv' : Value) (h : CauAt Q w ev kv cv es ks c) (hok : CauOk es ks c) (h' : CauAt Q' w ev' kv' cv' es' ks' c') (hok' : CauOk es' ks' c') :
    Calls Tryz.prog 49 #[.agg #[ev, kv, cv], .agg #[ev', kv', cv']] w fun e w' => e = .returned (.bool (tf (CauRight es ks c ∧ CauRight es' ks' c' ∧ (es = es' ∧ ks = ks') ∧ c = c'))) ∧ Frm NoS w w' := by
  obtain ⟨a0, c0, a1, c1, a2, c2, rfl, rfl, rfl⟩ := h.shape
  obtain ⟨b0, d0, b1, d1, b2, d2, rfl, rfl, rfl⟩ := h'.shape
  have HA := Lib.hid (fun W (f : Frm NoS w W) => caRight_any Q es ks c W _ _ _ (h.keep0 f) hok)
  have HB := Lib.hid (fun W (f : Frm NoS w W) => caRight_any Q' es' ks' c' W _ _ _ (h'.keep0 f) hok')
  have HT := Lib.hid (fun W (f : Frm NoS w W) r r' => tSame_ok Q Q' es ks es' ks' W _ _ _ _ (h.tree.keep0 f) hok.tree r (Nat.le_trans hok.small (by decide)) (h'.tree.keep0 f) hok'.tree r' (Nat.le_trans hok'.small (by decide)))
  have HC := Lib.hid (fun W (f : Frm NoS w W) r r' => cSame_ok W _ _ c c' (Rd.keep0 h.ctx f) (Rd.keep0 h'.ctx f) r r' (Nat.le_trans hok.len (by decide)) (Nat.le_trans hok'.len (by decide)))
  clear h hok h' hok'
  by_cases r1 : CauRight es ks c
  rotate_left 1
  · rw [tf_false r1] at HA
    rw [tf_false fun h => r1 h.1]
    clear r1 HB HT HC
    generalize es.length = n at *
    generalize ks.len = m at *
    generalize c.length = k at *
    generalize es'.length = n' at *
    generalize ks'.len = m' at *
    generalize c'.length = k' at *
    have HFB := Lib.hid ((Frm.alloc NoS w (.cells #[.slice a0 n c0, .slice a1 m c1, .slice a2 k c2] 29)).alloc1 (o := .cells #[.slice b0 n' d0, .slice b1 m' d1, .slice b2 k' d2] 29))
    have HBX := Lib.hid (pair3 w (.slice a0 n c0) (.slice a1 m c1) (.slice a2 k c2) (.slice b0 n' d0) (.slice b1 m' d1) (.slice b2 k' d2) 29)
    go_enter Tryz.func49, Tryz.ntmps49
    go_wp2_with (first
      | (go_at_call 52; refine (HA.out _ HFB.out).mono ?_; rintro e w1 ⟨rfl, hw1⟩; obtain ⟨y0, y1, y2, y3, y4, y5⟩ := HBX.out w1 hw1; have HW1 := Lib.hid hw1; clear hw1))
    go_ret
    exact ⟨rfl, HFB.out.then1 HW1.out⟩
  by_cases r2 : CauRight es' ks' c'
  rotate_left 1
  · rw [tf_true r1] at HA
    rw [tf_false r2] at HB
    rw [tf_false fun h => r2 h.2.1]
    clear r1 r2 HT HC
    generalize es.length = n at *
    generalize ks.len = m at *
    generalize c.length = k at *
    generalize es'.length = n' at *
    generalize ks'.len = m' at *
    generalize c'.length = k' at *
    have HFB := Lib.hid ((Frm.alloc NoS w (.cells #[.slice a0 n c0, .slice a1 m c1, .slice a2 k c2] 29)).alloc1 (o := .cells #[.slice b0 n' d0, .slice b1 m' d1, .slice b2 k' d2] 29))
    have HBX := Lib.hid (pair3 w (.slice a0 n c0) (.slice a1 m c1) (.slice a2 k c2) (.slice b0 n' d0) (.slice b1 m' d1) (.slice b2 k' d2) 29)
    go_enter Tryz.func49, Tryz.ntmps49
    go_wp2_with (first
      | (go_at_call 52; first | (refine (HB.out _ (HFB.out.then1 HW1.out)).mono ?_; rintro e w2 ⟨rfl, hw2⟩; clear y0 y1 y2 y3 y4 y5; obtain ⟨y0, y1, y2, y3, y4, y5⟩ := HBX.out w2 (HW1.out.then1 hw2); have HW2 := Lib.hid (HW1.out.then1 hw2); clear hw2) | (refine (HA.out _ HFB.out).mono ?_; rintro e w1 ⟨rfl, hw1⟩; obtain ⟨y0, y1, y2, y3, y4, y5⟩ := HBX.out w1 hw1; have HW1 := Lib.hid hw1; clear hw1)))
    go_ret
    exact ⟨rfl, HFB.out.then1 HW2.out⟩
  rw [tf_true r1] at HA
  rw [tf_true r2] at HB
  have HT := Lib.hid (fun W f => HT.out W f r1.tree r2.tree)
  have HC := Lib.hid (fun W f => HC.out W f r1.ctx r2.ctx)
  by_cases r3 : es = es' ∧ ks = ks'
  rotate_left 1
  · rw [tf_false r3] at HT
    rw [tf_false fun h => r3 h.2.2.1]
    clear r1 r2 r3 HC
    generalize es.length = n at *
    generalize ks.len = m at *
    generalize c.length = k at *
    generalize es'.length = n' at *
    generalize ks'.len = m' at *
    generalize c'.length = k' at *
    have HFB := Lib.hid ((Frm.alloc NoS w (.cells #[.slice a0 n c0, .slice a1 m c1, .slice a2 k c2] 29)).alloc1 (o := .cells #[.slice b0 n' d0, .slice b1 m' d1, .slice b2 k' d2] 29))
    have HBX := Lib.hid (pair3 w (.slice a0 n c0) (.slice a1 m c1) (.slice a2 k c2) (.slice b0 n' d0) (.slice b1 m' d1) (.slice b2 k' d2) 29)
    go_enter Tryz.func49, Tryz.ntmps49
    go_wp2_with (first
      | (go_at_call 52; first | (refine (HB.out _ (HFB.out.then1 HW1.out)).mono ?_; rintro e w2 ⟨rfl, hw2⟩; clear y0 y1 y2 y3 y4 y5; obtain ⟨y0, y1, y2, y3, y4, y5⟩ := HBX.out w2 (HW1.out.then1 hw2); have HW2 := Lib.hid (HW1.out.then1 hw2); clear hw2) | (refine (HA.out _ HFB.out).mono ?_; rintro e w1 ⟨rfl, hw1⟩; obtain ⟨y0, y1, y2, y3, y4, y5⟩ := HBX.out w1 hw1; have HW1 := Lib.hid hw1; clear hw1))
      | (go_at_call 97; go_loud (refine (HT.out _ (HFB.out.then1 HW2.out)).mono ?_; rintro e w3 ⟨rfl, hw3⟩; clear y0 y1 y2 y3 y4 y5; obtain ⟨y0, y1, y2, y3, y4, y5⟩ := HBX.out w3 (HW2.out.then1 hw3); have HW3 := Lib.hid (HW2.out.then1 hw3); clear hw3)))
    go_ret
    exact ⟨rfl, HFB.out.then1 HW3.out⟩
  rw [tf_true r3] at HT
  have hall : tf (CauRight es ks c ∧ CauRight es' ks' c' ∧ (es = es' ∧ ks = ks') ∧ c = c') = tf (c = c') := tf_congr ⟨fun h => h.2.2.2, fun h => ⟨r1, r2, r3, h⟩⟩
  rw [hall]
  clear hall r1 r2 r3
  generalize tf (c = c') = y at *
  generalize es.length = n at *
  generalize ks.len = m at *
  generalize c.length = k at *
  generalize es'.length = n' at *
  generalize ks'.len = m' at *
  generalize c'.length = k' at *
  have HFB := Lib.hid ((Frm.alloc NoS w (.cells #[.slice a0 n c0, .slice a1 m c1, .slice a2 k c2] 29)).alloc1 (o := .cells #[.slice b0 n' d0, .slice b1 m' d1, .slice b2 k' d2] 29))
  have HBX := Lib.hid (pair3 w (.slice a0 n c0) (.slice a1 m c1) (.slice a2 k c2) (.slice b0 n' d0) (.slice b1 m' d1) (.slice b2 k' d2) 29)
  go_enter Tryz.func49, Tryz.ntmps49
  go_wp2_with (first
    | (go_at_call 52; first | (refine (HB.out _ (HFB.out.then1 HW1.out)).mono ?_; rintro e w2 ⟨rfl, hw2⟩; clear y0 y1 y2 y3 y4 y5; obtain ⟨y0, y1, y2, y3, y4, y5⟩ := HBX.out w2 (HW1.out.then1 hw2); have HW2 := Lib.hid (HW1.out.then1 hw2); clear hw2) | (refine (HA.out _ HFB.out).mono ?_; rintro e w1 ⟨rfl, hw1⟩; obtain ⟨y0, y1, y2, y3, y4, y5⟩ := HBX.out w1 hw1; have HW1 := Lib.hid hw1; clear hw1))
    | (go_at_call 97; go_loud (refine (HT.out _ (HFB.out.then1 HW2.out)).mono ?_; rintro e w3 ⟨rfl, hw3⟩; clear y0 y1 y2 y3 y4 y5; obtain ⟨y0, y1, y2, y3, y4, y5⟩ := HBX.out w3 (HW2.out.then1 hw3); have HW3 := Lib.hid (HW2.out.then1 hw3); clear hw3))
    | (go_at_call 98; go_loud (refine (HC.out _ (HFB.out.then1 HW3.out)).mono ?_; rintro e w4 ⟨rfl, hw4⟩; have HW4 := Lib.hid (HW3.out.then1 hw4); clear hw4)))
  go_ret
  exact ⟨rfl, HFB.out.then1 HW4.out⟩
end Go.Proofs.YtafdclkpeomomaaGreat

/- Bundles: an argument's block; plain words. Printed by wip/bungen.py. -/
namespace Go.Proofs.YtafdclkpeomomaaGreat
open Go.RowKit

theorem box10 (w : World) (u0 u1 u2 u3 u4 u5 u6 u7 u8 u9 : Value) (T : TypeId) (W : World) (f : Frm NoS (w.alloc (.cells #[u0, u1, u2, u3, u4, u5, u6, u7, u8, u9] T)) W) : W.cell? ⟨w.heap.size, 0, none⟩ = some u0 ∧ W.cell? ⟨w.heap.size, 1, none⟩ = some u1 ∧ W.cell? ⟨w.heap.size, 2, none⟩ = some u2 ∧ W.cell? ⟨w.heap.size, 3, none⟩ = some u3 ∧ W.cell? ⟨w.heap.size, 4, none⟩ = some u4 ∧ W.cell? ⟨w.heap.size, 5, none⟩ = some u5 ∧ W.cell? ⟨w.heap.size, 6, none⟩ = some u6 ∧ W.cell? ⟨w.heap.size, 7, none⟩ = some u7 ∧ W.cell? ⟨w.heap.size, 8, none⟩ = some u8 ∧ W.cell? ⟨w.heap.size, 9, none⟩ = some u9 :=
  ⟨f.cell' (cell_at' (heap_alloc_new w _) 0 rfl) id, f.cell' (cell_at' (heap_alloc_new w _) 1 rfl) id, f.cell' (cell_at' (heap_alloc_new w _) 2 rfl) id, f.cell' (cell_at' (heap_alloc_new w _) 3 rfl) id, f.cell' (cell_at' (heap_alloc_new w _) 4 rfl) id, f.cell' (cell_at' (heap_alloc_new w _) 5 rfl) id, f.cell' (cell_at' (heap_alloc_new w _) 6 rfl) id, f.cell' (cell_at' (heap_alloc_new w _) 7 rfl) id, f.cell' (cell_at' (heap_alloc_new w _) 8 rfl) id, f.cell' (cell_at' (heap_alloc_new w _) 9 rfl) id⟩
theorem fullL_congr {f g : Int → Int} (h : ∀ d, 0 ≤ d → d < 4 → f d = g d) : fullL f = fullL g := by
  unfold fullL wholeL
  simp only [h 0 (by decide) (by decide), h 1 (by decide) (by decide), h 2 (by decide) (by decide), h 3 (by decide) (by decide)]
theorem mayV_congr {f g : Int → Int} (h : ∀ d, 0 ≤ d → d < 4 → f d = g d) : MayV f ↔ MayV g := by
  unfold MayV
  exact ⟨fun x d h0 h4 => by rw [← h d h0 h4]; exact x d h0 h4, fun x d h0 h4 => by rw [h d h0 h4]; exact x d h0 h4⟩
theorem set_vec (v0 v1 v2 v3 x d : Int) (h0 : 0 ≤ d) (h4 : d < 4) :
    vecF x v1 v2 v3 d = setF (vecF v0 v1 v2 v3) 0 x d ∧ vecF v0 x v2 v3 d = setF (vecF v0 v1 v2 v3) 1 x d ∧ vecF v0 v1 x v3 d = setF (vecF v0 v1 v2 v3) 2 x d ∧ vecF v0 v1 v2 x d = setF (vecF v0 v1 v2 v3) 3 x d := by
  rcases four h0 h4 with rfl | rfl | rfl | rfl <;> simp [vecF, setF]
theorem BunNums.may_set {dc af la x : Int} {f : Int → Int} (h : BunNums dc af la f) (h0 : 0 ≤ x) (h1 : x ≤ 1099511627776) : MayV (setF f dc x) := fun d h2 h4 => by
  unfold setF
  by_cases he : d = dc
  · rw [if_pos he]; exact ⟨h0, h1⟩
  · rw [if_neg he]; exact h.2.2.2.2.2.2 d h2 h4
theorem BunNums.own_right {dc af la : Int} {f : Int → Int} (h : BunNums dc af la f) : RightC [(dc, af + 1, la)] := by
  obtain ⟨h0, h1, h2, h3, h4, h5, h6⟩ := h
  exact right_one h0 h1 (by omega) (by omega) h4
end Go.Proofs.YtafdclkpeomomaaGreat
