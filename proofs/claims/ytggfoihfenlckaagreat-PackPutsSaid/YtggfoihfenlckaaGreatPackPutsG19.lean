/- Words for the law PackPuts: PackGet4, PackGet5, PackVec, PackOp, Put1, PutOp, PutVec, R16d, R16e, R16f. -/
import Derived.Test.YtggfoihfenlckaaGreatPackPutsG1
import Derived.Test.YtggfoihfenlckaaGreatPackPutsG5
import Derived.Test.YtggfoihfenlckaaGreatPackPutsG10
import Derived.Test.YtggfoihfenlckaaGreatPackPutsG11
import Derived.Test.YtggfoihfenlckaaGreatPackPutsG16
import Derived.Test.YtggfoihfenlckaaGreatPackPutsG17
import Derived.Test.YtggfoihfenlckaaGreatPackPutsG18
set_option linter.unusedSimpArgs false
set_option linter.unusedVariables false
/- pack: what was read fits: sizes of what bytes tell. -/
namespace Go.Proofs.YtggfoihfenlckaaGreat
open Go.RowKit
theorem encE_four (e : Ent) : 4 ≤ (encE e).length := by
  have h1 := numB_pos e.dc
  have h2 := numB_pos e.n
  have h3 := textB_pos e.s
  have h4 := numB_pos e.k
  unfold encE
  simp only [List.length_append]; omega
theorem encS_three (s : Int × Int × Int) : 3 ≤ (encS s).length := by
  have h1 := numB_pos s.1
  have h2 := numB_pos s.2.1
  have h3 := numB_pos s.2.2
  unfold encS
  simp only [List.length_append]; omega
theorem flat_ge {α : Type} {f : α → List UInt8} {m : Nat} (hf : ∀ a, m ≤ (f a).length) : ∀ l : List α, m * l.length ≤ (l.flatMap f).length
  | [] => by simp
  | a :: l => by
    have := flat_ge hf l
    have := hf a
    rw [List.flatMap_cons, List.length_append, List.length_cons, Nat.mul_succ]; omega
theorem sizeK_le3 : ∀ ks : KidsL, 3 * sizeK ks ≤ (encK ks).length
  | .nil => Nat.le_refl _
  | .cons key es sub rest => by
    have h1 := sizeK_le3 sub
    have h2 := sizeK_le3 rest
    have h3 : 4 * es.length ≤ (encEs es).length := flat_ge encE_four es
    have h4 := textB_pos key
    have h5 := numB_pos es.length
    have h6 := numB_pos sub.len
    unfold encK sizeK
    simp only [List.length_append]
    omega
theorem sizeT_le3 (es : List Ent) (ks : KidsL) : 3 * sizeT es ks ≤ (encT es ks).length := by
  have h2 := sizeK_le3 ks
  have h3 : 4 * es.length ≤ (encEs es).length := flat_ge encE_four es
  unfold encT sizeT
  simp only [List.length_append]
  omega
theorem encC_ge3 (c : CtxL) : 3 * c.length ≤ (encC c).length := by
  have h3 : 3 * c.length ≤ (encSs c).length := flat_ge encS_three c
  unfold encC
  simp only [List.length_append]
  omega
theorem Ent.bd.fits {B : Lim} (hB : B.Ok) {e : Ent} (h : e.bd B) : e.fits := by
  obtain ⟨h1, h2, h3, h4⟩ := h
  obtain ⟨b1, b2, b3, b4⟩ := hB
  exact ⟨⟨by omega, by omega⟩, ⟨by omega, by omega⟩, ⟨by omega, by omega⟩, by omega⟩
theorem KidsL.bd.ok {B : Lim} (hB : B.Ok) : ∀ {ks : KidsL}, ks.bd B → (encK ks).length ≤ 140737488351232 → ks.Ok
  | .nil, _, _ => trivial
  | .cons key es sub rest, h, hl => by
    have hlim : ((textB key ++ ((numB es.length ++ (encEs es ++ (numB sub.len ++ encK sub))) ++ encK rest)).length) ≤ 140737488351232 := hl
    simp only [List.length_append] at hlim
    have h3 := encT_ge es sub
    have hb := hB.s.2
    exact ⟨by have := h.1; omega, ⟨by omega, fun e he => (h.2.1 e he).fits hB⟩, by omega, KidsL.bd.ok hB h.2.2.1 (by omega), KidsL.bd.ok hB h.2.2.2 (by omega)⟩
theorem GetOk.tr {B : Lim} (hB : B.Ok) {d : Nat} {bs rest : List UInt8} {es : List Ent} {ks : KidsL} (h : GetOk B d bs es ks rest) (hl : bs.length ≤ 140737488351232) : TrOk es ks ∧ 3 * sizeT es ks + rest.length ≤ bs.length := by
  have h1 := sizeT_le3 es ks
  have h2 := encT_ge es ks
  have he := congrArg List.length h.eq
  rw [List.length_append] at he
  have h4 : (encT es ks).length = (numB es.length).length + ((encEs es).length + ((numB ks.len).length + (encK ks).length)) := by unfold encT; simp only [List.length_append]
  exact ⟨⟨⟨by omega, fun e he => (h.ebd e he).fits hB⟩, by omega, h.kbd.ok hB (by omega)⟩, by omega⟩
theorem trOk_nil : TrOk [] .nil := ⟨⟨by simp, fun e he => by cases he⟩, by simp [KidsL.len], trivial⟩
theorem right_nilT : rightT 5 [] .nil = true := by decide
theorem TreeRes.sizes {st s : Option (List UInt8)} {es : List Ent} {ks : KidsL} (h : TreeRes st es ks s) : 3 * sizeT es ks + (leftOf s).length ≤ (leftOf st).length := by
  rcases h with ⟨r, rfl, _, rfl⟩ | ⟨rfl, rfl, rfl, _⟩
  · have := sizeT_le3 es ks
    show _ + r.length ≤ (encT es ks ++ r).length
    rw [List.length_append]; omega
  · have : sizeT [] .nil = 0 := rfl
    rw [this]
    exact Nat.zero_le _
theorem CtxRes.sizes {st s : Option (List UInt8)} {c : CtxL} (h : CtxRes st c s) : 3 * c.length + (leftOf s).length ≤ (leftOf st).length := by
  rcases h with ⟨r, rfl, _, rfl⟩ | ⟨rfl, rfl, _⟩
  · have := encC_ge3 c
    show _ + r.length ≤ (encC c ++ r).length
    rw [List.length_append]; omega
  · exact Nat.zero_le _
end Go.Proofs.YtggfoihfenlckaaGreat
/- pack: GetTree: the walk. -/
namespace Go.Proofs.YtggfoihfenlckaaGreat
open Go.RowKit
theorem pget_ok {es : List Ent} {ks : KidsL} {bs r : List UInt8} (hg : GetOk bdP 5 bs es ks r) (ib : Nat) (w : World) (h : InSt w ib (some bs)) (hl : bs.length ≤ 60000) :
    Calls Tryz.prog 80 #[.pointer (some ⟨ib, 0, none⟩), .int .i64 5] w fun e w' => ∃ ev kv, e = .returned (.agg #[ev, kv]) ∧ TreeAt (fun b => w.heap.size ≤ b) w' ev kv es ks ∧ InSt w' ib (some r) ∧ Frm (Only ib) w w' := by
  refine Calls.mono (pget_any 5 ib (some bs) w (Nat.le_refl _) h hl) fun e w' ⟨ev, kv, es', ks', s, he, ht, hr, hi, hf⟩ => ?_
  rcases hr with ⟨b2, r2, h1, h2, h3⟩ | ⟨_, h2⟩
  · injection h1 with h1
    subst h1 h2
    have e2 : encT es' ks' ++ r2 = encT es ks ++ r := by rw [← h3.eq, ← hg.eq]
    obtain ⟨⟨rfl, rfl⟩, rfl⟩ := encT_pfx e2
    exact ⟨ev, kv, he, ht, hi, hf⟩
  · exact absurd hg (h2 _ _ _ _ rfl)
theorem pget_no {st : Option (List UInt8)} (hg : ∀ bs es ks r, st = some bs → ¬ GetOk bdP 5 bs es ks r) (ib : Nat) (w : World) (h : InSt w ib st) (hl : (leftOf st).length ≤ 60000) :
    Calls Tryz.prog 80 #[.pointer (some ⟨ib, 0, none⟩), .int .i64 5] w fun e w' => ∃ a n c a2 n2 c2, e = .returned (.agg #[.slice a n c, .slice a2 n2 c2]) ∧ InSt w' ib none ∧ Frm (Only ib) w w' := by
  refine Calls.mono (pget_any 5 ib st w (Nat.le_refl _) h hl) fun e w' ⟨ev, kv, es', ks', s, he, ht, hr, hi, hf⟩ => ?_
  obtain ⟨a0, c0, rfl⟩ := ht.ents.rd.sl
  obtain ⟨os, hk, _⟩ := ht.kids
  obtain ⟨a1, c1, rfl⟩ := hk.rd.sl
  rcases hr with ⟨b2, r2, h1, h2, h3⟩ | ⟨rfl, _⟩
  · exact absurd h3 (hg _ _ _ _ h1)
  · exact ⟨_, _, _, _, _, _, he, hi, hf⟩
theorem TreeRes.tr {st s : Option (List UInt8)} {es : List Ent} {ks : KidsL} (h : TreeRes st es ks s) (hl : (leftOf st).length ≤ 60000) : TrOk es ks := by
  rcases h with ⟨r, rfl, hr, rfl⟩ | ⟨rfl, rfl, rfl, _⟩
  · exact ((right_ok wideP hr).tr bdP_ok (Nat.le_trans hl (by decide))).1
  · exact trOk_nil
def TreePost (st : Option (List UInt8)) (ib : Nat) (w : World) (e : Ending) (w' : World) : Prop :=
  ∃ ev kv es ks s, e = .returned (.agg #[ev, kv]) ∧ TreeAt (fun b => w.heap.size ≤ b) w' ev kv es ks ∧ TreeRes st es ks s ∧ InSt w' ib s ∧ Frm (Only ib) w w'
theorem treeOut {Q : Nat → Prop} {w ww w' : World} {ib : Nat} {s : Option (List UInt8)} {e2 k2 : Value} {es2 : List Ent} {ks2 : KidsL} {st : Option (List UInt8)}
    (hin : InSt ww ib s) (hib : ib < w.heap.size) (hf : Frm (Only ib) w ww) (ht : TreeAt Q ww e2 k2 es2 ks2) (hq : ∀ b, Q b → w.heap.size ≤ b ∧ b ≠ w.heap.size) (hts : Frm (fun b => b = w.heap.size) ww w') (hres : TreeRes st es2 ks2 s) :
    TreePost st ib w (.returned (.agg #[e2, k2])) w' :=
  ⟨e2, k2, es2, ks2, s, rfl, ht.turn fun b hb hQ => ⟨hts.block b hb (hq b hQ).2, (hq b hQ).1⟩, hres, hin.keep hts fun j hj hs => by have hs : j = w.heap.size := hs; omega, hf.trans hts fun i hi hs => by have hs : i = w.heap.size := hs; omega⟩
set_option maxHeartbeats 2000000 in
set_option maxRecDepth 1000000 in
theorem pGetTree_any (ib : Nat) (st : Option (List UInt8)) (w : World) (h : InSt w ib st) (hl : (leftOf st).length ≤ 60000) :
    Calls Tryz.prog 28 #[.pointer (some ⟨ib, 0, none⟩)] w (TreePost st ib w) := by
  have hib := h.lt
  have hno : ¬ Only ib w.heap.size := fun h => by have h : w.heap.size = ib := h; omega
  have HNO := Lib.hid hno; clear hno
  have HB0 := Lib.hid (heap_alloc_new w (.cells #[.slice none 0 0, .slice none 0 0] 35))
  have HI0 := Lib.hid (h.keep (Frm.alloc NoS w (.cells #[.slice none 0 0, .slice none 0 0] 35)) fun _ _ => id)
  have HIB := Lib.hid hib; clear hib
  have HF0 := Lib.hid ((Frm.alloc NoS w (.cells #[.slice none 0 0, .slice none 0 0] 35)).mono (T := Only ib) fun _ _ h => h.elim)
  have HS0 := Lib.hid (show (w.alloc (.cells #[.slice none 0 0, .slice none 0 0] 35)).heap.size = w.heap.size + 1 by simp)
  clear h
  by_cases hg : ∃ bs es ks r, st = some bs ∧ GetOk bdP 5 bs es ks r
  · obtain ⟨bs, es, ks, r, rfl, hg⟩ := hg
    have HG := Lib.hid (pget_ok hg ib _ HI0.out hl)
    have hok := (hg.tr bdP_ok (Nat.le_trans hl (by decide))).1
    have HRT := Lib.hid (fun W Q ev kv (h : TreeAt Q W ev kv es ks) => tRight_any Q es ks W ev kv h hok)
    clear hok
    cases hr : rightT 5 es ks with
    | true =>
      rw [hr] at HRT
      have HPOST := Lib.hid (tree_good (B := bdP) (st := some bs) (rest := r) (.inl ⟨bs, r, rfl, rfl, hg⟩) hr)
      clear hr hg
      go_enter Tryz.func28, Tryz.ntmps28
      go_wp2_with (first
        | (go_at_call 80; refine HG.out.mono ?_; rintro e w1 ⟨ev, kv, rfl, hta, hi1, hf1⟩; obtain ⟨a3, c3, rfl⟩ := hta.ents.rd.sl; obtain ⟨os3, hkr3, -⟩ := hta.kids; obtain ⟨a4, c4, rfl⟩ := hkr3.rd.sl; clear hkr3
           have HB1 := Lib.hid (hf1.blk HB0.out HNO.out)
           have HTA := Lib.hid hta; clear hta
           generalize es.length = n at *
           generalize ks.len = m at *
           have HI1 := Lib.hid hi1; clear hi1
           have HF1 := Lib.hid (HF0.out.trans hf1 fun _ _ h => h)
           have hsz1 := hf1.size
           have HSZ1 := Lib.hid hsz1; clear hsz1 hf1
           have HA1 := Lib.hid (Frm.alloc NoS w1 (.cells #[.slice a3 n c3, .slice a4 m c4] 35))
           have HX1 := Lib.hid (heap_alloc_new w1 (.cells #[.slice a3 n c3, .slice a4 m c4] 35)))
        | (go_at_call 17; refine (bad_go ib _ _ (HI1.out.keep HA1.out fun _ _ => id)).mono ?_; rintro e w2 ⟨rfl, rfl⟩)
        | (go_at_call 81; refine (HRT.out _ _ _ _ (HTA.out.keep0 HA1.out)).mono ?_; rintro e w3 ⟨rfl, hf3⟩
           have hx3 := hf3.blk HX1.out id
           have z0 := cell_at' hx3 0 rfl
           have z1 := cell_at' hx3 1 rfl
           have hb3 := hf3.blk (HA1.out.blk HB1.out id) id
           have y0 := cell_at' hb3 0 rfl
           have y1 := cell_at' hb3 1 rfl
           have f0 := free_at' hb3 0
           have f1 := free_at' hb3 1
           have hl2 := lt_of_block hb3
           have hl3 := lt_of_block hx3
           have HB3 := Lib.hid hb3
           have HF3 := Lib.hid (HA1.out.then1 hf3)
           clear hf3 hx3 hb3))
      clear y0 y1 z0 z1
      have y0 := cell_at' (set_at' (set_at' HB3.out 0 (.slice a3 n c3)) 1 (.slice a4 m c4)) 0 rfl
      have y1 := cell_at' (set_at' (set_at' HB3.out 0 (.slice a3 n c3)) 1 (.slice a4 m c4)) 1 rfl
      have hts : Frm (Only w.heap.size) w3 ((w3.setCell ⟨w.heap.size, 0, none⟩ (.slice a3 n c3)).setCell ⟨w.heap.size, 1, none⟩ (.slice a4 m c4)) := two_set _ _ _ _
      exact bodyPost_ret (v := .agg #[.slice a3 n c3, .slice a4 m c4]) (by simp [results, Tryz.results28, go_sem, y0, y1]) rfl (treeOut (HI1.out.keep HF3.out fun _ _ => id) HIB.out (HF1.out.trans HF3.out fun _ _ h => h.elim) (HTA.out.keep0 HF3.out) (fun b h => by have := HS0.out; have h : (w.alloc (.cells #[.slice none 0 0, .slice none 0 0] 35)).heap.size ≤ b := h; omega) hts HPOST.out)
    | false =>
      rw [hr] at HRT
      have HPOST := Lib.hid (tree_wrong (B := bdP) (st := some bs) (rest := r) (.inl ⟨bs, r, rfl, rfl, hg⟩) hr)
      clear hr hg
      go_enter Tryz.func28, Tryz.ntmps28
      go_wp2_with (first
        | (go_at_call 80; refine HG.out.mono ?_; rintro e w1 ⟨ev, kv, rfl, hta, hi1, hf1⟩; obtain ⟨a3, c3, rfl⟩ := hta.ents.rd.sl; obtain ⟨os3, hkr3, -⟩ := hta.kids; obtain ⟨a4, c4, rfl⟩ := hkr3.rd.sl; clear hkr3
           have HB1 := Lib.hid (hf1.blk HB0.out HNO.out)
           have HTA := Lib.hid hta; clear hta
           generalize es.length = n at *
           generalize ks.len = m at *
           have HI1 := Lib.hid hi1; clear hi1
           have HF1 := Lib.hid (HF0.out.trans hf1 fun _ _ h => h)
           clear hf1
           have HA1 := Lib.hid (Frm.alloc NoS w1 (.cells #[.slice a3 n c3, .slice a4 m c4] 35)))
        | (go_at_call 17; refine (bad_go ib _ _ (HI1.out.keep HA1.out fun _ _ => id)).mono ?_; rintro e w2 ⟨rfl, rfl⟩)
        | (go_at_call 81; refine (HRT.out _ _ _ _ (HTA.out.keep0 HA1.out)).mono ?_; rintro e w3 ⟨rfl, hf3⟩; have HF3 := Lib.hid (HA1.out.then1 hf3); clear hf3)
        | (go_at_call 79; obtain ⟨a, c, hh⟩ := (HI1.out.keep HF3.out fun _ _ => id).heap; refine (fail_go ib _ _ w3 hh).mono ?_; rintro e w4 ⟨rfl, hi4, hf4⟩
           have HI4 := Lib.hid (show InSt w4 ib none from hi4); clear hi4 hh
           have hb3 := hf4.blk (HF3.out.blk HB1.out id) HNO.out
           have y0 := cell_at' hb3 0 rfl
           have y1 := cell_at' hb3 1 rfl
           have f0 := free_at' hb3 0
           have f1 := free_at' hb3 1
           have hl2 := lt_of_block hb3
           have HB3 := Lib.hid hb3
           have HF4 := Lib.hid ((HF1.out.trans HF3.out fun _ _ h => h.elim).trans hf4 fun _ _ h => h)
           clear hf4 hb3))
      clear y0 y1
      have y0 := cell_at' (set_at' (set_at' HB3.out 0 (.slice none 0 0)) 1 (.slice none 0 0)) 0 rfl
      have y1 := cell_at' (set_at' (set_at' HB3.out 0 (.slice none 0 0)) 1 (.slice none 0 0)) 1 rfl
      have hts : Frm (Only w.heap.size) w4 ((w4.setCell ⟨w.heap.size, 0, none⟩ (.slice none 0 0)).setCell ⟨w.heap.size, 1, none⟩ (.slice none 0 0)) := two_set _ _ _ _
      exact bodyPost_ret (v := .agg #[.slice none 0 0, .slice none 0 0]) (by simp [results, Tryz.results28, go_sem, y0, y1]) rfl (treeOut HI4.out HIB.out HF4.out (tree_nilQ (fun b => w.heap.size ≤ b ∧ b ≠ w.heap.size) w4) (fun b h => h) hts HPOST.out)
  · have hg' : ∀ bs es ks r, st = some bs → ¬ GetOk bdP 5 bs es ks r := fun bs es ks r h1 h2 => hg ⟨bs, es, ks, r, h1, h2⟩
    have HG := Lib.hid (pget_no hg' ib _ HI0.out hl)
    have HPOST := Lib.hid (tree_bad (B := bdP) (es := []) (ks := .nil) wideP (.inr ⟨rfl, hg'⟩ : GetRes bdP 5 st [] .nil none))
    clear hg hg'
    go_enter Tryz.func28, Tryz.ntmps28
    go_wp2_with (first
      | (go_at_call 80; refine HG.out.mono ?_; rintro e w1 ⟨a3, n, c3, a4, m, c4, rfl, hi1, hf1⟩
         have HB1 := Lib.hid (hf1.blk HB0.out HNO.out)
         have HI1 := Lib.hid hi1; clear hi1
         have HF1 := Lib.hid (HF0.out.trans hf1 fun _ _ h => h)
         clear hf1
         have HA1 := Lib.hid (Frm.alloc NoS w1 (.cells #[.slice a3 n c3, .slice a4 m c4] 35)))
      | (go_at_call 17; refine (bad_go ib _ _ (HI1.out.keep HA1.out fun _ _ => id)).mono ?_; rintro e w2 ⟨rfl, rfl⟩)
      | (go_at_call 79; obtain ⟨a, c, hh⟩ := (HI1.out.keep HA1.out fun _ _ => id).heap; refine (fail_go ib _ _ _ hh).mono ?_; rintro e w4 ⟨rfl, hi4, hf4⟩
         have HI4 := Lib.hid (show InSt w4 ib none from hi4); clear hi4 hh
         have hb3 := hf4.blk (HA1.out.blk HB1.out id) HNO.out
         have y0 := cell_at' hb3 0 rfl
         have y1 := cell_at' hb3 1 rfl
         have f0 := free_at' hb3 0
         have f1 := free_at' hb3 1
         have hl2 := lt_of_block hb3
         have HB3 := Lib.hid hb3
         have HF4 := Lib.hid ((HF1.out.trans HA1.out fun _ _ h => h.elim).trans hf4 fun _ _ h => h)
         clear hf4 hb3))
    clear y0 y1
    have y0 := cell_at' (set_at' (set_at' HB3.out 0 (.slice none 0 0)) 1 (.slice none 0 0)) 0 rfl
    have y1 := cell_at' (set_at' (set_at' HB3.out 0 (.slice none 0 0)) 1 (.slice none 0 0)) 1 rfl
    have hts : Frm (Only w.heap.size) w4 ((w4.setCell ⟨w.heap.size, 0, none⟩ (.slice none 0 0)).setCell ⟨w.heap.size, 1, none⟩ (.slice none 0 0)) := two_set _ _ _ _
    exact bodyPost_ret (v := .agg #[.slice none 0 0, .slice none 0 0]) (by simp [results, Tryz.results28, go_sem, y0, y1]) rfl (treeOut HI4.out HIB.out HF4.out (tree_nilQ (fun b => w.heap.size ≤ b ∧ b ≠ w.heap.size) w4) (fun b h => h) hts HPOST.out)
end Go.Proofs.YtggfoihfenlckaaGreat
/- pack: GetVector: the walk. Printed by wip/vecgen.py. -/
namespace Go.Proofs.YtggfoihfenlckaaGreat
open Go.RowKit
theorem four_set (w : World) (b : Nat) (u0 u1 u2 u3 : Value) : Frm (Only b) w ((((w.setCell ⟨b, 0, none⟩ u0).setCell ⟨b, 1, none⟩ u1).setCell ⟨b, 2, none⟩ u2).setCell ⟨b, 3, none⟩ u3) := ((two_set w b u0 u1).trans (only_set _ b 2 u2) fun _ _ h => h).trans (only_set _ b 3 u3) fun _ _ h => h
end Go.Proofs.YtggfoihfenlckaaGreat
/- pack: GetOp: the walk. Printed by wip/getopgen.py. -/
namespace Go.Proofs.YtggfoihfenlckaaGreat
open Go.RowKit
end Go.Proofs.YtggfoihfenlckaaGreat
/- What is put into an Out, one thing behind the other: the calculus. -/
namespace Go.Proofs.YtggfoihfenlckaaGreat
open Go.RowKit
/-- So much is put since w: cs behind bs. -/
def Put1 (w : World) (ob : Nat) (v : Value) (bs cs : List UInt8) (ww : World) : Prop :=
  ∃ v', OutAt ww ob v' (bs ++ cs) ∧ Fresh w v v' ∧ Frm (OutS ob v) w ww
variable {w ww w' : World} {ob : Nat} {v : Value} {bs cs ds : List UInt8}
theorem Put1.start (h : OutAt w ob v bs) : Put1 w ob v bs [] w := ⟨v, by rwa [List.append_nil], Fresh.refl _ _, Frm.refl _ _⟩
theorem OutAt.keep0 (h : OutAt w ob v bs) (f : Frm NoS w w') : OutAt w' ob v bs := h.keep f id fun _ _ => id
theorem Put1.keep0 (h : Put1 w ob v bs cs ww) (f : Frm NoS ww w') : Put1 w ob v bs cs w' := by
  obtain ⟨v', h1, h2, h3⟩ := h
  exact ⟨v', h1.keep0 f, h2, h3.then1 f⟩
theorem Put1.base (h : Put1 ww ob v bs cs w') (f : Frm NoS w ww) : Put1 w ob v bs cs w' := by
  obtain ⟨v', h1, h2, h3⟩ := h
  exact ⟨v', h1, Fresh.trans (Fresh.refl w v) f.size h2, (f.mono (T := OutS ob v) fun _ _ h => h.elim).trans h3 fun _ _ h => h⟩
theorem Put1.cast {cs' : List UInt8} (h : Put1 w ob v bs cs w') (e : cs = cs') : Put1 w ob v bs cs' w' := e ▸ h
theorem Put1.trans {v' : Value} (h2 : Fresh w v v') (h3 : Frm (OutS ob v) w ww) (k : Put1 ww ob v' (bs ++ cs) ds w') : Put1 w ob v bs (cs ++ ds) w' := by
  obtain ⟨v2, k1, k2, k3⟩ := k
  exact ⟨v2, by rw [← List.append_assoc]; exact k1, h2.trans h3.size k2, h3.trans k3 (outS_fresh h2)⟩
theorem Put1.call {f : FuncId} {args : Array Value} {E : Ending} (h : Put1 w ob v bs cs ww)
    (k : ∀ v', OutAt ww ob v' (bs ++ cs) → (∀ b, b < w.heap.size → OutS ob v' b → OutS ob v b) → Frm (OutS ob v) w ww → Calls Tryz.prog f args ww fun e w' => e = E ∧ Put1 ww ob v' (bs ++ cs) ds w') :
    Calls Tryz.prog f args ww fun e w' => e = E ∧ Put1 w ob v bs (cs ++ ds) w' := by
  obtain ⟨v', h1, h2, h3⟩ := h
  exact (k v' h1 (outS_fresh h2) h3).mono fun e w' ⟨he, hp⟩ => ⟨he, Put1.trans h2 h3 hp⟩
theorem outS_lt (h : OutAt w ob v bs) : ∀ b, OutS ob v b → b < w.heap.size := fun b hb => by
  rcases hb with hb | hb
  · rw [hb]; exact lt_of_block h.cell
  · exact own_lt h.own b hb
/-- A box that was made ahead of it stands. -/
theorem Put1.cell {ww' : World} {p : Addr} {u : Value} (h : Put1 ww ob v bs cs ww') (hu : ww.cell? p = some u) (hn : ¬ OutS ob v p.block) : ww'.cell? p = some u := by
  obtain ⟨_, _, _, f⟩ := h
  exact f.cell' hu hn
theorem putNum (h : Put1 w ob v bs cs ww) (x : Int) (hx : inR x) (hl : bs.length + cs.length ≤ 95000000) :
    Calls Tryz.prog 95 #[.pointer (some ⟨ob, 0, none⟩), .int .i64 x] ww fun e w' => e = .returned (.tuple #[]) ∧ Put1 w ob v bs (cs ++ numB x) w' :=
  h.call fun v' ho _ _ => num_go ob x ww v' _ ho hx.1 hx.2 (by rw [List.length_append]; omega)
theorem putText (h : Put1 w ob v bs cs ww) (s : ByteArray) (hl : bs.length + cs.length + s.size ≤ 95000000) :
    Calls Tryz.prog 116 #[.pointer (some ⟨ob, 0, none⟩), .string s] ww fun e w' => e = .returned (.tuple #[]) ∧ Put1 w ob v bs (cs ++ textB s) w' :=
  h.call fun v' ho _ _ => text_go ob s ww v' _ ho (by rw [List.length_append]; omega)
theorem RdQ.put {Q : Nat → Prop} {u : Value} {n : Nat} {xs : List Value} (h : RdQ Q w u n xs) (hq : ∀ b, OutS ob v b → ¬ Q b) (hp : Put1 w ob v bs cs ww) : Rd ww u n xs := by
  obtain ⟨_, _, _, f⟩ := hp
  exact (h.keep f fun b _ hs => hq b hs).rd
end Go.Proofs.YtggfoihfenlckaaGreat
/- pack: PutOp: the walk. -/
namespace Go.Proofs.YtggfoihfenlckaaGreat
open Go.RowKit
theorem encP_snoc {ss : List ByteArray} {k : Nat} (h : k < ss.length) : encP (ss.take (k + 1)) = encP (ss.take k) ++ textB (ss.getD k ByteArray.empty) := by
  rw [take_succ ByteArray.empty h]
  unfold encP
  rw [List.flatMap_append]
  simp
theorem encP_le {ss : List ByteArray} (h : ∀ x ∈ ss, x.size ≤ 30) (k : Nat) : (encP (ss.take k)).length ≤ 40 * k := by
  have h1 : (encP (ss.take k)).length ≤ 40 * (ss.take k).length := flat_le fun s hs => by
    have hb := h s (List.mem_of_mem_take hs)
    have := numB_le10 (v := (s.size : Int)) (by omega) (by omega)
    have h6 : s.data.toList.length = s.size := Array.length_toList
    unfold textB
    rw [List.length_append]; omega
  have := List.length_take_le k ss
  exact Nat.le_trans h1 (Nat.mul_le_mul_left _ this)
set_option maxHeartbeats 4000000 in
set_option maxRecDepth 1000000 in
theorem pPutOp_yes (Q : Nat → Prop) (ob : Nat) (w : World) (v : Value) (bs : List UInt8) (pv : Value) (ss : List ByteArray) (a n : Int) (s : ByteArray) (ho : OutAt w ob v bs) (hc : RdQ Q w pv ss.length (ss.map Value.string)) (hq : ∀ b, OutS ob v b → ¬ Q b) (hl : ss.length ≤ 100000) (hb : bs.length ≤ 80000000) (hr : opB ss a s n = true) :
    Calls Tryz.prog 57 #[.pointer (some ⟨ob, 0, none⟩), .agg #[pv, .int .i64 a, .string s, .int .i64 n]] w fun e w' => e = .returned (.tuple #[]) ∧ Put1 w ob v bs (encO ss a s n) w' := by
  obtain ⟨⟨b1, b3⟩, bx, ba, bsz, bn⟩ := opB_bd hr
  have HRT := Lib.hid (fun W (f : Frm NoS w W) => hr ▸ opRight_any ss a n s W pv (Rd.keep0 hc.rd f) hl)
  obtain ⟨aA, cA, rfl⟩ := Rd.sl hc.rd
  have hno : ¬ OutS ob v w.heap.size := fun h => by have := outS_lt ho _ h; omega
  have hal : Frm NoS w (w.alloc (.cells #[.slice aA ss.length cA, .int .i64 a, .string s, .int .i64 n] 40)) := Frm.alloc _ _ _
  have hbx := heap_alloc_new w (.cells #[.slice aA ss.length cA, .int .i64 a, .string s, .int .i64 n] 40)
  have HPS := Lib.hid (fun W (f : Frm NoS (w.alloc (.cells #[.slice aA ss.length cA, .int .i64 a, .string s, .int .i64 n] 40)) W) => (Put1.start (ho.keep0 hal)).keep0 f)
  have HCL := Lib.hid (fun cs W (hp : Put1 (w.alloc (.cells #[.slice aA ss.length cA, .int .i64 a, .string s, .int .i64 n] 40)) ob v bs cs W) => (⟨hp.cell (cell_at' hbx 0 rfl) hno, hp.cell (cell_at' hbx 1 rfl) hno, hp.cell (cell_at' hbx 2 rfl) hno, hp.cell (cell_at' hbx 3 rfl) hno⟩ :
    W.cell? ⟨w.heap.size, 0, none⟩ = some (.slice aA ss.length cA) ∧ W.cell? ⟨w.heap.size, 1, none⟩ = some (.int .i64 a) ∧ W.cell? ⟨w.heap.size, 2, none⟩ = some (.string s) ∧ W.cell? ⟨w.heap.size, 3, none⟩ = some (.int .i64 n)))
  have HRD := Lib.hid (fun cs W (hp : Put1 (w.alloc (.cells #[.slice aA ss.length cA, .int .i64 a, .string s, .int .i64 n] 40)) ob v bs cs W) => RdQ.put (hc.keep hal fun _ _ s => s.elim) hq hp)
  have HAL := Lib.hid hal; clear hal hbx hno
  have HE := Lib.hid (encP_le bx)
  have HBX := Lib.hid bx; clear bx
  have HFIN := Lib.hid (show numB ss.length ++ encP (ss.take ss.length) ++ numB a ++ textB s ++ numB n = encO ss a s n by unfold encO; rw [List.take_length]; simp only [List.append_assoc])
  have hn10 : (numB (ss.length : Int)).length ≤ 10 := numN_le (by omega)
  clear hc hq ho hr
  generalize hnn : ss.length = l at *
  have HN := Lib.hid hnn; clear hnn
  have ha10 := numB_le10 (v := a) (by omega) (by omega)
  have hs40 : (textB s).length ≤ 40 := by
    have := numB_le10 (v := (s.size : Int)) (by omega) (by omega)
    have h6 : s.data.toList.length = s.size := Array.length_toList
    unfold textB
    rw [List.length_append]; omega
  have HN10 := Lib.hid hn10; clear hn10
  have HA10 := Lib.hid ha10; clear ha10
  have HS40 := Lib.hid hs40; clear hs40
  go_enter Tryz.func57, Tryz.ntmps57
  go_wp2_with (first
    | (go_at_call 84; go_loud (refine (HRT.out _ HAL.out).mono ?_); rintro e w1 ⟨rfl, hw1⟩; have hp0 := HPS.out w1 hw1; obtain ⟨y0, y1, y2, y3⟩ := HCL.out _ w1 hp0; have yl := World.block_lt_of_cell? _ _ y0; have HP0 := Lib.hid hp0; clear hw1 hp0)
    | (go_at_call 95; go_loud (refine (putNum HP0.out l ⟨by omega, by omega⟩ (by simp only [List.length_nil]; omega)).mono ?_); rintro e w2 ⟨rfl, hp⟩; clear y0 y1 y2 y3 yl; obtain ⟨y0, y1, y2, y3⟩ := HCL.out _ w2 hp; have yl := World.block_lt_of_cell? _ _ y0; have HP := Lib.hid hp; clear hp))
  go_loopw [18] (fun i ww => ∃ k : Nat, k ≤ l ∧ i = .int .i64 k ∧ Put1 (w.alloc (.cells #[.slice aA l cA, .int .i64 a, .string s, .int .i64 n] 40)) ob v bs (numB l ++ encP (ss.take k)) ww) (fun i _ => l - (intOf i).toNat)
  case atStart => exact ⟨0, Nat.zero_le _, rfl, HP.out.cast (by simp [encP])⟩
  case round =>
    clear y0 y1 y2 y3 yl
    obtain ⟨k, hk, rfl, hp⟩ := hrel
    have HP1 := Lib.hid hp; clear hp
    by_cases hlt : k < l
    · have hlk : k < ss.length := by rw [HN.out]; exact hlt
      have hrd := HRD.out _ wr HP1.out
      rcases Rd.shape hrd with ⟨ad, he, h0⟩ | ⟨b, off, cc, he, hmax⟩
      · exfalso; omega
      · injection he with e1 e2 e3
        subst e1 e3
        clear e2
        have q0 := str_at hrd k hlk
        clear hrd
        have HST := Lib.hid (encP_snoc hlk)
        have hx := HBX.out _ (getD_mem ByteArray.empty hlk)
        have HEk := Lib.hid (HE.out k)
        generalize ss.getD k ByteArray.empty = x at *
        go_wp2_with (go_at_call 116; go_loud (refine (putText HP1.out x (by have h1 := HEk.out; have h2 := HN10.out; simp only [List.length_append]; omega)).mono ?_); rintro e w5 ⟨rfl, hp5⟩; have HP5 := Lib.hid hp5; clear hp5)
        go_roundw
        case rel => exact ⟨k + 1, by omega, by go_num, HP5.out.cast (by rw [HST.out]; simp only [List.append_assoc])⟩
        case measure => simp [intOf]; omega
    · obtain rfl : l = k := by omega
      obtain ⟨y0, y1, y2, y3⟩ := HCL.out _ wr HP1.out
      have yl := World.block_lt_of_cell? _ _ y0
      have HEk := Lib.hid (HE.out l)
      go_wp2_with (first
        | (go_at_call 116; go_loud (refine (putText HP6.out s (by have h1 := HEk.out; have h2 := HN10.out; have h3 := HA10.out; simp only [List.length_append]; omega)).mono ?_); rintro e w7 ⟨rfl, hp⟩; clear y0 y1 y2 y3 yl; obtain ⟨y0, y1, y2, y3⟩ := HCL.out _ w7 hp; have yl := World.block_lt_of_cell? _ _ y0; have HP7 := Lib.hid hp; clear hp)
        | (go_at_call 95; first
          | (have q9 := HP7; go_loud (refine (putNum HP7.out n ⟨by omega, by omega⟩ (by have h1 := HEk.out; have h2 := HN10.out; have h3 := HA10.out; have h4 := HS40.out; simp only [List.length_append]; omega)).mono ?_); rintro e w8 ⟨rfl, hp⟩; have HP8 := Lib.hid hp; clear hp q9)
          | (go_loud (refine (putNum HP1.out a ⟨by omega, by omega⟩ (by have h1 := HEk.out; have h2 := HN10.out; simp only [List.length_append]; omega)).mono ?_); rintro e w6 ⟨rfl, hp⟩; clear y0 y1 y2 y3 yl; obtain ⟨y0, y1, y2, y3⟩ := HCL.out _ w6 hp; have yl := World.block_lt_of_cell? _ _ y0; have HP6 := Lib.hid hp; clear hp)))
      go_end0
      exact ⟨rfl, (HP8.out.base HAL.out).cast HFIN.out⟩
set_option maxHeartbeats 4000000 in
set_option maxRecDepth 1000000 in
theorem pPutOp_no (Q : Nat → Prop) (ob : Nat) (w : World) (v : Value) (bs : List UInt8) (pv : Value) (ss : List ByteArray) (a n : Int) (s : ByteArray) (ho : OutAt w ob v bs) (hc : RdQ Q w pv ss.length (ss.map Value.string)) (hl : ss.length ≤ 100000) (hb : bs.length ≤ 80000000) (hr : opB ss a s n = false) :
    Calls Tryz.prog 57 #[.pointer (some ⟨ob, 0, none⟩), .agg #[pv, .int .i64 a, .string s, .int .i64 n]] w fun e w' => e = .returned (.tuple #[]) ∧ Put1 w ob v bs (encO [] 0 ByteArray.empty 0) w' := by
  have HRT := Lib.hid (fun W (f : Frm NoS w W) => hr ▸ opRight_any ss a n s W pv (Rd.keep0 hc.rd f) hl)
  obtain ⟨aA, cA, rfl⟩ := Rd.sl hc.rd
  clear hc hr
  generalize ss.length = l at *
  have hal : Frm NoS w (w.alloc (.cells #[.slice aA l cA, .int .i64 a, .string s, .int .i64 n] 40)) := Frm.alloc _ _ _
  have hbx := heap_alloc_new w (.cells #[.slice aA l cA, .int .i64 a, .string s, .int .i64 n] 40)
  have hno : ¬ OutS ob v w.heap.size := fun h => by have := outS_lt ho _ h; omega
  have HNO := Lib.hid hno; clear hno
  have HBX := Lib.hid hbx; clear hbx
  have HAL := Lib.hid hal; clear hal
  have HO := Lib.hid ho; clear ho
  have e0 : (numB 0).length = 1 := by unfold numB; rw [show zz 0 = 0 from rfl, vl_small (by omega)]; rfl
  have HE0 := Lib.hid e0; clear e0
  have HFIN := Lib.hid (show numB 0 ++ numB 0 ++ textB ByteArray.empty ++ numB 0 = encO [] 0 ByteArray.empty 0 by unfold encO encP; simp [List.append_assoc])
  have HET := Lib.hid (show (textB ByteArray.empty).length = 1 by
    unfold textB
    rw [List.length_append, show ((ByteArray.empty.size : Nat) : Int) = 0 from rfl, HE0.out]
    rfl)
  have HFC := Lib.hid (fun (W : World) (hb : W.heap[w.heap.size]? = some (.cells #[.slice none 0 0, .int .i64 0, .string ⟨#[]⟩, .int .i64 0] 40 (0, 0))) => (⟨cell_at' hb 0 rfl, cell_at' hb 1 rfl, cell_at' hb 2 rfl, cell_at' hb 3 rfl, lt_of_block hb⟩ : W.cell? ⟨w.heap.size, 0, none⟩ = some (.slice none 0 0) ∧ W.cell? ⟨w.heap.size, 1, none⟩ = some (.int .i64 0) ∧ W.cell? ⟨w.heap.size, 2, none⟩ = some (.string ⟨#[]⟩) ∧ W.cell? ⟨w.heap.size, 3, none⟩ = some (.int .i64 0) ∧ w.heap.size < W.heap.size))
  go_enter Tryz.func57, Tryz.ntmps57
  go_wp2_with (first
    | (go_at_call 84; go_loud (refine (HRT.out _ HAL.out).mono ?_); rintro e w1 ⟨rfl, hw1⟩; have hb1 := hw1.blk HBX.out id; have y0 := cell_at' hb1 0 rfl; have y1 := cell_at' hb1 1 rfl; have y2 := cell_at' hb1 2 rfl; have y3 := cell_at' hb1 3 rfl; have f0 := free_at' hb1 0; have f1 := free_at' hb1 1; have f2 := free_at' hb1 2; have f3 := free_at' hb1 3; have yl := lt_of_block hb1; have HB1 := Lib.hid hb1; have HW1 := Lib.hid (HAL.out.then1 hw1); clear hw1 hb1)
    | (go_at_call 95;
       obtain ⟨W2, hW2⟩ : ∃ W, W = (((w1.setCell ⟨w.heap.size, 0, none⟩ (.slice none 0 0)).setCell ⟨w.heap.size, 1, none⟩ (.int .i64 0)).setCell ⟨w.heap.size, 2, none⟩ (.string ⟨#[]⟩)).setCell ⟨w.heap.size, 3, none⟩ (.int .i64 0) := ⟨_, rfl⟩
       rw [← hW2]
       have hb2 : W2.heap[w.heap.size]? = some (.cells #[.slice none 0 0, .int .i64 0, .string ⟨#[]⟩, .int .i64 0] 40 (0, 0)) := by rw [hW2]; exact set_at' (set_at' (set_at' (set_at' HB1.out 0 _) 1 _) 2 _) 3 _
       have hf2 : Frm NoS w W2 := by rw [hW2]; exact HW1.out.trans (four_set w1 w.heap.size _ _ _ _) fun i hi e => by have e : i = w.heap.size := e; omega
       have HB2 := Lib.hid hb2
       have HW2 := Lib.hid hf2
       go_loud (refine (putNum (Put1.start (HO.out.keep0 hf2)) 0 ⟨by omega, by omega⟩ (by simp only [List.length_nil]; omega)).mono ?_); rintro e w2 ⟨rfl, hp⟩
       have hb3 : w2.heap[w.heap.size]? = some (.cells #[.slice none 0 0, .int .i64 0, .string ⟨#[]⟩, .int .i64 0] 40 (0, 0)) := by obtain ⟨_, _, _, f⟩ := hp; exact f.blk HB2.out HNO.out
       clear y0 y1 y2 y3 f0 f1 f2 f3 yl
       obtain ⟨y0, y1, y2, y3, yl⟩ := HFC.out w2 hb3
       have HP := Lib.hid hp; clear hp hb2 hb3 hf2 hW2))
  go_loopw [18] (fun i ww => i = .int .i64 0 ∧ ww = w2) (fun i _ => 0)
  case atStart => exact ⟨rfl, rfl⟩
  case round =>
    obtain ⟨rfl, rfl⟩ := hrel
    have HBK := Lib.hid (fun cs W (hp : Put1 W2 ob v bs cs W) => HFC.out W (by obtain ⟨_, _, _, f⟩ := hp; exact f.blk HB2.out HNO.out))
    go_wp2_with (first
      | (go_at_call 116; go_loud (refine (putText HP6.out ByteArray.empty (by have h1 := HE0.out; have h2 : ByteArray.empty.size = 0 := rfl; simp only [List.length_append, List.nil_append]; omega)).mono ?_); rintro e w7 ⟨rfl, hp⟩; clear y0 y1 y2 y3 yl; obtain ⟨y0, y1, y2, y3, yl⟩ := HBK.out _ w7 hp; have HP7 := Lib.hid hp; clear hp)
      | (go_at_call 95; first
        | (have q9 := HP7; go_loud (refine (putNum HP7.out 0 ⟨by omega, by omega⟩ (by have h1 := HE0.out; have h2 := HET.out; simp only [List.length_append, List.nil_append]; omega)).mono ?_); rintro e w8 ⟨rfl, hp⟩; have HP8 := Lib.hid hp; clear hp q9)
        | (go_loud (refine (putNum HP.out 0 ⟨by omega, by omega⟩ (by have h1 := HE0.out; simp only [List.length_append, List.nil_append]; omega)).mono ?_); rintro e w6 ⟨rfl, hp⟩; clear y0 y1 y2 y3 yl; obtain ⟨y0, y1, y2, y3, yl⟩ := HBK.out _ w6 hp; have HP6 := Lib.hid hp; clear hp)))
    go_end0
    exact ⟨rfl, (HP8.out.base HW2.out).cast (by rw [← HFIN.out]; simp only [List.nil_append])⟩
end Go.Proofs.YtggfoihfenlckaaGreat
/- pack: PutVector: the walk. Printed by wip/putvecgen.py. -/
namespace Go.Proofs.YtggfoihfenlckaaGreat
open Go.RowKit
theorem vec_index (v0 v1 v2 v3 : Int) : (∀ W, (Instr.index 42 (.agg #[.int .i64 v0, .int .i64 v1, .int .i64 v2, .int .i64 v3]) (.int .i64 0)).run Tryz.prog W = .ok (.int .i64 v0) W) ∧ (∀ W, (Instr.index 42 (.agg #[.int .i64 v0, .int .i64 v1, .int .i64 v2, .int .i64 v3]) (.int .i64 1)).run Tryz.prog W = .ok (.int .i64 v1) W) ∧
    (∀ W, (Instr.index 42 (.agg #[.int .i64 v0, .int .i64 v1, .int .i64 v2, .int .i64 v3]) (.int .i64 2)).run Tryz.prog W = .ok (.int .i64 v2) W) ∧ ∀ W, (Instr.index 42 (.agg #[.int .i64 v0, .int .i64 v1, .int .i64 v2, .int .i64 v3]) (.int .i64 3)).run Tryz.prog W = .ok (.int .i64 v3) W :=
  ⟨fun _ => by kernel_rfl, fun _ => by kernel_rfl, fun _ => by kernel_rfl, fun _ => by kernel_rfl⟩
set_option maxHeartbeats 4000000 in
set_option maxRecDepth 1000000 in
theorem pPutVector_any (ob : Nat) (w : World) (v : Value) (bs : List UInt8) (v0 v1 v2 v3 : Int) (ho : OutAt w ob v bs) (hb : bs.length ≤ 80000000) :
    Calls Tryz.prog 59 #[.pointer (some ⟨ob, 0, none⟩), .agg #[.int .i64 v0, .int .i64 v1, .int .i64 v2, .int .i64 v3]] w fun e w' => e = .returned (.tuple #[]) ∧ (MayV (vecF v0 v1 v2 v3) → Put1 w ob v bs (encV v0 v1 v2 v3) w') ∧ (¬ MayV (vecF v0 v1 v2 v3) → Put1 w ob v bs (encV 0 0 0 0) w') := by
  have HFU := Lib.hid (fun W => cFull_any W v0 v1 v2 v3)
  unfold vecV at HFU
  have hal : Frm NoS w (w.alloc (.cells #[.int .i64 v0, .int .i64 v1, .int .i64 v2, .int .i64 v3] 42)) := Frm.alloc _ _ _
  have HBX := Lib.hid (heap_alloc_new w (.cells #[.int .i64 v0, .int .i64 v1, .int .i64 v2, .int .i64 v3] 42))
  have HNO := Lib.hid (show ¬ OutS ob v w.heap.size from fun h => by have := outS_lt ho _ h; omega)
  have HPS := Lib.hid (fun W (f : Frm NoS (w.alloc (.cells #[.int .i64 v0, .int .i64 v1, .int .i64 v2, .int .i64 v3] 42)) W) => (Put1.start (ho.keep0 hal)).keep0 f)
  have HO := Lib.hid ho; clear ho
  have HAL := Lib.hid hal; clear hal
  by_cases hm : MayV (vecF v0 v1 v2 v3)
  · obtain ⟨i0, i1, i2, i3⟩ := vec_index v0 v1 v2 v3
    have hbd := mayV4 hm
    have HB := Lib.hid (show inR v0 ∧ inR v1 ∧ inR v2 ∧ inR v3 ∧ True from ⟨⟨by omega, by omega⟩, ⟨by omega, by omega⟩, ⟨by omega, by omega⟩, ⟨by omega, by omega⟩, trivial⟩)
    have HIN0 := Lib.hid HB.out.1
    have HIN1 := Lib.hid HB.out.2.1
    have HIN2 := Lib.hid HB.out.2.2.1
    have HIN3 := Lib.hid HB.out.2.2.2.1
    have HL0 := Lib.hid (show (numB v0).length ≤ 10 from numB_le10 (by omega) (by omega))
    have HL1 := Lib.hid (show (numB v1).length ≤ 10 from numB_le10 (by omega) (by omega))
    have HL2 := Lib.hid (show (numB v2).length ≤ 10 from numB_le10 (by omega) (by omega))
    have HM := Lib.hid hm; clear hm hbd
    go_enter Tryz.func59, Tryz.ntmps59
    go_wp2_with (go_at_call 85; go_loud (refine (HFU.out _).mono ?_); rintro e w1 ⟨hf1, h1, -⟩; obtain ⟨u', he, hown, -⟩ := h1 HM.out; subst he; obtain ⟨aF, cF, rfl⟩ := hown.rd.sl; clear hown h1; generalize (fullL (vecF v0 v1 v2 v3)).length = nF at *; have hb1 := hf1.blk HBX.out id; have y0 := cell_at' hb1 0 rfl; have y1 := cell_at' hb1 1 rfl; have y2 := cell_at' hb1 2 rfl; have y3 := cell_at' hb1 3 rfl; have yl := lt_of_block hb1; have HP0 := Lib.hid (HPS.out w1 hf1); clear hf1 hb1)
    clear y0 y1 y2 y3 yl
    go_loopw [17] (fun i ww => ∃ (k : Nat) (cs : List UInt8), ((k = 0 ∧ cs = []) ∨ (k = 1 ∧ cs = numB v0) ∨ (k = 2 ∧ cs = numB v0 ++ numB v1) ∨ (k = 3 ∧ cs = numB v0 ++ numB v1 ++ numB v2) ∨ (k = 4 ∧ cs = numB v0 ++ numB v1 ++ numB v2 ++ numB v3)) ∧ i = .int .i64 k ∧ Put1 (w.alloc (.cells #[.int .i64 v0, .int .i64 v1, .int .i64 v2, .int .i64 v3] 42)) ob v bs cs ww) (fun i _ => 4 - (intOf i).toNat)
    case atStart => exact ⟨0, [], .inl ⟨rfl, rfl⟩, rfl, HP0.out⟩
    case round =>
      obtain ⟨k, cs, hcase, rfl, hp⟩ := hrel
      have HP := Lib.hid hp; clear hp
      rcases hcase with ⟨rfl, rfl⟩ | ⟨rfl, rfl⟩ | ⟨rfl, rfl⟩ | ⟨rfl, rfl⟩ | ⟨rfl, rfl⟩
      · go_wp2_with (go_at_call 95; go_loud (refine (putNum HP.out v0 (by first | exact HIN0.out | exact ⟨by omega, by omega⟩) (by have h0 := HL0.out; have h1 := HL1.out; have h2 := HL2.out; (try simp only [List.length_append, List.length_nil]); omega)).mono ?_); rintro e w5 ⟨rfl, hp5⟩; have HP5 := Lib.hid hp5; clear hp5)
        go_roundw
        case rel => exact ⟨1, _, .inr (.inl ⟨rfl, rfl⟩), by go_num, HP5.out.cast (by rw [List.nil_append])⟩
        case measure => simp [intOf]
      · go_wp2_with (go_at_call 95; go_loud (refine (putNum HP.out v1 (by first | exact HIN1.out | exact ⟨by omega, by omega⟩) (by have h0 := HL0.out; have h1 := HL1.out; have h2 := HL2.out; (try simp only [List.length_append, List.length_nil]); omega)).mono ?_); rintro e w5 ⟨rfl, hp5⟩; have HP5 := Lib.hid hp5; clear hp5)
        go_roundw
        case rel => exact ⟨2, _, .inr (.inr (.inl ⟨rfl, rfl⟩)), by go_num, HP5.out⟩
        case measure => simp [intOf]
      · go_wp2_with (go_at_call 95; go_loud (refine (putNum HP.out v2 (by first | exact HIN2.out | exact ⟨by omega, by omega⟩) (by have h0 := HL0.out; have h1 := HL1.out; have h2 := HL2.out; (try simp only [List.length_append, List.length_nil]); omega)).mono ?_); rintro e w5 ⟨rfl, hp5⟩; have HP5 := Lib.hid hp5; clear hp5)
        go_roundw
        case rel => exact ⟨3, _, .inr (.inr (.inr (.inl ⟨rfl, rfl⟩))), by go_num, HP5.out⟩
        case measure => simp [intOf]
      · go_wp2_with (go_at_call 95; go_loud (refine (putNum HP.out v3 (by first | exact HIN3.out | exact ⟨by omega, by omega⟩) (by have h0 := HL0.out; have h1 := HL1.out; have h2 := HL2.out; (try simp only [List.length_append, List.length_nil]); omega)).mono ?_); rintro e w5 ⟨rfl, hp5⟩; have HP5 := Lib.hid hp5; clear hp5)
        go_roundw
        case rel => exact ⟨4, _, .inr (.inr (.inr (.inr (⟨rfl, rfl⟩)))), by go_num, HP5.out⟩
        case measure => simp [intOf]
      · go_wp2
        go_end0
        exact ⟨rfl, fun _ => (HP.out.base HAL.out).cast (by unfold encV; simp only [List.append_assoc]), fun h => absurd HM.out h⟩
  · obtain ⟨i0, i1, i2, i3⟩ := vec_index 0 0 0 0
    have HL0 := Lib.hid (show (numB 0).length ≤ 10 from numB_le10 (by omega) (by omega))
    have HL1 := Lib.hid (show (numB 0).length ≤ 10 from numB_le10 (by omega) (by omega))
    have HL2 := Lib.hid (show (numB 0).length ≤ 10 from numB_le10 (by omega) (by omega))
    have HM := Lib.hid hm; clear hm
    go_enter Tryz.func59, Tryz.ntmps59
    go_wp2_with (go_at_call 85; go_loud (refine (HFU.out _).mono ?_); rintro e w1 ⟨hf1, -, h1⟩; have he := h1 HM.out; subst he; clear h1; have hb1 := hf1.blk HBX.out id; have y0 := cell_at' hb1 0 rfl; have y1 := cell_at' hb1 1 rfl; have y2 := cell_at' hb1 2 rfl; have y3 := cell_at' hb1 3 rfl; have f0 := free_at' hb1 0; have f1 := free_at' hb1 1; have f2 := free_at' hb1 2; have f3 := free_at' hb1 3; have yl := lt_of_block hb1; have HW1 := Lib.hid (HAL.out.then1 hf1); clear hf1 hb1)
    have hw2 : Frm NoS w ((((w1.setCell ⟨w.heap.size, 0, none⟩ (.int .i64 0)).setCell ⟨w.heap.size, 1, none⟩ (.int .i64 0)).setCell ⟨w.heap.size, 2, none⟩ (.int .i64 0)).setCell ⟨w.heap.size, 3, none⟩ (.int .i64 0)) := HW1.out.trans (four_set w1 w.heap.size _ _ _ _) fun i hi e => by have e : i = w.heap.size := e; omega
    clear y0 y1 y2 y3 f0 f1 f2 f3 yl
    generalize (((w1.setCell ⟨w.heap.size, 0, none⟩ (.int .i64 0)).setCell ⟨w.heap.size, 1, none⟩ (.int .i64 0)).setCell ⟨w.heap.size, 2, none⟩ (.int .i64 0)).setCell ⟨w.heap.size, 3, none⟩ (.int .i64 0) = W2 at *
    have HW2 := Lib.hid hw2
    have HP0 := Lib.hid (Put1.start (HO.out.keep0 hw2)); clear hw2
    go_loopw [17] (fun i ww => ∃ (k : Nat) (cs : List UInt8), ((k = 0 ∧ cs = []) ∨ (k = 1 ∧ cs = numB 0) ∨ (k = 2 ∧ cs = numB 0 ++ numB 0) ∨ (k = 3 ∧ cs = numB 0 ++ numB 0 ++ numB 0) ∨ (k = 4 ∧ cs = numB 0 ++ numB 0 ++ numB 0 ++ numB 0)) ∧ i = .int .i64 k ∧ Put1 W2 ob v bs cs ww) (fun i _ => 4 - (intOf i).toNat)
    case atStart => exact ⟨0, [], .inl ⟨rfl, rfl⟩, rfl, HP0.out⟩
    case round =>
      obtain ⟨k, cs, hcase, rfl, hp⟩ := hrel
      have HP := Lib.hid hp; clear hp
      rcases hcase with ⟨rfl, rfl⟩ | ⟨rfl, rfl⟩ | ⟨rfl, rfl⟩ | ⟨rfl, rfl⟩ | ⟨rfl, rfl⟩
      · go_wp2_with (go_at_call 95; go_loud (refine (putNum HP.out 0 (by first | exact HIN0.out | exact ⟨by omega, by omega⟩) (by have h0 := HL0.out; have h1 := HL1.out; have h2 := HL2.out; (try simp only [List.length_append, List.length_nil]); omega)).mono ?_); rintro e w5 ⟨rfl, hp5⟩; have HP5 := Lib.hid hp5; clear hp5)
        go_roundw
        case rel => exact ⟨1, _, .inr (.inl ⟨rfl, rfl⟩), by go_num, HP5.out.cast (by rw [List.nil_append])⟩
        case measure => simp [intOf]
      · go_wp2_with (go_at_call 95; go_loud (refine (putNum HP.out 0 (by first | exact HIN1.out | exact ⟨by omega, by omega⟩) (by have h0 := HL0.out; have h1 := HL1.out; have h2 := HL2.out; (try simp only [List.length_append, List.length_nil]); omega)).mono ?_); rintro e w5 ⟨rfl, hp5⟩; have HP5 := Lib.hid hp5; clear hp5)
        go_roundw
        case rel => exact ⟨2, _, .inr (.inr (.inl ⟨rfl, rfl⟩)), by go_num, HP5.out⟩
        case measure => simp [intOf]
      · go_wp2_with (go_at_call 95; go_loud (refine (putNum HP.out 0 (by first | exact HIN2.out | exact ⟨by omega, by omega⟩) (by have h0 := HL0.out; have h1 := HL1.out; have h2 := HL2.out; (try simp only [List.length_append, List.length_nil]); omega)).mono ?_); rintro e w5 ⟨rfl, hp5⟩; have HP5 := Lib.hid hp5; clear hp5)
        go_roundw
        case rel => exact ⟨3, _, .inr (.inr (.inr (.inl ⟨rfl, rfl⟩))), by go_num, HP5.out⟩
        case measure => simp [intOf]
      · go_wp2_with (go_at_call 95; go_loud (refine (putNum HP.out 0 (by first | exact HIN3.out | exact ⟨by omega, by omega⟩) (by have h0 := HL0.out; have h1 := HL1.out; have h2 := HL2.out; (try simp only [List.length_append, List.length_nil]); omega)).mono ?_); rintro e w5 ⟨rfl, hp5⟩; have HP5 := Lib.hid hp5; clear hp5)
        go_roundw
        case rel => exact ⟨4, _, .inr (.inr (.inr (.inr (⟨rfl, rfl⟩)))), by go_num, HP5.out⟩
        case measure => simp [intOf]
      · go_wp2
        go_end0
        exact ⟨rfl, fun h => absurd h HM.out, fun _ => (HP.out.base HW2.out).cast (by unfold encV; simp only [List.append_assoc])⟩
end Go.Proofs.YtggfoihfenlckaaGreat
/- tributaryref16: bad, Many: the walks; a reference's In that is kept. -/
namespace Go.Proofs.YtggfoihfenlckaaGreat
open Go.RowKit
end Go.Proofs.YtggfoihfenlckaaGreat
/- tributaryref16: how a step of the reference's In turns memory; ToCtx: the walk. -/
namespace Go.Proofs.YtggfoihfenlckaaGreat
open Go.RowKit
end Go.Proofs.YtggfoihfenlckaaGreat
/- tributaryref16: tree: the walk. Printed by wip/r16treegen.py. -/
namespace Go.Proofs.YtggfoihfenlckaaGreat
open Go.RowKit
end Go.Proofs.YtggfoihfenlckaaGreat