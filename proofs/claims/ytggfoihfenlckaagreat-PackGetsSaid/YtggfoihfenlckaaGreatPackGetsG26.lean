/- Words for the law PackGets: PackPut3, Awake16, NilQ, Trod, OpenB. -/
import Derived.Test.YtggfoihfenlckaaGreatPackGetsG1
import Derived.Test.YtggfoihfenlckaaGreatPackGetsG5
import Derived.Test.YtggfoihfenlckaaGreatPackGetsG11
import Derived.Test.YtggfoihfenlckaaGreatPackGetsG13
import Derived.Test.YtggfoihfenlckaaGreatPackGetsG15
import Derived.Test.YtggfoihfenlckaaGreatPackGetsG23
import Derived.Test.YtggfoihfenlckaaGreatPackGetsG25
import Derived.Deep.Strs
import Derived.ChangeArms
set_option linter.unusedSimpArgs false
set_option linter.unusedVariables false
/- pack: PutTree, PutCausal, Bytes: the walks. -/
namespace Go.Proofs.YtggfoihfenlckaaGreat
open Go.RowKit
def treeB (es : List Ent) (ks : KidsL) : List UInt8 := if rightT 5 es ks then encT es ks else encT [] .nil
set_option maxRecDepth 100000 in
theorem tClone_no (Q : Nat → Prop) (es : List Ent) (ks : KidsL) (w : World) (ev kv : Value) (ht : TreeAt Q w ev kv es ks) (hok : TrOk es ks) (hr : rightT 5 es ks = false) :
    Calls Tryz.prog 113 #[.agg #[ev, kv]] w fun e w' => e = .returned (.agg #[.slice none 0 0, .slice none 0 0]) ∧ Frm NoS w w' := by
  obtain ⟨ae, ce, rfl⟩ := ht.ents.rd.sl
  obtain ⟨os, hkr, hfor⟩ := ht.kids
  obtain ⟨ak, ck, rfl⟩ := hkr.rd.sl
  have HR := Lib.hid (fun W (f : Frm NoS w W) => tRight_any Q es ks W _ _ (ht.keep0 f) hok)
  rw [hr] at HR
  clear hkr hfor ht hok hr
  generalize es.length = n at *
  generalize ks.len = m at *
  obtain ⟨hb2, hfb, hbs⟩ := two_blocks w (.cells #[.slice ae n ce, .slice ak m ck] 35) #[.slice none 0 0, .slice none 0 0] 35
  have HB2 := Lib.hid hb2; clear hb2
  have HFB := Lib.hid hfb; clear hfb
  have HBS := Lib.hid hbs; clear hbs
  go_enter Tryz.func113, Tryz.ntmps113
  go_wp2_with (go_at_call 81; refine (HR.out _ HFB.out).mono ?_; rintro e w1 ⟨rfl, hw1⟩; obtain ⟨y0, y1⟩ := box2 w _ _ _ w1 ((Frm.alloc NoS _ _).then1 hw1); have hblk := hw1.blk HB2.out id; have z0 := cell_at' hblk 0 rfl; have z1 := cell_at' hblk 1 rfl; have f0 := free_at' hblk 0; have f1 := free_at' hblk 1; have hsb := lt_of_block hblk; have HR2 := Lib.hid (res2 hblk (HFB.out.then1 hw1) (by omega) (.slice none 0 0) (.slice none 0 0)); have HW1 := Lib.hid hw1; clear hw1 hblk)
  clear y0 y1 z0 z1
  have y0 := cell_at' HR2.out.1 0 rfl
  have y1 := cell_at' HR2.out.1 1 rfl
  exact bodyPost_ret (v := .agg #[.slice none 0 0, .slice none 0 0]) (by simp [results, Tryz.results113, go_sem, y0, y1]) rfl ⟨rfl, HR2.out.2.1⟩
theorem tree_nil (w : World) : TreeAt (fun b => w.heap.size ≤ b) w (.slice none 0 0) (.slice none 0 0) [] .nil :=
  ⟨⟨.inl ⟨none, rfl, rfl, rfl⟩, fun h => absurd rfl h⟩, [], ⟨.inl ⟨none, rfl, rfl, rfl⟩, fun h => absurd rfl h⟩, rfl⟩
/-- A clone: what the tree's bytes tell. -/
theorem tClone_all (Q : Nat → Prop) (es : List Ent) (ks : KidsL) (w : World) (ev kv : Value) (ht : TreeAt Q w ev kv es ks) (hok : TrOk es ks) (hsz : sizeT es ks ≤ 4000) :
    Calls Tryz.prog 113 #[.agg #[ev, kv]] w fun e w' => ∃ ev' kv' es' ks', e = .returned (.agg #[ev', kv']) ∧ TreeAt (fun b => w.heap.size ≤ b) w' ev' kv' es' ks' ∧ TrOk es' ks' ∧ encT es' ks' = treeB es ks ∧ Frm NoS w w' := by
  cases hr : rightT 5 es ks with
  | true => exact (tClone_any Q es ks w ev kv ht hok hsz hr).mono fun e w' ⟨ev', kv', h1, h2, h3⟩ => ⟨ev', kv', es, ks, h1, h2, hok, by unfold treeB; rw [hr]; rfl, h3⟩
  | false => exact (tClone_no Q es ks w ev kv ht hok hr).mono fun e w' ⟨h1, h3⟩ => ⟨_, _, [], .nil, h1, (tree_nil w).keep0 h3, ⟨⟨by simp, fun e he => by cases he⟩, by simp [KidsL.len], trivial⟩, by unfold treeB; rw [hr]; rfl, h3⟩
theorem treeB_le {es : List Ent} {ks : KidsL} (hsz : sizeT es ks ≤ 4000) : (treeB es ks).length ≤ 300020 := by
  unfold treeB
  split
  · have := encT_le (by assumption) (by omega : sizeT es ks ≤ 9223372036854775807)
    omega
  · have := encT_le (es := []) (ks := .nil) (by decide) (by decide)
    have h0 : sizeT [] .nil = 0 := rfl
    omega
set_option maxRecDepth 100000 in
theorem pPutTree_any (Q : Nat → Prop) (ob : Nat) (w : World) (v : Value) (bs : List UInt8) (es : List Ent) (ks : KidsL) (ev kv : Value) (ho : OutAt w ob v bs) (ht : TreeAt Q w ev kv es ks) (hok : TrOk es ks) (hsz : sizeT es ks ≤ 4000) (hl : bs.length ≤ 80000000) :
    Calls Tryz.prog 53 #[.pointer (some ⟨ob, 0, none⟩), .agg #[ev, kv]] w fun e w' => e = .returned (.tuple #[]) ∧ Put1 w ob v bs (treeB es ks) w' := by
  have HC := Lib.hid (fun W (f : Frm NoS w W) => tClone_all Q es ks W _ _ (ht.keep0 f) hok hsz)
  have HLE := Lib.hid (treeB_le hsz)
  obtain ⟨ae, ce, rfl⟩ := ht.ents.rd.sl
  obtain ⟨os, hkr, hfor⟩ := ht.kids
  obtain ⟨ak, ck, rfl⟩ := hkr.rd.sl
  clear hkr hfor ht hok hsz
  generalize treeB es ks = X at *
  generalize es.length = n at *
  generalize ks.len = m at *
  have HO := Lib.hid ho; clear ho
  have HA := Lib.hid (Frm.alloc NoS w (.cells #[.slice ae n ce, .slice ak m ck] 35))
  go_enter Tryz.func53, Tryz.ntmps53
  go_wp2_with (first
    | (go_at_call 113; refine (HC.out _ HA.out).mono ?_; rintro e w1 ⟨ev', kv', es', ks', rfl, hta, hok, hx, hf⟩; obtain ⟨a1, c1, rfl⟩ := hta.ents.rd.sl; obtain ⟨os3, hkr3, -⟩ := hta.kids; obtain ⟨a2, c2, rfl⟩ := hkr3.rd.sl; clear hkr3; subst hx; have HK := Lib.hid (fun ho => pput_go _ _ es' ks' w1 ob v bs _ _ (Nat.lt_succ_self _) ho hta (fun b hb hQ => by have := outS_lt HO.out b hb; have := HA.out.size; omega) hok (by have := HLE.out; omega)); generalize es'.length = n' at *; generalize ks'.len = m' at *; clear hta hok; have HF := Lib.hid (HA.out.then1 hf); clear hf)
    | (go_at_call 112; refine (HK.out (HO.out.keep0 HF.out)).mono ?_; rintro e w2 ⟨rfl, hp⟩; have HP := Lib.hid hp; clear hp))
  go_end0
  exact ⟨rfl, HP.out.base HF.out⟩
noncomputable def cauB (es : List Ent) (ks : KidsL) (c : CtxL) : List UInt8 := if tf (CauRight es ks c) then encX es ks c else encX [] .nil []
set_option maxRecDepth 100000 in
theorem caClone_no (Q : Nat → Prop) (es : List Ent) (ks : KidsL) (c : CtxL) (w : World) (ev kv cv : Value) (h : CauAt Q w ev kv cv es ks c) (hok : CauOk es ks c) (hr : ¬ CauRight es ks c) :
    Calls Tryz.prog 115 #[.agg #[ev, kv, cv]] w fun e w' => e = .returned (.agg #[.slice none 0 0, .slice none 0 0, .slice none 0 0]) ∧ Frm NoS w w' := by
  obtain ⟨a0, c0, a1, c1, a2, c2, rfl, rfl, rfl⟩ := h.shape
  have HR := Lib.hid (fun w' (f : Frm NoS w w') => tf_false hr ▸ caRight_any Q es ks c w' _ _ _ (h.keep0 f) hok)
  clear h hok hr
  generalize es.length = n at *
  generalize ks.len = m at *
  generalize c.length = k at *
  obtain ⟨hb2, hfb, hbs⟩ := two_blocks w (.cells #[.slice a0 n c0, .slice a1 m c1, .slice a2 k c2] 37) #[.slice none 0 0, .slice none 0 0, .slice none 0 0] 37
  have HB2 := Lib.hid hb2; clear hb2
  have HFB := Lib.hid hfb; clear hfb
  have HBS := Lib.hid hbs; clear hbs
  go_enter Tryz.func115, Tryz.ntmps115
  go_wp2_with (go_at_call 82; refine (HR.out _ HFB.out).mono ?_; rintro e w1 ⟨rfl, hw1⟩; obtain ⟨y0, y1, y2⟩ := box3 w _ _ _ _ w1 ((Frm.alloc NoS _ _).then1 hw1); have hblk := hw1.blk HB2.out id; have z0 := cell_at' hblk 0 rfl; have z1 := cell_at' hblk 1 rfl; have z2 := cell_at' hblk 2 rfl; have f0 := free_at' hblk 0; have f1 := free_at' hblk 1; have f2 := free_at' hblk 2; have hsb := lt_of_block hblk; have HR3 := Lib.hid (res3 hblk (HFB.out.then1 hw1) (by omega) (.slice none 0 0) (.slice none 0 0) (.slice none 0 0)); have HW1 := Lib.hid hw1; clear hw1 hblk)
  clear y0 y1 y2 z0 z1 z2
  have y0 := cell_at' HR3.out.1 0 rfl
  have y1 := cell_at' HR3.out.1 1 rfl
  have y2 := cell_at' HR3.out.1 2 rfl
  exact bodyPost_ret (v := .agg #[.slice none 0 0, .slice none 0 0, .slice none 0 0]) (by simp [results, Tryz.results115, go_sem, y0, y1, y2]) rfl ⟨rfl, HR3.out.2.1⟩
/-- A clone of what is known: what its bytes tell. -/
theorem caClone_all (Q : Nat → Prop) (es : List Ent) (ks : KidsL) (c : CtxL) (w : World) (ev kv cv : Value) (h : CauAt Q w ev kv cv es ks c) (hok : CauOk es ks c) :
    Calls Tryz.prog 115 #[.agg #[ev, kv, cv]] w fun e w' => ∃ ev' kv' cv' es' ks' c', e = .returned (.agg #[ev', kv', cv']) ∧ TreeAt (fun b => w.heap.size ≤ b) w' ev' kv' es' ks' ∧ RdQ (fun b => w.heap.size ≤ b) w' cv' c'.length (spC c') ∧ CauOk es' ks' c' ∧ treeB es' ks' ++ ctxB c' = cauB es ks c ∧ Frm NoS w w' := by
  by_cases hr : CauRight es ks c
  · refine (caClone_ok Q es ks c w ev kv cv h hok hr).mono fun e w' ⟨ev', kv', cv', h1, h2, h3⟩ => ⟨ev', kv', cv', es, ks, c, h1, h2, h3.rdq, hok, ?_, h3.frm⟩
    unfold cauB treeB ctxB
    rw [tf_true hr, hr.tree, tf_true hr.ctx]
    rfl
  · refine (caClone_no Q es ks c w ev kv cv h hok hr).mono fun e w' ⟨h1, h3⟩ => ⟨_, _, _, [], .nil, [], h1, (tree_nil w).keep0 h3, ⟨.inl ⟨none, rfl, rfl, rfl⟩, fun h => absurd rfl h⟩, ⟨⟨⟨by simp, fun e he => by cases he⟩, by simp [KidsL.len], trivial⟩, by decide, (fun s hs => by cases hs), by simp⟩, ?_, h3⟩
    have e1 : rightT 5 [] .nil = true := by decide
    unfold cauB treeB ctxB
    rw [tf_false hr, e1, tf_true right_nilC]
    rfl
set_option maxRecDepth 100000 in
theorem pPutCausal_any (Q : Nat → Prop) (ob : Nat) (w : World) (v : Value) (bs : List UInt8) (es : List Ent) (ks : KidsL) (c : CtxL) (ev kv cv : Value) (ho : OutAt w ob v bs) (h : CauAt Q w ev kv cv es ks c) (hok : CauOk es ks c) (hl : bs.length ≤ 79000000) :
    Calls Tryz.prog 55 #[.pointer (some ⟨ob, 0, none⟩), .agg #[ev, kv, cv]] w fun e w' => e = .returned (.tuple #[]) ∧ Put1 w ob v bs (cauB es ks c) w' := by
  have HC := Lib.hid (fun W (f : Frm NoS w W) => caClone_all Q es ks c W _ _ _ (h.keep0 f) hok)
  obtain ⟨a0, c0, a1, c1, a2, c2, rfl, rfl, rfl⟩ := h.shape
  clear h hok
  generalize cauB es ks c = X at *
  generalize es.length = n at *
  generalize ks.len = m at *
  generalize c.length = k at *
  have HO := Lib.hid ho; clear ho
  have HBX := Lib.hid (heap_alloc_new w (.cells #[.slice a0 n c0, .slice a1 m c1, .slice a2 k c2] 37))
  have HA := Lib.hid (Frm.alloc NoS w (.cells #[.slice a0 n c0, .slice a1 m c1, .slice a2 k c2] 37))
  have HAS := Lib.hid (show (w.alloc (.cells #[.slice a0 n c0, .slice a1 m c1, .slice a2 k c2] 37)).heap.size = w.heap.size + 1 by simp)
  have HNO := Lib.hid (show ¬ OutS ob v w.heap.size from fun h => by have := outS_lt HO.out _ h; omega)
  go_enter Tryz.func55, Tryz.ntmps55
  go_wp2_with (first
    | (go_at_call 115; refine (HC.out _ HA.out).mono ?_; rintro e w1 ⟨ev', kv', cv', es', ks', c', rfl, hta, hrc, hok, hx, hf⟩; obtain ⟨a3, c3, rfl⟩ := hta.ents.rd.sl; obtain ⟨os3, hkr3, -⟩ := hta.kids; obtain ⟨a4, c4, rfl⟩ := hkr3.rd.sl; clear hkr3; obtain ⟨a5, c5, rfl⟩ := hrc.rd.sl; have HXX := Lib.hid hx; clear hx
       have hblk := hf.blk HBX.out id
       have HBLK := Lib.hid hblk
       have y0 := cell_at' hblk 0 rfl
       have y1 := cell_at' hblk 1 rfl
       have y2 := cell_at' hblk 2 rfl
       have f0 := free_at' hblk 0
       have f1 := free_at' hblk 1
       have f2 := free_at' hblk 2
       have hsb := lt_of_block hblk
       have HR3 := Lib.hid (res3 (w0 := w) hblk (HA.out.then1 hf) (Nat.le_refl _) (.slice a3 es'.length c3) (.slice a4 ks'.len c4) (.slice a5 c'.length c5))
       have HTA := Lib.hid (hta.turn (Q' := fun b => w.heap.size + 1 ≤ b) fun b hb hQ => ⟨HR3.out.2.2 b (by have := HAS.out; omega), by have := HAS.out; omega⟩)
       have HRC := Lib.hid (hrc.turn (Q' := fun b => w.heap.size + 1 ≤ b ∧ b < w1.heap.size) fun b hb hQ => ⟨HR3.out.2.2 b (by have := HAS.out; omega), by have := HAS.out; omega, hb⟩)
       have HXL := Lib.hid (treeB_le (es := es') (ks := ks') (Nat.le_trans hok.small (by decide)))
       have HK := Lib.hid (pPutTree_any _ ob _ v bs es' ks' _ _ (HO.out.keep0 HR3.out.2.1) HTA.out hok.tree (Nat.le_trans hok.small (by decide)) (by omega))
       have HK2 := Lib.hid (fun W v' (f : Frm (OutS ob v) _ W) (hb : ∀ b, b < _ → OutS ob v' b → OutS ob v b) (ho : OutAt W ob v' (bs ++ treeB es' ks')) => pPutCtx_any (fun b => w.heap.size + 1 ≤ b ∧ b < w1.heap.size) ob W v' _ _ c' ho (HRC.out.keep f fun b _ hs => (by have := outS_lt HO.out b hs; omega)) (fun b hb' hQ => by have := outS_lt HO.out b (hb b hQ.2 hb'); omega) hok.fits (by have := hok.len; omega) (by have := HXL.out; rw [List.length_append]; omega))
       clear hta hrc hok hblk hf
       generalize treeB es' ks' = X1 at *
       generalize ctxB c' = X2 at *
       generalize es'.length = n' at *
       generalize ks'.len = m' at *
       generalize c'.length = k' at *)
    | (go_at_call 53; refine HK.out.mono ?_; rintro e w2 ⟨rfl, hp⟩; have y2 : w2.cell? ⟨w.heap.size, 2, none⟩ = some (.slice a5 k' c5) := hp.cell (cell_at' HR3.out.1 2 rfl) HNO.out; have HP := Lib.hid hp; clear hp)
    | (go_at_call 51; refine (HP.out.call fun v' ho hb hf => HK2.out _ v' hf (fun b hb' hs => hb b (by simpa using hb') hs) ho).mono ?_; rintro e w3 ⟨rfl, hp⟩; have HP3 := Lib.hid hp; clear hp))
  go_end0
  exact ⟨rfl, (HP3.out.base HR3.out.2.1).cast HXX.out⟩
/-- What End hands out of bytes. -/
def EndIs (w : World) (v : Value) (k : Int) (bs : List UInt8) (w' : World) : Prop := if bs.length ≤ 60000 then k = 0 ∧ Copy w v bs w' else k = 3 ∧ v = .slice none 0 0
/-- The bytes of what is known. -/
def BytesPost (w : World) (es : List Ent) (ks : KidsL) (c : CtxL) (e : Ending) (w' : World) : Prop :=
  (CauRight es ks c → ∃ v k, e = .returned (.tuple #[v, .int .i64 k]) ∧ EndIs w v k (encX es ks c) w') ∧
  (¬ CauRight es ks c → e = .returned (.tuple #[.slice none 0 0, .int .i64 1])) ∧ Frm NoS w w'
theorem end_all (ob : Nat) (w : World) (v : Value) (bs : List UInt8) (h : OutAt w ob v bs) : Calls Tryz.prog 14 #[.pointer (some ⟨ob, 0, none⟩)] w fun e w' =>
    ∃ v' k, e = .returned (.tuple #[v', .int .i64 k]) ∧ (if bs.length ≤ 60000 then k = 0 ∧ Copy w v' bs w' else k = 3 ∧ v' = .slice none 0 0 ∧ Frm NoS w w') := by
  by_cases hl : bs.length ≤ 60000
  · exact (end_ok ob w v bs h hl).mono fun e w' ⟨v', he, hc⟩ => ⟨v', 0, he, by rw [if_pos hl]; exact ⟨rfl, hc⟩⟩
  · exact (end_long ob w v bs h (by omega)).mono fun e w' ⟨he, hw⟩ => ⟨_, 3, he, by rw [if_neg hl]; subst hw; exact ⟨rfl, rfl, Frm.refl _ _⟩⟩
theorem end_frm {w w' : World} {v : Value} {k : Int} {bs : List UInt8} (h : if bs.length ≤ 60000 then k = 0 ∧ Copy w v bs w' else k = 3 ∧ v = .slice none 0 0 ∧ Frm NoS w w') : Frm NoS w w' := by
  split at h
  · exact h.2.frm
  · exact h.2.2
theorem end_shape {w w' : World} {v : Value} {k : Int} {bs : List UInt8} (h : if bs.length ≤ 60000 then k = 0 ∧ Copy w v bs w' else k = 3 ∧ v = .slice none 0 0 ∧ Frm NoS w w') : ∃ a n c, v = .slice a n c := by
  split at h
  · obtain ⟨a, c, h⟩ := h.2.shape
    exact ⟨_, _, _, h⟩
  · exact ⟨_, _, _, h.2.1⟩
theorem end_base {w0 w w' : World} {v : Value} {k : Int} {bs : List UInt8} (h : if bs.length ≤ 60000 then k = 0 ∧ Copy w v bs w' else k = 3 ∧ v = .slice none 0 0 ∧ Frm NoS w w') (f : Frm NoS w0 w) : EndIs w0 v k bs w' := by
  unfold EndIs
  split at h
  · rw [if_pos (by assumption)]
    exact ⟨h.1, h.2.weaken f⟩
  · rw [if_neg (by assumption)]
    exact ⟨h.1, h.2.1⟩
set_option maxRecDepth 100000 in
theorem pBytes_any (Q : Nat → Prop) (es : List Ent) (ks : KidsL) (c : CtxL) (w : World) (ev kv cv : Value) (h : CauAt Q w ev kv cv es ks c) (hok : CauOk es ks c) :
    Calls Tryz.prog 46 #[.agg #[ev, kv, cv]] w (BytesPost w es ks c) := by
  have HR := Lib.hid (fun W (f : Frm NoS w W) => caRight_any Q es ks c W _ _ _ (h.keep0 f) hok)
  have HC := Lib.hid (fun W v ob bs (f : Frm NoS w W) (ho : OutAt W ob v bs) (hl : bs.length ≤ 79000000) => pPutCausal_any Q ob W v bs es ks c _ _ _ ho (h.keep0 f) hok hl)
  obtain ⟨a0, c0, a1, c1, a2, c2, rfl, rfl, rfl⟩ := h.shape
  clear h hok
  by_cases hr : CauRight es ks c
  · rw [tf_true hr] at HR
    have hX : cauB es ks c = encX es ks c := by unfold cauB; rw [tf_true hr, if_pos rfl]
    rw [hX] at HC
    clear hX
    unfold BytesPost
    have HRT := Lib.hid hr; clear hr
    generalize encX es ks c = X at *
    generalize CauRight es ks c = p at *
    generalize es.length = n at *
    generalize ks.len = m at *
    generalize c.length = k at *
    go_enter Tryz.func46, Tryz.ntmps46
    go_wp2_with (first
      | (go_at_call 82; refine (HR.out _ (Frm.alloc _ _ _)).mono ?_; rintro e w1 ⟨rfl, hw1⟩; obtain ⟨y0, y1, y2⟩ := box3 w _ _ _ _ w1 hw1; have hlb := World.block_lt_of_cell? _ _ y0; have HW1 := Lib.hid ((Frm.alloc NoS _ _).then1 hw1); clear hw1)
      | (go_at_call 55; refine (HC.out _ _ _ _ (HW1.out.alloc1) (out_new w1) (by simp)).mono ?_; rintro e w2 ⟨rfl, hp⟩; obtain ⟨v2, ho2, hfr2, hfm2⟩ := hp; rw [List.nil_append] at ho2; have HO2 := Lib.hid ho2; have HF2 := Lib.hid ((Frm.alloc NoS w1 _).trans hfm2 fun i hi hs => out_alloc_no w1 i hi hs); clear ho2 hfr2 hfm2)
      | (go_at_call 14; refine (end_all _ w2 v2 _ HO2.out).mono ?_; rintro e w3 ⟨v3, k3, rfl, h3⟩; obtain ⟨a3, n3, c3, rfl⟩ := end_shape h3; have H3 := Lib.hid h3; clear h3))
    go_ret2
    exact ⟨fun _ => ⟨_, k3, rfl, end_base H3.out (HW1.out.then1 HF2.out)⟩, fun hn => absurd HRT.out hn, (HW1.out.then1 HF2.out).then1 (end_frm H3.out)⟩
  · rw [tf_false hr] at HR
    unfold BytesPost
    have HRT := Lib.hid hr; clear hr HC
    generalize encX es ks c = X at *
    generalize CauRight es ks c = p at *
    generalize es.length = n at *
    generalize ks.len = m at *
    generalize c.length = k at *
    go_enter Tryz.func46, Tryz.ntmps46
    go_wp2_with (go_at_call 82; refine (HR.out _ (Frm.alloc _ _ _)).mono ?_; rintro e w1 ⟨rfl, hw1⟩; have HW1 := Lib.hid ((Frm.alloc NoS _ _).then1 hw1); clear hw1)
    go_ret2
    exact ⟨fun h => absurd h HRT.out, fun _ => rfl, HW1.out⟩
end Go.Proofs.YtggfoihfenlckaaGreat
/- tributarylaw16: awake: the walk. -/
namespace Go.Proofs.YtggfoihfenlckaaGreat
open Go.RowKit
theorem kbytes_any (w : World) (ev kv cv : Value) (h : CauAt (fun _ => True) w ev kv cv kEs kKs kC) :
    Calls Tryz.prog 46 #[.agg #[ev, kv, cv]] w fun e w' => ∃ a c, e = .returned (.tuple #[.slice a kB.length c, .int .i64 0]) ∧ Copy w (.slice a kB.length c) kB w' :=
  (pBytes_any (fun _ => True) kEs kKs kC w ev kv cv h kOk).mono fun e w' ⟨h1, _, _⟩ => by
    obtain ⟨v, k, he, hend⟩ := h1 kRight
    rw [kBytes] at hend
    unfold EndIs at hend
    rw [if_pos (by decide)] at hend
    obtain ⟨rfl, hcp⟩ := hend
    obtain ⟨a, c, rfl⟩ := hcp.shape
    exact ⟨a, c, he, hcp⟩
theorem kread_any (w : World) (v : Value) (h : Rd w v kB.length (bV kB)) :
    Calls Tryz.prog 48 #[v] w fun e w' => ∃ ev kv cv, e = .returned (.tuple #[.agg #[ev, kv, cv], .int .i64 0]) ∧ CauAt (fun _ => True) w' ev kv cv kEs kKs kC ∧ Frm NoS w w' :=
  (pRead_any v kB kEs kKs kC (some []) w h (by have h0 := CauRes.make [] kRight; rw [List.append_nil, kBytes] at h0; exact h0) (by decide)).mono fun e w' hp => by
    obtain ⟨ev, kv, cv, he, ht, hc⟩ := hp.yes rfl
    exact ⟨ev, kv, cv, he, ⟨ht.turn fun b _ _ => ⟨rfl, trivial⟩, hc.at_⟩, hp.frm⟩
set_option maxHeartbeats 4000000 in
set_option maxRecDepth 1000000 in
theorem awake16_any (w : World) : Calls Tryz.prog 11 #[] w fun e w' => e = .returned (.bool true) ∧ Frm NoS w w' := by
  have HSM := Lib.hid (fun W ev kv cv ev' kv' cv' (h : CauAt (fun _ => True) W ev kv cv kEs kKs kC) (h' : CauAt (fun _ => True) W ev' kv' cv' kEs kKs kC) => tf_true (⟨⟨rfl, rfl⟩, rfl⟩ : (kEs = kEs ∧ kKs = kKs) ∧ kC = kC) ▸ r9Same_any (fun _ => True) (fun _ => True) kEs kKs kC kEs kKs kC W ev kv cv ev' kv' cv' h kOk h' kOk)
  go_enter Tryz.func11, Tryz.ntmps11
  go_wp2_with (first
    | (go_at_call 47; go_loud (refine (known16_any _).mono ?_); rintro e w1 ⟨ev1, kv1, cv1, rfl, hc1, hf1⟩; obtain ⟨a0, c0, a1, c1, a2, c2, rfl, rfl, rfl⟩ := hc1.shape; have HC1 := Lib.hid hc1; clear hc1; have HF1 := Lib.hid hf1; clear hf1)
    | (go_at_call 46; go_loud (refine (kbytes_any _ _ _ _ HC1.out).mono ?_); rintro e w2 ⟨a3, c3, rfl, cp2⟩; have HF2 := Lib.hid (HF1.out.then1 cp2.frm); have HP2 := Lib.hid cp2; clear cp2)
    | (go_at_call 48; go_loud (refine (kread_any _ _ HP2.out.rd).mono ?_); rintro e w3 ⟨ev3, kv3, cv3, rfl, hc3, hf3⟩; obtain ⟨b0, d0, b1, d1, b2, d2, rfl, rfl, rfl⟩ := hc3.shape; have HC3 := Lib.hid hc3; clear hc3; have HF3 := Lib.hid (HF2.out.then1 hf3); have HP3 := Lib.hid (HP2.out.step hf3); clear hf3))
  have hx := heap_alloc_new w3 (.cells #[.slice b0 kEs.length d0, .slice b1 kKs.len d1, .slice b2 kC.length d2] 37)
  have hwa : Frm NoS w3 (w3.alloc (.cells #[.slice b0 kEs.length d0, .slice b1 kKs.len d1, .slice b2 kC.length d2] 37)) := Frm.alloc _ _ _
  generalize w3.alloc (.cells #[.slice b0 kEs.length d0, .slice b1 kKs.len d1, .slice b2 kC.length d2] 37) = WA at *
  have hlb := lt_of_block hx
  refine wp_region_G (S := fun w' => Frm NoS WA w' ∧ w'.cell? ⟨w3.heap.size, 0, none⟩ = some (.slice b0 kEs.length d0) ∧ w'.cell? ⟨w3.heap.size, 1, none⟩ = some (.slice b1 kKs.len d1) ∧ w'.cell? ⟨w3.heap.size, 2, none⟩ = some (.slice b2 kC.length d2)) 16 (by kernel_rfl) ⟨Frm.drew NoS WA, cell_at' hx 0 rfl, cell_at' hx 1 rfl, cell_at' hx 2 rfl⟩ ?_
  intro hS
  have HWA := Lib.hid hwa; clear hwa hx
  generalize WA.drew = Y0 at *
  have hcv : (convert 25 9 (.slice a3 kB.length c3)).run Tryz.prog Y0 = .ok (.string ⟨#[2, 2, 2, 2, 97, 6, 0, 2, 2, 2, 2]⟩) Y0 := conv_str ((HP3.out.step HWA.out).step hS.1).rd
  refine take_opG 0 15 (v := ?_) rfl rfl (by kernel_rfl) (by kernel_rfl) (by decide) (by kernel_rfl) (by kernel_rfl) (fun _ _ _ h => h) (Or.inl ⟨by rfl, ?_⟩) (by assumption) ?_
  rotate_left 1
  · (intro w hSw; (try dsimp only at hSw); go_simp; (try with_reducible rfl))
  try simp only [Act.put, List.setIfInBounds_toArray, List.set_cons_zero, List.set_cons_succ]
  refine take_opG 1 16 (v := ?_) rfl rfl (by kernel_rfl) (by kernel_rfl) (by decide) (by kernel_rfl) (by kernel_rfl) (fun _ _ _ h => h) (Or.inl ⟨by rfl, ?_⟩) (by assumption) ?_
  rotate_left 1
  · (intro w hSw; (try dsimp only at hSw); go_simp; (try with_reducible rfl))
  try simp only [Act.put, List.setIfInBounds_toArray, List.set_cons_zero, List.set_cons_succ]
  refine take_opG 2 17 (v := ?_) rfl rfl (by kernel_rfl) (by kernel_rfl) (by decide) (by kernel_rfl) (by kernel_rfl) (fun _ _ _ h => h) (Or.inl ⟨by rfl, ?_⟩) (by assumption) ?_
  rotate_left 1
  · (intro w hSw; (try dsimp only at hSw); go_simp; (try with_reducible rfl))
  try simp only [Act.put, List.setIfInBounds_toArray, List.set_cons_zero, List.set_cons_succ]
  refine take_opG 3 18 (v := ?_) rfl rfl (by kernel_rfl) (by kernel_rfl) (by decide) (by kernel_rfl) (by kernel_rfl) (fun _ _ _ h => h) (Or.inl ⟨by rfl, ?_⟩) (by assumption) ?_
  rotate_left 1
  · (intro w hSw; (try dsimp only at hSw); go_simp; (try with_reducible rfl))
  try simp only [Act.put, List.setIfInBounds_toArray, List.set_cons_zero, List.set_cons_succ]
  refine take_opG 4 19 (v := ?_) rfl rfl (by kernel_rfl) (by kernel_rfl) (by decide) (by kernel_rfl) (by kernel_rfl) (fun _ _ _ h => h) (Or.inl ⟨by rfl, ?_⟩) (by assumption) ?_
  rotate_left 1
  · (intro w hSw; (try dsimp only at hSw); go_simp; (try with_reducible rfl))
  try simp only [Act.put, List.setIfInBounds_toArray, List.set_cons_zero, List.set_cons_succ]
  refine take_opG 5 20 (v := ?_) rfl rfl (by kernel_rfl) (by kernel_rfl) (by decide) (by kernel_rfl) (by kernel_rfl) (fun _ _ _ h => h) (Or.inl ⟨by rfl, ?_⟩) (by assumption) ?_
  rotate_left 1
  · (intro w hSw; (try dsimp only at hSw); go_simp; (try with_reducible rfl))
  try simp only [Act.put, List.setIfInBounds_toArray, List.set_cons_zero, List.set_cons_succ]
  refine take_opG 6 21 (v := ?_) rfl rfl (by kernel_rfl) (by kernel_rfl) (by decide) (by kernel_rfl) (by kernel_rfl) (fun _ _ _ h => h) (Or.inl ⟨by rfl, ?_⟩) (by assumption) ?_
  rotate_left 1
  · (intro w hSw; (try dsimp only at hSw); go_simp; (try with_reducible rfl))
  try simp only [Act.put, List.setIfInBounds_toArray, List.set_cons_zero, List.set_cons_succ]
  refine take_opG 7 22 (v := ?_) rfl rfl (by kernel_rfl) (by kernel_rfl) (by decide) (by kernel_rfl) (by kernel_rfl) (fun _ _ _ h => h) (Or.inl ⟨by rfl, ?_⟩) (by assumption) ?_
  rotate_left 1
  · (intro w hSw; (try dsimp only at hSw); go_simp; (try with_reducible rfl))
  try simp only [Act.put, List.setIfInBounds_toArray, List.set_cons_zero, List.set_cons_succ]
  refine one_opG (i := 8) (by kernel_rfl) rfl (fun K hK => ?_)
  go_simp
  refine hK.out _ _ hS ?_
  clear hK K hcv
  try simp only [Act.put, List.setIfInBounds_toArray, List.set_cons_zero, List.set_cons_succ]
  refine take_opG 9 24 (v := ?_) rfl rfl (by kernel_rfl) (by kernel_rfl) (by decide) (by kernel_rfl) (by kernel_rfl) (fun _ _ _ h => h) (Or.inl ⟨by rfl, ?_⟩) (by assumption) ?_
  rotate_left 1
  · (intro w hSw; (try dsimp only at hSw); go_simp; (try with_reducible rfl))
  try simp only [Act.put, List.setIfInBounds_toArray, List.set_cons_zero, List.set_cons_succ]
  refine take_opG 10 25 (v := ?_) rfl rfl (by kernel_rfl) (by kernel_rfl) (by decide) (by kernel_rfl) (by kernel_rfl) (fun _ _ _ h => h) (Or.inl ⟨by rfl, ?_⟩) (by assumption) ?_
  rotate_left 1
  · (intro w hSw; (try dsimp only at hSw); go_simp; (try with_reducible rfl))
  try simp only [Act.put, List.setIfInBounds_toArray, List.set_cons_zero, List.set_cons_succ]
  refine take_opG 11 26 (v := ?_) rfl rfl (by kernel_rfl) (by kernel_rfl) (by decide) (by kernel_rfl) (by kernel_rfl) (fun _ _ _ h => h) (Or.inl ⟨by rfl, ?_⟩) (by assumption) ?_
  rotate_left 1
  · (intro w hSw; (try dsimp only at hSw); go_simp; (try with_reducible rfl))
  try simp only [Act.put, List.setIfInBounds_toArray, List.set_cons_zero, List.set_cons_succ]
  refine take_opG 12 27 (v := ?_) rfl rfl (by kernel_rfl) (by kernel_rfl) (by decide) (by kernel_rfl) (by kernel_rfl) (fun _ _ _ h => h) (Or.inl ⟨by rfl, ?_⟩) (by assumption) ?_
  rotate_left 1
  · (intro w hSw; (try dsimp only at hSw); go_simp; (try with_reducible rfl))
  try simp only [Act.put, List.setIfInBounds_toArray, List.set_cons_zero, List.set_cons_succ]
  refine one_opG (i := 13) (by kernel_rfl) rfl (fun K hK => ?_)
  go_simp
  refine (known16_any _).mono ?_
  rintro e1 Y1 ⟨ev4, kv4, cv4, rfl, hc4, hf4⟩
  obtain ⟨g0, j0, g1, j1, g2, j2, rfl, rfl, rfl⟩ := hc4.shape
  have hS1 : Frm NoS WA Y1 ∧ Y1.cell? ⟨w3.heap.size, 0, none⟩ = some (.slice b0 kEs.length d0) ∧ Y1.cell? ⟨w3.heap.size, 1, none⟩ = some (.slice b1 kKs.len d1) ∧ Y1.cell? ⟨w3.heap.size, 2, none⟩ = some (.slice b2 kC.length d2) := ⟨hS.1.then1 hf4, hf4.cell' hS.2.1 id, hf4.cell' hS.2.2.1 id, hf4.cell' hS.2.2.2 id⟩
  refine hK.out _ _ hS1 ?_
  clear hK K hS hf4
  have HC4 := Lib.hid hc4; clear hc4
  try simp only [Act.put, List.setIfInBounds_toArray, List.set_cons_zero, List.set_cons_succ]
  refine one_opG (i := 14) (by kernel_rfl) rfl (fun K hK => ?_)
  go_simp
  refine (HSM.out _ _ _ _ _ _ _ (HC3.out.keep0 (HWA.out.then1 hS1.1)) HC4.out).mono ?_
  rintro e2 Y2 ⟨rfl, hf5⟩
  have hS2 : Frm NoS WA Y2 ∧ Y2.cell? ⟨w3.heap.size, 0, none⟩ = some (.slice b0 kEs.length d0) ∧ Y2.cell? ⟨w3.heap.size, 1, none⟩ = some (.slice b1 kKs.len d1) ∧ Y2.cell? ⟨w3.heap.size, 2, none⟩ = some (.slice b2 kC.length d2) := ⟨hS1.1.then1 hf5, hf5.cell' hS1.2.1 id, hf5.cell' hS1.2.2.1 id, hf5.cell' hS1.2.2.2 id⟩
  refine hK.out _ _ hS2 ?_
  clear hK K hS1 hf5
  try simp only [Act.put, List.setIfInBounds_toArray, List.set_cons_zero, List.set_cons_succ]
  refine take_opG 15 30 (v := ?_) rfl rfl (by kernel_rfl) (by kernel_rfl) (by decide) (by kernel_rfl) (by kernel_rfl) (fun _ _ _ h => h) (Or.inl ⟨by rfl, ?_⟩) (by assumption) ?_
  rotate_left 1
  · (intro w hSw; (try dsimp only at hSw); go_simp; (try with_reducible rfl))
  try simp only [Act.put, List.setIfInBounds_toArray, List.set_cons_zero, List.set_cons_succ]
  refine last_opG (by kernel_rfl) (by kernel_rfl) rfl (fun K hK => ?_)
  go_simp
  refine hK.out _ _ ?_
  clear hK K
  go_wp2
  go_ret
  exact ⟨rfl, (HF3.out.then1 HWA.out).then1 hS2.1⟩
end Go.Proofs.YtggfoihfenlckaaGreat
/- Nothing known; where the reference begins to read. -/
namespace Go.Proofs.YtggfoihfenlckaaGreat
open Go.RowKit
theorem rin_start {w : World} {v : Value} {bs : List UInt8} (h : Rd w v bs.length (bV bs)) : RIn w w v (some bs) :=
  ⟨⟨rfl, h⟩, fun hne k hk => by
    rcases h with ⟨ad, rfl, h2, h3⟩ | ⟨b, off, c, rfl, h1, h2, h3⟩
    · have hz : bs = [] := by simpa [bV] using h3
      exact absurd hz hne
    · have hb : b = k := by simpa [Value.ownBlock] using hk
      subst hb
      cases bs with
      | nil => exact absurd rfl hne
      | cons x bs => exact World.block_lt_of_cell? _ _ (h3 0 _ rfl)⟩
end Go.Proofs.YtggfoihfenlckaaGreat
/- Opening what came in: slices of whatever elements, told cell by cell. -/
namespace Go.Proofs.YtggfoihfenlckaaGreat
open Go.RowKit
theorem list_of_lt {α : Type} [Inhabited α] {n : Nat} {p : Nat → α → Prop} (h : ∀ i, i < n → ∃ x, p i x) : ∃ l : List α, l.length = n ∧ ∀ i, i < n → ∀ d, p i (l.getD i d) := by
  obtain ⟨f, hf⟩ := Go.Deep.choose_lt h
  refine ⟨(List.range n).map f, by simp, fun i hi d => ?_⟩
  have : ((List.range n).map f).getD i d = f i := by simp [List.getD, hi]
  rw [this]
  exact hf i hi
section
variable {H : Type} {enc : TypeId × Value → H} {P : Program} {w : World} {base : Nat} {sp : Nat → Bool} {held : Bool}
/-- A slice that is read, spare and all: empty without capacity, or behind an address without a spot; each element's cells, and its own reading. -/
theorem open_arr {t e sz : Nat} {a0 : Option Addr} {len cap : Nat} {d : DataW H × List MemPlace} {fuel : Nat} (ht : P.underlying t = some (.slice e)) (hsz : P.cellsOf e = sz) (hpos : 0 < sz) (hsp : ∀ b, sp b = true)
    (h : DataW.trod enc P w base sp held fuel t [.slice a0 len cap] = some d) :
    (len = 0 ∧ cap = 0) ∨ ∃ b off, a0 = some ⟨b, off, none⟩ ∧ len ≤ cap ∧ cap ≤ maxLen ∧
      ∃ n, ∀ k, k < len → ∃ cs : List Value, cs.length = sz ∧ (∀ j u, cs[j]? = some u → w.cell? ⟨b, off + k * sz + j, none⟩ = some u) ∧ ∃ y, DataW.trod enc P w base sp held n e cs = some y := by
  rcases Go.Deep.open_slice ht h with ⟨hcs, _⟩ | ⟨a, len', cap', m, n, D, Pl, hcs, _, hl, hm, hmm, _, hel⟩
  · left
    simp only [List.cons.injEq, Value.slice.injEq, and_true] at hcs
    exact ⟨hcs.2.1, hcs.2.2⟩
  · simp only [List.cons.injEq, Value.slice.injEq, and_true] at hcs
    obtain ⟨rfl, rfl, rfl⟩ := hcs
    rw [hsp] at hmm
    simp only [if_true] at hmm
    subst hmm
    subst hsz
    rcases Nat.eq_zero_or_pos m with h0 | h0
    · left; omega
    · right
      obtain ⟨b, off, spot⟩ := a
      have hspot : spot = none := by
        obtain ⟨cs', hc, _⟩ := hel 0 h0
        obtain ⟨_, hlen, hcells⟩ := World.cells?_some hc
        have h00 : cs'[0]? = some (cs'[0]'(by omega)) := List.getElem?_eq_getElem _
        have := hcells 0 (by omega)
        rw [h00] at this
        have hs := World.cell?_spot this
        simpa [Addr.add] using hs
      subst hspot
      refine ⟨b, off, rfl, hl, hm, n, fun k hk => ?_⟩
      obtain ⟨cs', hc, ht'⟩ := hel k (by omega)
      obtain ⟨_, hlen, hcells⟩ := World.cells?_some hc
      refine ⟨cs', hlen, fun j u hu => ?_, _, ht'⟩
      have hj : j < P.cellsOf e := by rw [← hlen]; exact (List.getElem?_eq_some_iff.1 hu).1
      have := hcells j hj
      rw [addr_add, addr_add] at this
      rw [this, hu]
end
end Go.Proofs.YtggfoihfenlckaaGreat
/- What came in: bytes. -/
namespace Go.Proofs.YtggfoihfenlckaaGreat
open Go.RowKit Go.WideShapes
theorem Tryz.cells_u8 : Tryz.prog.cellsOf 5 = 1 := by kernel_rfl
set_option maxRecDepth 100000 in
theorem open_bytes {H : Type} {enc : TypeId × Value → H} {w : World} {base : Nat} {v : Value} {d : DataW H} {ps : List MemPlace} (hv : Value.okWide Tryz.prog w .any base 25 v) (h : DataW.Trod enc Tryz.prog w 0 (fun _ => true) true 25 v d ps) :
    ∃ bs : List UInt8, Rd w v bs.length (bV bs) := by
  obtain ⟨a0, len, cap, rfl⟩ := okWide_slice Tryz.underlying25 hv
  obtain ⟨fuel, hf⟩ := h
  rcases open_arr Tryz.underlying25 Tryz.cells_u8 (by omega) (fun _ => rfl) hf with ⟨rfl, rfl⟩ | ⟨b, off, rfl, h1, h2, n, hel⟩
  · exact ⟨[], .inl ⟨a0, rfl, rfl, rfl⟩⟩
  · have hx : ∀ k, k < len → ∃ c : UInt8, w.cell? ⟨b, off + k, none⟩ = some (.int .u8 (c.toNat : Int)) := fun k hk => by
      obtain ⟨cs, hl, hc, y, hy⟩ := hel k hk
      obtain ⟨x, rfl, _, hw⟩ := DataW.trod_int Tryz.underlying5 hy
      have hb : 0 ≤ x ∧ x ≤ 255 := by
        simp only [Lit.wf, IntKind.min, IntKind.max, IntKind.signed, IntKind.bits] at hw
        simpa using hw
      refine ⟨UInt8.ofNat x.toNat, ?_⟩
      have h0 := hc 0 _ rfl
      simp only [Nat.mul_one, Nat.add_zero] at h0
      rw [h0]
      congr 2
      have : (UInt8.ofNat x.toNat).toNat = x.toNat := by simp; omega
      rw [this]; omega
    obtain ⟨l, hl, hlp⟩ := list_of_lt hx
    refine ⟨l, .inr ⟨b, off, cap, by rw [hl], by omega, h2, fun j u hu => ?_⟩⟩
    have hj : j < l.length := by simpa using (List.getElem?_eq_some_iff.1 hu).1
    rw [hlp j (by omega) default]
    rw [← hu]
    simp [bV, List.getD, hj]
end Go.Proofs.YtggfoihfenlckaaGreat