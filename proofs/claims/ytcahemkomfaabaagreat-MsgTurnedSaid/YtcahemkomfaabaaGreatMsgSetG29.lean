/- Words for the law MsgSet: PackPut3, R16c, R16w, R16x, R16y, Awake16a, PackRead. -/
import Derived.Test.YtcahemkomfaabaaGreatMsgSetG4
import Derived.Test.YtcahemkomfaabaaGreatMsgSetG9
import Derived.Test.YtcahemkomfaabaaGreatMsgSetG14
import Derived.Test.YtcahemkomfaabaaGreatMsgSetG15
import Derived.Test.YtcahemkomfaabaaGreatMsgSetG16
import Derived.Test.YtcahemkomfaabaaGreatMsgSetG25
import Derived.Test.YtcahemkomfaabaaGreatMsgSetG27
import Derived.Test.YtcahemkomfaabaaGreatMsgSetG28
set_option linter.unusedSimpArgs false
set_option linter.unusedVariables false
set_option maxHeartbeats 32000000
set_option maxRecDepth 1000000
namespace Go.Proofs.YtcahemkomfaabaaGreat
open Go.RowKit
def treeB (es : List Ent) (ks : KidsL) : List UInt8 := if rightT 5 es ks then encT es ks else encT [] .nil
theorem tClone_no (Q : Nat → Prop) (es : List Ent) (ks : KidsL) (w : World) (ev kv : Value) (ht : TreeAt Q w ev kv es ks) (hok : TrOk es ks) (hr : rightT 5 es ks = false) :
 Calls Tryz.prog 137 #[.agg #[ev, kv]] w fun e w' => e = .returned (.agg #[.slice none 0 0, .slice none 0 0]) ∧ Frm NoS w w' := by
 obtain ⟨ae, ce, rfl⟩ := ht.ents.rd.sl
 obtain ⟨os, hkr, hfor⟩ := ht.kids
 obtain ⟨ak, ck, rfl⟩ := hkr.rd.sl
 have HR := Lib.hid (fun W (f : Frm NoS w W) => tRight_any Q es ks W _ _ (ht.keep0 f) hok)
 rw [hr] at HR
 clear hkr hfor ht hok hr
 generalize es.length = n at *
 generalize ks.len = m at *
 obtain ⟨hb2, hfb, hbs⟩ := two_blocks w (.cells #[.slice ae n ce, .slice ak m ck] 28) #[.slice none 0 0, .slice none 0 0] 28
 have HB2 := Lib.hid hb2; clear hb2
 have HFB := Lib.hid hfb; clear hfb
 have HBS := Lib.hid hbs; clear hbs
 go_enter Tryz.func137, Tryz.ntmps137
 go_wp2_with (go_at_call 126; refine (HR.out _ HFB.out).mono ?_; rintro e w1 ⟨rfl, hw1⟩; obtain ⟨y0, y1⟩ := box2 w _ _ _ w1 ((Frm.alloc NoS _ _).then1 hw1); have hblk := hw1.blk HB2.out id; have z0 := cell_at' hblk 0 rfl; have z1 := cell_at' hblk 1 rfl; have f0 := free_at' hblk 0; have f1 := free_at' hblk 1; have hsb := lt_of_block hblk; have HR2 := Lib.hid (res2 hblk (HFB.out.then1 hw1) (by omega) (.slice none 0 0) (.slice none 0 0)); have HW1 := Lib.hid hw1; clear hw1 hblk)
 clear y0 y1 z0 z1
 have y0 := cell_at' HR2.out.1 0 rfl
 have y1 := cell_at' HR2.out.1 1 rfl
 exact bodyPost_ret (v := .agg #[.slice none 0 0, .slice none 0 0]) (by simp [results, Tryz.results137, go_sem, y0, y1]) rfl ⟨rfl, HR2.out.2.1⟩
theorem tree_nil (w : World) : TreeAt (fun b => w.heap.size ≤ b) w (.slice none 0 0) (.slice none 0 0) [] .nil :=
 ⟨⟨.inl ⟨none, rfl, rfl, rfl⟩, fun h => absurd rfl h⟩, [], ⟨.inl ⟨none, rfl, rfl, rfl⟩, fun h => absurd rfl h⟩, rfl⟩
theorem tClone_all (Q : Nat → Prop) (es : List Ent) (ks : KidsL) (w : World) (ev kv : Value) (ht : TreeAt Q w ev kv es ks) (hok : TrOk es ks) (hsz : sizeT es ks ≤ 4000) :
 Calls Tryz.prog 137 #[.agg #[ev, kv]] w fun e w' => ∃ ev' kv' es' ks', e = .returned (.agg #[ev', kv']) ∧ TreeAt (fun b => w.heap.size ≤ b) w' ev' kv' es' ks' ∧ TrOk es' ks' ∧ encT es' ks' = treeB es ks ∧ Frm NoS w w' := by
 cases hr : rightT 5 es ks with
 | true => exact (tClone_any Q es ks w ev kv ht hok hsz hr).mono fun e w' ⟨ev', kv', h1, h2, h3⟩ => ⟨ev', kv', es, ks, h1, h2, hok, by unfold treeB; rw [hr]; rfl, h3⟩
 | false => exact (tClone_no Q es ks w ev kv ht hok hr).mono fun e w' ⟨h1, h3⟩ => ⟨_, _, [], .nil, h1, (tree_nil w).keep0 h3, ⟨⟨by simp, fun e he => by cases he⟩, by simp [KidsL.len], trivial⟩, by unfold treeB; rw [hr]; rfl, h3⟩
theorem treeB_le {es : List Ent} {ks : KidsL} (hsz : sizeT es ks ≤ 4000) : (treeB es ks).length ≤ 300020 := by
 unfold treeB
 split
 · have := encT_le (by assumption) (by omega : sizeT es ks ≤ 9223372036854775807)
   omega
 · have := encT_le (es := []) (ks := .nil) (by decide) (by decide)
   have h0 : sizeT [] .nil = 0 := rfl
   omega
theorem pPutTree_any (Q : Nat → Prop) (ob : Nat) (w : World) (v : Value) (bs : List UInt8) (es : List Ent) (ks : KidsL) (ev kv : Value) (ho : OutAt w ob v bs) (ht : TreeAt Q w ev kv es ks) (hok : TrOk es ks) (hsz : sizeT es ks ≤ 4000) (hl : bs.length ≤ 80000000) :
 Calls Tryz.prog 96 #[.pointer (some ⟨ob, 0, none⟩), .agg #[ev, kv]] w fun e w' => e = .returned (.tuple #[]) ∧ Put1 w ob v bs (treeB es ks) w' := by
 have HC := Lib.hid (fun W (f : Frm NoS w W) => tClone_all Q es ks W _ _ (ht.keep0 f) hok hsz)
 have HLE := Lib.hid (treeB_le hsz)
 obtain ⟨ae, ce, rfl⟩ := ht.ents.rd.sl
 obtain ⟨os, hkr, hfor⟩ := ht.kids
 obtain ⟨ak, ck, rfl⟩ := hkr.rd.sl
 clear hkr hfor ht hok hsz
 generalize treeB es ks = X at *
 generalize es.length = n at *
 generalize ks.len = m at *
 have HO := Lib.hid ho; clear ho
 have HA := Lib.hid (Frm.alloc NoS w (.cells #[.slice ae n ce, .slice ak m ck] 28))
 go_enter Tryz.func96, Tryz.ntmps96
 go_wp2_with (first
  | (go_at_call 137; refine (HC.out _ HA.out).mono ?_; rintro e w1 ⟨ev', kv', es', ks', rfl, hta, hok, hx, hf⟩; obtain ⟨a1, c1, rfl⟩ := hta.ents.rd.sl; obtain ⟨os3, hkr3, -⟩ := hta.kids; obtain ⟨a2, c2, rfl⟩ := hkr3.rd.sl; clear hkr3; subst hx; have HK := Lib.hid (fun ho => pput_go _ _ es' ks' w1 ob v bs _ _ (Nat.lt_succ_self _) ho hta (fun b hb hQ => by have := outS_lt HO.out b hb; have := HA.out.size; omega) hok (by have := HLE.out; omega)); generalize es'.length = n' at *; generalize ks'.len = m' at *; clear hta hok; have HF := Lib.hid (HA.out.then1 hf); clear hf)
  | (go_at_call 139; refine (HK.out (HO.out.keep0 HF.out)).mono ?_; rintro e w2 ⟨rfl, hp⟩; have HP := Lib.hid hp; clear hp))
 go_end0
 exact ⟨rfl, HP.out.base HF.out⟩
noncomputable def cauB (es : List Ent) (ks : KidsL) (c : CtxL) : List UInt8 := if tf (CauRight es ks c) then encX es ks c else encX [] .nil []
theorem caClone_no (Q : Nat → Prop) (es : List Ent) (ks : KidsL) (c : CtxL) (w : World) (ev kv cv : Value) (h : CauAt Q w ev kv cv es ks c) (hok : CauOk es ks c) (hr : ¬ CauRight es ks c) :
 Calls Tryz.prog 95 #[.agg #[ev, kv, cv]] w fun e w' => e = .returned (.agg #[.slice none 0 0, .slice none 0 0, .slice none 0 0]) ∧ Frm NoS w w' := by
 obtain ⟨a0, c0, a1, c1, a2, c2, rfl, rfl, rfl⟩ := h.shape
 have HR := Lib.hid (fun w' (f : Frm NoS w w') => tf_false hr ▸ caRight_any Q es ks c w' _ _ _ (h.keep0 f) hok)
 clear h hok hr
 generalize es.length = n at *
 generalize ks.len = m at *
 generalize c.length = k at *
 obtain ⟨hb2, hfb, hbs⟩ := two_blocks w (.cells #[.slice a0 n c0, .slice a1 m c1, .slice a2 k c2] 32) #[.slice none 0 0, .slice none 0 0, .slice none 0 0] 32
 have HB2 := Lib.hid hb2; clear hb2
 have HFB := Lib.hid hfb; clear hfb
 have HBS := Lib.hid hbs; clear hbs
 go_enter Tryz.func95, Tryz.ntmps95
 go_wp2_with (go_at_call 79; refine (HR.out _ HFB.out).mono ?_; rintro e w1 ⟨rfl, hw1⟩; obtain ⟨y0, y1, y2⟩ := box3 w _ _ _ _ w1 ((Frm.alloc NoS _ _).then1 hw1); have hblk := hw1.blk HB2.out id; have z0 := cell_at' hblk 0 rfl; have z1 := cell_at' hblk 1 rfl; have z2 := cell_at' hblk 2 rfl; have f0 := free_at' hblk 0; have f1 := free_at' hblk 1; have f2 := free_at' hblk 2; have hsb := lt_of_block hblk; have HR3 := Lib.hid (res3 hblk (HFB.out.then1 hw1) (by omega) (.slice none 0 0) (.slice none 0 0) (.slice none 0 0)); have HW1 := Lib.hid hw1; clear hw1 hblk)
 clear y0 y1 y2 z0 z1 z2
 have y0 := cell_at' HR3.out.1 0 rfl
 have y1 := cell_at' HR3.out.1 1 rfl
 have y2 := cell_at' HR3.out.1 2 rfl
 exact bodyPost_ret (v := .agg #[.slice none 0 0, .slice none 0 0, .slice none 0 0]) (by simp [results, Tryz.results95, go_sem, y0, y1, y2]) rfl ⟨rfl, HR3.out.2.1⟩
theorem caClone_all (Q : Nat → Prop) (es : List Ent) (ks : KidsL) (c : CtxL) (w : World) (ev kv cv : Value) (h : CauAt Q w ev kv cv es ks c) (hok : CauOk es ks c) :
 Calls Tryz.prog 95 #[.agg #[ev, kv, cv]] w fun e w' => ∃ ev' kv' cv' es' ks' c', e = .returned (.agg #[ev', kv', cv']) ∧ TreeAt (fun b => w.heap.size ≤ b) w' ev' kv' es' ks' ∧ RdQ (fun b => w.heap.size ≤ b) w' cv' c'.length (spC c') ∧ CauOk es' ks' c' ∧ treeB es' ks' ++ ctxB c' = cauB es ks c ∧ Frm NoS w w' := by
 by_cases hr : CauRight es ks c
 · refine (caClone_ok Q es ks c w ev kv cv h hok hr).mono fun e w' ⟨ev', kv', cv', h1, h2, h3⟩ => ⟨ev', kv', cv', es, ks, c, h1, h2, h3.rdq, hok, ?_, h3.frm⟩
   unfold cauB treeB ctxB
   rw [tf_true hr, hr.tree, tf_true hr.ctx]
   rfl
 · refine (caClone_no Q es ks c w ev kv cv h hok hr).mono fun e w' ⟨h1, h3⟩ => ⟨_, _, _, [], .nil, [], h1, (tree_nil w).keep0 h3, ⟨.inl ⟨none, rfl, rfl, rfl⟩, fun h => absurd rfl h⟩, ⟨⟨⟨by simp, fun e he => by cases he⟩, by simp [KidsL.len], trivial⟩, by decide, (fun s hs => by cases hs), by simp⟩, ?_, h3⟩
   have e1 : rightT 5 [] .nil = true := by decide
   unfold cauB treeB ctxB
   rw [tf_false hr, e1, tf_true right_nilC]
   rfl
theorem pPutCausal_any (Q : Nat → Prop) (ob : Nat) (w : World) (v : Value) (bs : List UInt8) (es : List Ent) (ks : KidsL) (c : CtxL) (ev kv cv : Value) (ho : OutAt w ob v bs) (h : CauAt Q w ev kv cv es ks c) (hok : CauOk es ks c) (hl : bs.length ≤ 79000000) :
 Calls Tryz.prog 43 #[.pointer (some ⟨ob, 0, none⟩), .agg #[ev, kv, cv]] w fun e w' => e = .returned (.tuple #[]) ∧ Put1 w ob v bs (cauB es ks c) w' := by
 have HC := Lib.hid (fun W (f : Frm NoS w W) => caClone_all Q es ks c W _ _ _ (h.keep0 f) hok)
 obtain ⟨a0, c0, a1, c1, a2, c2, rfl, rfl, rfl⟩ := h.shape
 clear h hok
 generalize cauB es ks c = X at *
 generalize es.length = n at *
 generalize ks.len = m at *
 generalize c.length = k at *
 have HO := Lib.hid ho; clear ho
 have HBX := Lib.hid (heap_alloc_new w (.cells #[.slice a0 n c0, .slice a1 m c1, .slice a2 k c2] 32))
 have HA := Lib.hid (Frm.alloc NoS w (.cells #[.slice a0 n c0, .slice a1 m c1, .slice a2 k c2] 32))
 have HAS := Lib.hid (show (w.alloc (.cells #[.slice a0 n c0, .slice a1 m c1, .slice a2 k c2] 32)).heap.size = w.heap.size + 1 by simp)
 have HNO := Lib.hid (show ¬ OutS ob v w.heap.size from fun h => by have := outS_lt HO.out _ h; omega)
 go_enter Tryz.func43, Tryz.ntmps43
 go_wp2_with (first
  | (go_at_call 95; refine (HC.out _ HA.out).mono ?_; rintro e w1 ⟨ev', kv', cv', es', ks', c', rfl, hta, hrc, hok, hx, hf⟩; obtain ⟨a3, c3, rfl⟩ := hta.ents.rd.sl; obtain ⟨os3, hkr3, -⟩ := hta.kids; obtain ⟨a4, c4, rfl⟩ := hkr3.rd.sl; clear hkr3; obtain ⟨a5, c5, rfl⟩ := hrc.rd.sl; have HXX := Lib.hid hx; clear hx
     have hblk := hf.blk HBX.out id
     have HBLK := Lib.hid hblk
     have y0 := cell_at' hblk 0 rfl
     have y1 := cell_at' hblk 1 rfl
     have y2 := cell_at' hblk 2 rfl
     have f0 := free_at' hblk 0
     have f1 := free_at' hblk 1
     have f2 := free_at' hblk 2
     have hsb := lt_of_block hblk
     have HR3 := Lib.hid (res3 (w0 := w) hblk (HA.out.then1 hf) (Nat.le_refl _) (.slice a3 es'.length c3) (.slice a4 ks'.len c4) (.slice a5 c'.length c5))
     have HTA := Lib.hid (hta.turn (Q' := fun b => w.heap.size + 1 ≤ b) fun b hb hQ => ⟨HR3.out.2.2 b (by have := HAS.out; omega), by have := HAS.out; omega⟩)
     have HRC := Lib.hid (hrc.turn (Q' := fun b => w.heap.size + 1 ≤ b ∧ b < w1.heap.size) fun b hb hQ => ⟨HR3.out.2.2 b (by have := HAS.out; omega), by have := HAS.out; omega, hb⟩)
     have HXL := Lib.hid (treeB_le (es := es') (ks := ks') (Nat.le_trans hok.small (by decide)))
     have HK := Lib.hid (pPutTree_any _ ob _ v bs es' ks' _ _ (HO.out.keep0 HR3.out.2.1) HTA.out hok.tree (Nat.le_trans hok.small (by decide)) (by omega))
     have HK2 := Lib.hid (fun W v' (f : Frm (OutS ob v) _ W) (hb : ∀ b, b < _ → OutS ob v' b → OutS ob v b) (ho : OutAt W ob v' (bs ++ treeB es' ks')) => pPutCtx_any (fun b => w.heap.size + 1 ≤ b ∧ b < w1.heap.size) ob W v' _ _ c' ho (HRC.out.keep f fun b _ hs => (by have := outS_lt HO.out b hs; omega)) (fun b hb' hQ => by have := outS_lt HO.out b (hb b hQ.2 hb'); omega) hok.fits (by have := hok.len; omega) (by have := HXL.out; rw [List.length_append]; omega))
     clear hta hrc hok hblk hf
     generalize treeB es' ks' = X1 at *
     generalize ctxB c' = X2 at *
     generalize es'.length = n' at *
     generalize ks'.len = m' at *
     generalize c'.length = k' at *)
  | (go_at_call 96; refine HK.out.mono ?_; rintro e w2 ⟨rfl, hp⟩; have y2 : w2.cell? ⟨w.heap.size, 2, none⟩ = some (.slice a5 k' c5) := hp.cell (cell_at' HR3.out.1 2 rfl) HNO.out; have HP := Lib.hid hp; clear hp)
  | (go_at_call 97; refine (HP.out.call fun v' ho hb hf => HK2.out _ v' hf (fun b hb' hs => hb b (by simpa using hb') hs) ho).mono ?_; rintro e w3 ⟨rfl, hp⟩; have HP3 := Lib.hid hp; clear hp))
 go_end0
 exact ⟨rfl, (HP3.out.base HR3.out.2.1).cast HXX.out⟩
theorem cauB_le {es : List Ent} {ks : KidsL} {c : CtxL} (hok : CauOk es ks c) : (cauB es ks c).length ≤ 300000 := by
 have h1 := hok.small
 have h2 := hok.len
 unfold cauB
 by_cases hr : CauRight es ks c
 · rw [tf_true hr, if_pos rfl]
   have g1 := encT_le hr.tree (by omega)
   have g2 := encC_le hr.ctx (by omega)
   unfold encX
   rw [List.length_append]; omega
 · rw [tf_false hr, if_neg (by decide)]
   have g1 := encT_le (es := []) (ks := .nil) (by decide) (by decide)
   have g2 := encC_le right_nilC (by simp)
   have h0 : sizeT [] .nil = 0 := rfl
   unfold encX
   rw [List.length_append]
   simp only [List.length_nil] at g2
   omega
theorem stp_cp {ops : Array Oper} {o : Oper} {a : Act} {K : Act → World → Prop} {Q : Exit → Act → World → Prop} {E : Prop} (w0 W : World) (hgd : o.guard = none) (s x : Operand)
 (ho : o.op = .call { callee := .builtin .append, args := #[s, x], argTypes := #[43, 43] }) (v : Value) (bs : List UInt8) (hp : Copy w0 v bs W) (xv : Value) (cs : List UInt8)
 (hv : a.eval s = v) (hx : a.eval x = xv) (hc : Rd W xv cs.length (bV cs)) (hl : bs.length + cs.length ≤ 140737488355328)
 (h : ∀ ad c w' t, t = bs ++ cs → Copy w0 (.slice ad t.length c) t w' → Frm (RowS v) W w' → Fresh W v (.slice ad t.length c) → K (a.put o.dst (.slice ad t.length c)) w') :
 if Region.wanted o (yielded ops a.tmps) = true then Oper.wp Tryz.prog o a W K Q else E := by
 obtain ⟨i0, hi, hz0, hz1, hz2⟩ := info_parts Tryz.info_u8
 have hw : Region.wanted o (yielded ops a.tmps) = true := by simp [Region.wanted, hgd]
 rw [if_pos hw]
 obtain ⟨v', w', hr, h2, h3, h4, ⟨ad, c', rfl⟩, h6⟩ := run_app (P := Tryz.prog) W 43 43 o.type 5 i0 (.int .u8 0) 1 1 Tryz.underlying43 hi hz0 hz1 hz2 rfl (by decide) v _ _ hp.own _ _ _ (hc.src Tryz.underlying43 (by simp) (bV_oneCell _)) (by simp only [maxLen]; omega) (by omega)
 unfold Oper.wp execOp
 simp only [ho, resolve, invoke, builtin, Sem.run_bind, Sem.run_pure, Result.andThen_ok, List.map_toArray, List.map_cons, List.map_nil, hv, hx, hr]
 have hh := h ad c' w' (bs ++ cs) rfl
 rw [List.length_append] at hh
 refine hh ?_ h3 h4
 have h2' : w'.ownsRow 0 5 1 (.slice ad (bs.length + cs.length) c') (bs ++ cs).length (bV (bs ++ cs)) := by
  rw [bV_append, List.length_append]
  exact h2
 exact hp.app h2' rfl h3 h4
theorem r16Ctx_any (w : World) (cv : Value) (c : CtxL) (hc : CtxAt w cv c) (hf : FitsC c) (hl : c.length ≤ 10000) :
 Calls Tryz.prog 103 #[cv] w (Ret w (ctxB c)) := by
 have HRT := Lib.hid (r7Right_any w cv c hc hf (by omega))
 have HC := Lib.hid hc; clear hc
 have HF := Lib.hid hf; clear hf
 obtain ⟨aA, cA, rfl⟩ := Rd.sl HC.out
 unfold ctxB
 by_cases hr : RightC c
 · rw [tf_true hr] at HRT ⊢
   clear hr
   have HE := Lib.hid (encSs_le HF.out)
   have HFIN := Lib.hid (show numB c.length ++ encSs (c.take c.length) = encC c by unfold encC; rw [List.take_length])
   have H00 := Lib.hid (show numB c.length ++ encSs (c.take 0) = numB c.length by simp [encSs])
   generalize hn : c.length = n at *
   have HN := Lib.hid hn; clear hn
   have HN10 := Lib.hid (numN_le (n := n) (by omega))
   rw [if_pos rfl]
   go_enter Tryz.func103, Tryz.ntmps103
   go_wp2_with (first
    | (go_at_call 120; refine HRT.out.mono ?_; rintro e w1 ⟨rfl, hw1⟩; have HF1 := Lib.hid hw1; clear hw1)
    | (go_at_call 101; refine (nums1 n _ w1 _ rfl ⟨by omega, by omega⟩).mono ?_; rintro e w2 ⟨a2, c2, t2, ht2, rfl, cp2⟩; have HT2 := Lib.hid ht2; clear ht2; have HP2 := Lib.hid (cp2.weaken HF1.out); clear cp2))
   go_loopw [3, 14] (fun o i ww => ∃ (k : Nat) (a : Option Addr) (cc : Nat) (t : List UInt8), k ≤ n ∧ i = .int .i64 k ∧ o = .slice a t.length cc ∧ t = numB n ++ encSs (c.take k) ∧ Copy w o t ww) (fun _ i _ => n - (intOf i).toNat)
   case atStart => exact ⟨0, a2, c2, t2, Nat.zero_le _, rfl, rfl, by rw [H00.out]; exact HT2.out, HP2.out⟩
   case round =>
    clear HP2 HT2 HF1
    obtain ⟨k, a0, c0, t0, hk, rfl, rfl, ht0, hp⟩ := hrel
    have HT0 := Lib.hid ht0; clear ht0
    by_cases hlt : k < n
    · have hlk : k < c.length := by rw [HN.out]; exact hlt
      rcases Rd.shape (show Rd w (.slice aA n cA) c.length (spC c) from HC.out) with ⟨ad, he, h0⟩ | ⟨b, off, cc, he, hmax⟩
      · exfalso; omega
      · injection he with e1 e2 e3
        subst e1 e3
        clear e2
        obtain ⟨p0, p1, p2⟩ := spn_at (c := cA) (l := c) HC.out HN.out.symm k hlk
        have hbw : b < w.heap.size := World.block_lt_of_cell? _ _ p0
        have q0 := hp.frm.cell' p0 id
        have q1 := hp.frm.cell' p1 id
        have q2 := hp.frm.cell' p2 id
        clear p0 p1 p2
        have HBW := Lib.hid hbw; clear hbw
        have hbf := HF.out _ (getD_mem (0, 0, 0) hlk)
        have HST := Lib.hid (encSs_snoc hlk)
        obtain ⟨s, hgd⟩ : ∃ s, s = c.getD k (0, 0, 0) := ⟨_, rfl⟩
        rw [← hgd] at HST q0 q1 q2 hbf
        clear hgd
        have hbl : t0.length ≤ 10 + 30 * k := by
         have h1 := HE.out k
         have h2 := HN10.out
         have h3 := congrArg List.length HT0.out
         rw [List.length_append] at h3
         omega
        have hb1 := numB_le10 hbf.1 hbf.2.1
        have hb2 := numB_le10 hbf.2.2.1 hbf.2.2.2.1
        have hb3 := numB_le10 hbf.2.2.2.2.1 hbf.2.2.2.2.2
        have HB := Lib.hid (show t0.length + (numB s.1 ++ (numB s.2.1 ++ numB s.2.2)).length ≤ 1000000 by simp only [List.length_append]; omega)
        clear hbl hb1 hb2 hb3
        have HBF := Lib.hid hbf; clear hbf
        have HP := Lib.hid (hp.step (Frm.drew NoS wr)); clear hp
        have hmx : k < n := hlt
        go_wp2_with fail
        refine wp_region_G (S := fun w' => w'.cell? ⟨b, off + k * 3, none⟩ = some (.int .i64 s.1) ∧ w'.cell? ⟨b, off + k * 3 + 1, none⟩ = some (.int .i64 s.2.1) ∧ w'.cell? ⟨b, off + k * 3 + 2, none⟩ = some (.int .i64 s.2.2)) 19 (by kernel_rfl) ⟨q0, q1, q2⟩ ?_
        clear q0 q1 q2
        intro hS
        generalize wr.drew = Y0 at *
        refine tkG 0 17 rfl rfl (v := ?_) (.inl ⟨by rfl, ?_⟩) ?_
        rotate_left 1
        · (intro w hSw; (try dsimp only at hSw); go_simp; (try with_reducible rfl))
        refine tkG 1 18 rfl rfl (v := ?_) (.inl ⟨by rfl, ?_⟩) ?_
        rotate_left 1
        · (intro w hSw; (try dsimp only at hSw); go_simp; (try with_reducible rfl))
        try simp only [Act.put, List.setIfInBounds_toArray, List.set_cons_zero, List.set_cons_succ]
        refine tkG 2 19 rfl rfl (v := ?_) (.inl ⟨by rfl, ?_⟩) ?_
        rotate_left 1
        · (intro w hSw; (try dsimp only at hSw); go_simp; (try with_reducible rfl))
        refine tkG 3 20 rfl rfl (v := ?_) (.inl ⟨by rfl, ?_⟩) ?_
        rotate_left 1
        · (intro w hSw; (try dsimp only at hSw); go_simp; (try with_reducible rfl))
        try simp only [Act.put, List.setIfInBounds_toArray, List.set_cons_zero, List.set_cons_succ]
        refine tkG 4 21 rfl rfl (v := ?_) (.inl ⟨by rfl, ?_⟩) ?_
        rotate_left 1
        · (intro w hSw; (try dsimp only at hSw); go_simp; (try with_reducible rfl))
        refine tkG 5 22 rfl rfl (v := ?_) (.inl ⟨by rfl, ?_⟩) ?_
        rotate_left 1
        · (intro w hSw; (try dsimp only at hSw); go_simp; (try with_reducible rfl))
        try simp only [Act.put, List.setIfInBounds_toArray, List.set_cons_zero, List.set_cons_succ]
        refine tkG 6 23 rfl rfl (v := ?_) (.inl ⟨by rfl, ?_⟩) ?_
        rotate_left 1
        · (intro w hSw; (try dsimp only at hSw); go_simp; (try with_reducible rfl))
        refine tkG 7 24 rfl rfl (v := ?_) (.inl ⟨by rfl, ?_⟩) ?_
        rotate_left 1
        · (intro w hSw; (try dsimp only at hSw); go_simp; (try with_reducible rfl))
        try simp only [Act.put, List.setIfInBounds_toArray, List.set_cons_zero, List.set_cons_succ]
        refine tkG 8 25 rfl rfl (v := ?_) (.inl ⟨by rfl, ?_⟩) ?_
        rotate_left 1
        · (intro w hSw; (try dsimp only at hSw); go_simp; (try with_reducible rfl))
        refine tkG 9 26 rfl rfl (v := ?_) (.inl ⟨by rfl, ?_⟩) ?_
        rotate_left 1
        · (intro w hSw; (try dsimp only at hSw); go_simp; (try with_reducible rfl))
        try simp only [Act.put, List.setIfInBounds_toArray, List.set_cons_zero, List.set_cons_succ]
        refine tkG 10 27 rfl rfl (v := ?_) (.inl ⟨by rfl, ?_⟩) ?_
        rotate_left 1
        · (intro w hSw; (try dsimp only at hSw); go_simp; (try with_reducible rfl))
        refine tkG 11 28 rfl rfl (v := ?_) (.inl ⟨by rfl, ?_⟩) ?_
        rotate_left 1
        · (intro w hSw; (try dsimp only at hSw); go_simp; (try with_reducible rfl))
        try simp only [Act.put, List.setIfInBounds_toArray, List.set_cons_zero, List.set_cons_succ]
        refine tkG 12 29 rfl rfl (v := ?_) (.inl ⟨by rfl, ?_⟩) ?_
        rotate_left 1
        · (intro w hSw; (try dsimp only at hSw); go_simp; (try with_reducible rfl))
        refine tkG 13 30 rfl rfl (v := ?_) (.inl ⟨by rfl, ?_⟩) ?_
        rotate_left 1
        · (intro w hSw; (try dsimp only at hSw); go_simp; (try with_reducible rfl))
        try simp only [Act.put, List.setIfInBounds_toArray, List.set_cons_zero, List.set_cons_succ]
        refine tkG 14 31 rfl rfl (v := ?_) (.inl ⟨by rfl, ?_⟩) ?_
        rotate_left 1
        · (intro w hSw; (try dsimp only at hSw); go_simp; (try with_reducible rfl))
        refine tkG 15 32 rfl rfl (v := ?_) (.inl ⟨by rfl, ?_⟩) ?_
        rotate_left 1
        · (intro w hSw; (try dsimp only at hSw); go_simp; (try with_reducible rfl))
        try simp only [Act.put, List.setIfInBounds_toArray, List.set_cons_zero, List.set_cons_succ]
        refine one_opG (i := 16) (by kernel_rfl) rfl (fun K hK => ?_)
        go_simp
        have hS1 : (Y0.alloc (.cells #[.int .i64 s.1, .int .i64 s.2.1, .int .i64 s.2.2] 2)).cell? ⟨b, off + k * 3, none⟩ = some (.int .i64 s.1) ∧ (Y0.alloc (.cells #[.int .i64 s.1, .int .i64 s.2.1, .int .i64 s.2.2] 2)).cell? ⟨b, off + k * 3 + 1, none⟩ = some (.int .i64 s.2.1) ∧ (Y0.alloc (.cells #[.int .i64 s.1, .int .i64 s.2.1, .int .i64 s.2.2] 2)).cell? ⟨b, off + k * 3 + 2, none⟩ = some (.int .i64 s.2.2) := ⟨(Frm.alloc NoS Y0 _).cell' hS.1 id, (Frm.alloc NoS Y0 _).cell' hS.2.1 id, (Frm.alloc NoS Y0 _).cell' hS.2.2 id⟩
        refine hK.out _ _ hS1 ?_
        clear hK K
        try simp only [Act.put, List.setIfInBounds_toArray, List.set_cons_zero, List.set_cons_succ]
        refine one_opG (i := 17) (by kernel_rfl) rfl (fun K hK => ?_)
        go_simp
        refine (nums3 s.1 s.2.1 s.2.2 _ Y0 _ rfl ⟨HBF.out.1, HBF.out.2.1⟩ ⟨HBF.out.2.2.1, HBF.out.2.2.2.1⟩ HBF.out.2.2.2.2).mono ?_
        rintro e1 Y1 ⟨a1, c1, t1, ht1, rfl, cp1⟩
        have hS2 : Y1.cell? ⟨b, off + k * 3, none⟩ = some (.int .i64 s.1) ∧ Y1.cell? ⟨b, off + k * 3 + 1, none⟩ = some (.int .i64 s.2.1) ∧ Y1.cell? ⟨b, off + k * 3 + 2, none⟩ = some (.int .i64 s.2.2) := ⟨cp1.frm.cell' hS.1 id, cp1.frm.cell' hS.2.1 id, cp1.frm.cell' hS.2.2 id⟩
        refine hK.out _ _ hS2 ?_
        clear hK K hS1 hS
        have HT1 := Lib.hid ht1; clear ht1
        have HP1 := Lib.hid (HP.out.step cp1.frm)
        have HC1 := Lib.hid cp1; clear cp1
        try simp only [Act.put, List.setIfInBounds_toArray, List.set_cons_zero, List.set_cons_succ]
        refine one_opG (i := 18) (by kernel_rfl) rfl (fun K hK => ?_)
        refine stp_cp w Y1 rfl (.tmp 17) (.tmp 34) rfl (.slice a0 t0.length c0) t0 HP1.out (.slice a1 t1.length c1) t1 (by simp [Act.eval]) (by simp [Act.eval]) HC1.out.rd (by have h1 := HB.out; have h2 := congrArg List.length HT1.out; omega) ?_
        intro ad cd Y2 t3 ht3 cp3 f3 r3
        have hn : ¬ RowS (.slice a0 t0.length c0) b := fun h => absurd HBW.out (Nat.not_lt.2 (HP1.out.new _ h))
        have hS3 : Y2.cell? ⟨b, off + k * 3, none⟩ = some (.int .i64 s.1) ∧ Y2.cell? ⟨b, off + k * 3 + 1, none⟩ = some (.int .i64 s.2.1) ∧ Y2.cell? ⟨b, off + k * 3 + 2, none⟩ = some (.int .i64 s.2.2) := ⟨f3.cell' hS2.1 hn, f3.cell' hS2.2.1 hn, f3.cell' hS2.2.2 hn⟩
        refine hK.out _ _ hS3 ?_
        clear hK K hS2 hS3 hn
        have HT3 := Lib.hid ht3; clear ht3
        have HP3 := Lib.hid cp3; clear cp3 f3 r3
        try simp only [Act.put, List.setIfInBounds_toArray, List.set_cons_zero, List.set_cons_succ]
        refine last_opG (by kernel_rfl) (by kernel_rfl) rfl (fun K hK => ?_)
        go_simp
        refine hK.out _ _ ?_
        clear hK K
        go_wp2
        go_roundw
        case rel => exact ⟨k + 1, ad, cd, t3, by omega, by go_num, rfl, by rw [HST.out, HT3.out, HT0.out, HT1.out]; unfold encS; simp only [List.append_assoc], HP3.out⟩
        case measure => simp [intOf]; omega
    · obtain rfl : n = k := by omega
      have HP0 := Lib.hid hp; clear hp
      go_wp2
      go_ret
      exact ⟨a0, c0, t0, by rw [HT0.out, HFIN.out], rfl, HP0.out⟩
 · rw [tf_false hr] at HRT ⊢
   clear hr
   rw [if_neg (by decide), encC_nil]
   go_enter Tryz.func103, Tryz.ntmps103
   go_wp2_with (first
    | (go_at_call 120; refine HRT.out.mono ?_; rintro e w1 ⟨rfl, hw1⟩; have HF1 := Lib.hid hw1; clear hw1)
    | (go_at_call 101; refine (nums1 0 _ w1 _ rfl ⟨by omega, by omega⟩).mono ?_; rintro e w2 ⟨a2, c2, t2, ht2, rfl, cp2⟩; have HT2 := Lib.hid ht2; clear ht2; have HP2 := Lib.hid (cp2.weaken HF1.out); clear cp2))
   go_loopw [3, 14] (fun o i ww => i = .int .i64 0 ∧ o = .slice a2 t2.length c2 ∧ ww = w2) (fun _ _ _ => 0)
   case atStart => exact ⟨rfl, rfl, rfl⟩
   case round =>
    obtain ⟨rfl, rfl, rfl⟩ := hrel
    go_wp2
    go_ret
    exact ⟨a2, c2, t2, HT2.out, rfl, HP2.out⟩
theorem r16Tree_any (Q : Nat → Prop) (es : List Ent) (ks : KidsL) (w : World) (ev kv : Value) (ht : TreeAt Q w ev kv es ks) (hok : TrOk es ks) (hsz : sizeT es ks ≤ 4000) :
 Calls Tryz.prog 102 #[.agg #[ev, kv]] w (Ret w (treeB es ks)) := by
 obtain ⟨ae, ce, rfl⟩ := ht.ents.rd.sl
 obtain ⟨os, hkr, hfor⟩ := ht.kids
 obtain ⟨ak, ck, rfl⟩ := hkr.rd.sl
 clear hkr hfor
 have HRT := Lib.hid (fun W (f : Frm NoS w W) => r8Right_any Q es ks W _ _ (ht.keep0 f) hok)
 unfold treeB
 cases hr : rightT 5 es ks with
 | true =>
  rw [hr] at HRT
  have hle := encT_le hr (by omega)
  have HPL := Lib.hid (fun W (f : Frm NoS w W) => r16plain_any _ Q es ks W _ _ (Nat.lt_succ_self _) (ht.keep0 f) hok (by omega))
  clear ht hok hr hle
  rw [if_pos rfl]
  generalize encT es ks = X at *
  generalize es.length = n at *
  generalize ks.len = m at *
  go_enter Tryz.func102, Tryz.ntmps102
  go_wp2_with (first
   | (go_at_call 119; refine (HRT.out _ (Frm.alloc _ _ _)).mono ?_; rintro e w1 ⟨rfl, hw1⟩; obtain ⟨y0, y1⟩ := box2 w _ _ _ w1 hw1; have HF1 := Lib.hid ((Frm.alloc NoS _ _).then1 hw1); clear hw1)
   | (go_at_call 141; refine (HPL.out _ HF1.out).mono ?_; rintro e w2 ⟨a2, c2, t2, ht2, rfl, cp2⟩; have HT2 := Lib.hid ht2; clear ht2; have HP2 := Lib.hid (cp2.weaken HF1.out); clear cp2))
  go_ret
  exact ⟨a2, c2, t2, HT2.out, rfl, HP2.out⟩
 | false =>
  rw [hr] at HRT
  have HPL := Lib.hid (fun W => r16plain_any 1 (fun b => W.heap.size ≤ b) [] .nil W _ _ (by decide) (tree_nil W) trOk_nil (by have := encT_le (es := []) (ks := .nil) (by decide) (by decide); have h0 : sizeT [] .nil = 0 := rfl; omega))
  clear ht hok hr
  rw [if_neg (by decide)]
  generalize encT [] .nil = X at *
  generalize es.length = n at *
  generalize ks.len = m at *
  go_enter Tryz.func102, Tryz.ntmps102
  go_wp2_with (first
   | (go_at_call 119; refine (HRT.out _ (Frm.alloc _ _ _)).mono ?_; rintro e w1 ⟨rfl, hw1⟩; have HF1 := Lib.hid ((Frm.alloc NoS _ _).then1 hw1); clear hw1)
   | (go_at_call 141; refine (HPL.out _).mono ?_; rintro e w2 ⟨a2, c2, t2, ht2, rfl, cp2⟩; have HT2 := Lib.hid ht2; clear ht2; have HP2 := Lib.hid (cp2.weaken HF1.out); clear cp2))
  go_ret
  exact ⟨a2, c2, t2, HT2.out, rfl, HP2.out⟩
theorem ctxB_le {c : CtxL} (hl : c.length ≤ 2000) : (ctxB c).length ≤ 60010 := by
 unfold ctxB
 by_cases hr : RightC c
 · rw [tf_true hr, if_pos rfl]
   have := encC_le hr (by omega)
   omega
 · rw [tf_false hr, if_neg (by decide)]
   have := encC_le right_nilC (by simp)
   simp only [List.length_nil] at this
   omega
theorem r16Causal_any (Q : Nat → Prop) (es : List Ent) (ks : KidsL) (c : CtxL) (w : World) (ev kv cv : Value) (h : CauAt Q w ev kv cv es ks c) (hok : CauOk es ks c) :
 Calls Tryz.prog 49 #[.agg #[ev, kv, cv]] w (Ret w (cauB es ks c)) := by
 have HR := Lib.hid (fun W (f : Frm NoS w W) => r9Right_any Q es ks c W _ _ _ (h.keep0 f) hok)
 obtain ⟨a0, c0, b1, d1, b2, d2, rfl, rfl, rfl⟩ := h.shape
 by_cases hr : CauRight es ks c
 · rw [tf_true hr] at HR
   have HFIN := Lib.hid (show treeB es ks ++ ctxB c = cauB es ks c by
    unfold cauB treeB ctxB
    rw [tf_true hr, hr.tree, tf_true hr.ctx]
    rfl)
   have HL1 := Lib.hid (treeB_le (es := es) (ks := ks) (Nat.le_trans hok.small (by decide)))
   have HL2 := Lib.hid (ctxB_le hok.len)
   have HTR0 := Lib.hid (fun W (f : Frm NoS w W) => r16Tree_any Q es ks W _ _ (h.keep0 f).tree hok.tree (Nat.le_trans hok.small (by decide)))
   have HCX0 := Lib.hid (fun W (f : Frm NoS w W) => r16Ctx_any W _ c (h.keep0 f).ctx hok.fits (by have := hok.len; omega))
   clear h hok hr
   generalize treeB es ks = X1 at *
   generalize ctxB c = X2 at *
   generalize cauB es ks c = X at *
   generalize es.length = n at *
   generalize ks.len = m at *
   generalize c.length = k at *
   go_enter Tryz.func49, Tryz.ntmps49
   go_wp2_with (go_at_call 72; refine (HR.out _ (Frm.alloc _ _ _)).mono ?_; rintro e w1 ⟨rfl, hw1⟩; obtain ⟨x0, x1, x2⟩ := box3 w _ _ _ _ w1 hw1; have HF1 := Lib.hid ((Frm.alloc NoS _ _).then1 hw1); clear hw1)
   · have HYB := Lib.hid (HF1.out.then1 (Frm.drew NoS w1))
     have hnb : w.heap.size < w1.drew.heap.size := World.block_lt_of_cell? _ _ x0
     have HNB := Lib.hid hnb; clear hnb
     have y0 : w1.drew.cell? ⟨w.heap.size, 0, none⟩ = some (.slice a0 n c0) := x0
     have y1 : w1.drew.cell? ⟨w.heap.size, 1, none⟩ = some (.slice b1 m d1) := x1
     have y2 : w1.drew.cell? ⟨w.heap.size, 2, none⟩ = some (.slice b2 k d2) := x2
     clear x0 x1 x2
     refine wp_region_G (S := fun w' => Frm NoS w1.drew w' ∧ w'.cell? ⟨w.heap.size, 0, none⟩ = some (.slice a0 n c0) ∧ w'.cell? ⟨w.heap.size, 1, none⟩ = some (.slice b1 m d1) ∧ w'.cell? ⟨w.heap.size, 2, none⟩ = some (.slice b2 k d2)) 7 (by kernel_rfl) ⟨Frm.refl _ _, y0, y1, y2⟩ ?_
     intro hS
     clear y0 y1 y2
     generalize w1.drew = YB at *
     have HTR := Lib.hid (fun W (f : Frm NoS YB W) => HTR0.out W (HYB.out.then1 f))
     have HCX := Lib.hid (fun W (f : Frm NoS YB W) => HCX0.out W (HYB.out.then1 f))
     clear HTR0 HCX0
     refine tkG 0 7 rfl rfl (v := ?_) (.inl ⟨by rfl, ?_⟩) ?_
     rotate_left 1
     · (intro w hSw; (try dsimp only at hSw); go_simp; (try with_reducible rfl))
     refine tkG 1 8 rfl rfl (v := ?_) (.inl ⟨by rfl, ?_⟩) ?_
     rotate_left 1
     · (intro w hSw; (try dsimp only at hSw); go_simp; (try with_reducible rfl))
     try simp only [Act.put, List.setIfInBounds_toArray, List.set_cons_zero, List.set_cons_succ]
     refine tkG 3 10 rfl rfl (v := ?_) (.inl ⟨by rfl, ?_⟩) ?_
     rotate_left 1
     · (intro w hSw; (try dsimp only at hSw); go_simp; (try with_reducible rfl))
     refine tkG 4 11 rfl rfl (v := ?_) (.inl ⟨by rfl, ?_⟩) ?_
     rotate_left 1
     · (intro w hSw; (try dsimp only at hSw); go_simp; (try with_reducible rfl))
     try simp only [Act.put, List.setIfInBounds_toArray, List.set_cons_zero, List.set_cons_succ]
     refine one_opG (i := 2) (by kernel_rfl) rfl (fun K hK => ?_)
     go_simp
     refine (HTR.out _ hS.1).mono ?_
     rintro e1 YT ⟨a1, c1, t1, ht1, rfl, cp1⟩
     have hS' : Frm NoS YB YT ∧ YT.cell? ⟨w.heap.size, 0, none⟩ = some (.slice a0 n c0) ∧ YT.cell? ⟨w.heap.size, 1, none⟩ = some (.slice b1 m d1) ∧ YT.cell? ⟨w.heap.size, 2, none⟩ = some (.slice b2 k d2) := ⟨hS.1.then1 cp1.frm, cp1.frm.cell' hS.2.1 id, cp1.frm.cell' hS.2.2.1 id, cp1.frm.cell' hS.2.2.2 id⟩
     refine hK.out _ _ hS' ?_
     have HT1 := Lib.hid ht1; clear ht1
     have HX1 := Lib.hid cp1.frm
     have HP1 := Lib.hid (cp1.weaken hS.1); clear cp1
     clear hK K hS
     have hS := hS'
     clear hS'
     try simp only [Act.put, List.setIfInBounds_toArray, List.set_cons_zero, List.set_cons_succ]
     refine one_opG (i := 5) (by kernel_rfl) rfl (fun K hK => ?_)
     go_simp
     refine (HCX.out _ hS.1).mono ?_
     rintro e1 YC ⟨a2, c2, t2, ht2, rfl, cp2⟩
     have hS' : Frm NoS YB YC ∧ YC.cell? ⟨w.heap.size, 0, none⟩ = some (.slice a0 n c0) ∧ YC.cell? ⟨w.heap.size, 1, none⟩ = some (.slice b1 m d1) ∧ YC.cell? ⟨w.heap.size, 2, none⟩ = some (.slice b2 k d2) := ⟨hS.1.then1 cp2.frm, cp2.frm.cell' hS.2.1 id, cp2.frm.cell' hS.2.2.1 id, cp2.frm.cell' hS.2.2.2 id⟩
     refine hK.out _ _ hS' ?_
     have HT2 := Lib.hid ht2; clear ht2
     have HX2 := Lib.hid cp2.frm
     have HP2 := Lib.hid (cp2.weaken hS.1); clear cp2
     clear hK K hS
     have hS := hS'
     clear hS'
     try simp only [Act.put, List.setIfInBounds_toArray, List.set_cons_zero, List.set_cons_succ]
     refine one_opG (i := 6) (by kernel_rfl) rfl (fun K hK => ?_)
     refine stp_cp YB _ rfl (.tmp 9) (.tmp 12) rfl (.slice a1 t1.length c1) t1 (by first | exact HP1.out | exact HP1.out.step HX2.out) (.slice a2 t2.length c2) t2 (by simp [Act.eval]) (by simp [Act.eval]) (by first | exact HP2.out.rd | exact (HP2.out.step HX1.out).rd) (by have h1 := congrArg List.length HT1.out; have h2 := congrArg List.length HT2.out; have := HL1.out; have := HL2.out; omega) ?_
     intro ad cd Y3 t3 ht3 cp3 f3 r3
     have hnw : ∀ b, RowS (.slice a1 t1.length c1) b → b < YB.heap.size → False := fun b h hb => absurd hb (Nat.not_lt.2 (HP1.out.new b h))
     have hn : ¬ RowS (.slice a1 t1.length c1) w.heap.size := fun h => hnw _ h HNB.out
     refine hK.out _ _ ⟨hS.1.trans f3 fun j hj hs => hnw j hs hj, f3.cell' hS.2.1 hn, f3.cell' hS.2.2.1 hn, f3.cell' hS.2.2.2 hn⟩ ?_
     clear hK K hS hn hnw
     have HT3 := Lib.hid ht3; clear ht3
     have HP3 := Lib.hid cp3; clear cp3 f3 r3
     try simp only [Act.put, List.setIfInBounds_toArray, List.set_cons_zero, List.set_cons_succ]
     refine last_opG (by kernel_rfl) (by kernel_rfl) rfl (fun K hK => ?_)
     go_simp
     refine hK.out _ _ ?_
     clear hK K
     go_wp2
     go_ret
     exact ⟨ad, cd, t3, by rw [HT3.out, HT1.out, HT2.out, HFIN.out], rfl, HP3.out.weaken HYB.out⟩
 · rw [tf_false hr] at HR
   have e1 : rightT 5 [] .nil = true := by decide
   have HFIN := Lib.hid (show treeB [] .nil ++ ctxB [] = cauB es ks c by
    unfold cauB treeB ctxB
    rw [tf_false hr, e1, tf_true right_nilC]
    rfl)
   have HL1 := Lib.hid (treeB_le (es := []) (ks := .nil) (by decide))
   have HL2 := Lib.hid (ctxB_le (c := []) (by simp))
   have HTR0 := Lib.hid (fun W => r16Tree_any _ [] .nil W _ _ (tree_nil W) trOk_nil (by decide))
   have HCX0 := Lib.hid (fun W => r16Ctx_any W (.slice none 0 0) [] (.inl ⟨none, rfl, rfl, rfl⟩) (fun s hs => by cases hs) (by simp))
   clear h hok hr e1
   generalize treeB [] .nil = X1 at *
   generalize ctxB [] = X2 at *
   generalize cauB es ks c = X at *
   generalize es.length = n at *
   generalize ks.len = m at *
   generalize c.length = k at *
   have HBX := Lib.hid (heap_alloc_new w (.cells #[.slice a0 n c0, .slice b1 m d1, .slice b2 k d2] 32))
   go_enter Tryz.func49, Tryz.ntmps49
   go_wp2_with (go_at_call 72; refine (HR.out _ (Frm.alloc _ _ _)).mono ?_; rintro e w1 ⟨rfl, hw1⟩; have hb1 := hw1.blk HBX.out id; have f0 := free_at' hb1 0; have f1 := free_at' hb1 1; have f2 := free_at' hb1 2; have hlb := lt_of_block hb1; have x0 := cell_at' hb1 0 rfl; have x1 := cell_at' hb1 1 rfl; have x2 := cell_at' hb1 2 rfl; have HR3 := Lib.hid (res3 hb1 ((Frm.alloc NoS w _).then1 hw1) (Nat.le_refl _) (.slice none 0 0) (.slice none 0 0) (.slice none 0 0)); clear hw1 hb1)
   · clear x0 x1 x2 f0 f1 f2 hlb
     generalize ((w1.setCell ⟨w.heap.size, 0, none⟩ (.slice none 0 0)).setCell ⟨w.heap.size, 1, none⟩ (.slice none 0 0)).setCell ⟨w.heap.size, 2, none⟩ (.slice none 0 0) = W1 at *
     have HYB := Lib.hid (HR3.out.2.1.then1 (Frm.drew NoS _))
     have y0 := cell_at' ((Frm.drew NoS _).blk HR3.out.1 id) 0 rfl
     have y1 := cell_at' ((Frm.drew NoS _).blk HR3.out.1 id) 1 rfl
     have y2 := cell_at' ((Frm.drew NoS _).blk HR3.out.1 id) 2 rfl
     have hnb := World.block_lt_of_cell? _ _ y0
     have HNB := Lib.hid hnb; clear hnb HR3
     refine wp_region_G (S := fun w' => Frm NoS W1.drew w' ∧ w'.cell? ⟨w.heap.size, 0, none⟩ = some (.slice none 0 0) ∧ w'.cell? ⟨w.heap.size, 1, none⟩ = some (.slice none 0 0) ∧ w'.cell? ⟨w.heap.size, 2, none⟩ = some (.slice none 0 0)) 7 (by kernel_rfl) ⟨Frm.refl _ _, y0, y1, y2⟩ ?_
     intro hS
     clear y0 y1 y2
     generalize W1.drew = YB at *
     have HTR := Lib.hid (fun W (f : Frm NoS YB W) => HTR0.out W)
     have HCX := Lib.hid (fun W (f : Frm NoS YB W) => HCX0.out W)
     clear HTR0 HCX0
     refine tkG 0 7 rfl rfl (v := ?_) (.inl ⟨by rfl, ?_⟩) ?_
     rotate_left 1
     · (intro w hSw; (try dsimp only at hSw); go_simp; (try with_reducible rfl))
     refine tkG 1 8 rfl rfl (v := ?_) (.inl ⟨by rfl, ?_⟩) ?_
     rotate_left 1
     · (intro w hSw; (try dsimp only at hSw); go_simp; (try with_reducible rfl))
     try simp only [Act.put, List.setIfInBounds_toArray, List.set_cons_zero, List.set_cons_succ]
     refine tkG 3 10 rfl rfl (v := ?_) (.inl ⟨by rfl, ?_⟩) ?_
     rotate_left 1
     · (intro w hSw; (try dsimp only at hSw); go_simp; (try with_reducible rfl))
     refine tkG 4 11 rfl rfl (v := ?_) (.inl ⟨by rfl, ?_⟩) ?_
     rotate_left 1
     · (intro w hSw; (try dsimp only at hSw); go_simp; (try with_reducible rfl))
     try simp only [Act.put, List.setIfInBounds_toArray, List.set_cons_zero, List.set_cons_succ]
     refine one_opG (i := 2) (by kernel_rfl) rfl (fun K hK => ?_)
     go_simp
     refine (HTR.out _ hS.1).mono ?_
     rintro e1 YT ⟨a1, c1, t1, ht1, rfl, cp1⟩
     have hS' : Frm NoS YB YT ∧ YT.cell? ⟨w.heap.size, 0, none⟩ = some (.slice none 0 0) ∧ YT.cell? ⟨w.heap.size, 1, none⟩ = some (.slice none 0 0) ∧ YT.cell? ⟨w.heap.size, 2, none⟩ = some (.slice none 0 0) := ⟨hS.1.then1 cp1.frm, cp1.frm.cell' hS.2.1 id, cp1.frm.cell' hS.2.2.1 id, cp1.frm.cell' hS.2.2.2 id⟩
     refine hK.out _ _ hS' ?_
     have HT1 := Lib.hid ht1; clear ht1
     have HX1 := Lib.hid cp1.frm
     have HP1 := Lib.hid (cp1.weaken hS.1); clear cp1
     clear hK K hS
     have hS := hS'
     clear hS'
     try simp only [Act.put, List.setIfInBounds_toArray, List.set_cons_zero, List.set_cons_succ]
     refine one_opG (i := 5) (by kernel_rfl) rfl (fun K hK => ?_)
     go_simp
     refine (HCX.out _ hS.1).mono ?_
     rintro e1 YC ⟨a2, c2, t2, ht2, rfl, cp2⟩
     have hS' : Frm NoS YB YC ∧ YC.cell? ⟨w.heap.size, 0, none⟩ = some (.slice none 0 0) ∧ YC.cell? ⟨w.heap.size, 1, none⟩ = some (.slice none 0 0) ∧ YC.cell? ⟨w.heap.size, 2, none⟩ = some (.slice none 0 0) := ⟨hS.1.then1 cp2.frm, cp2.frm.cell' hS.2.1 id, cp2.frm.cell' hS.2.2.1 id, cp2.frm.cell' hS.2.2.2 id⟩
     refine hK.out _ _ hS' ?_
     have HT2 := Lib.hid ht2; clear ht2
     have HX2 := Lib.hid cp2.frm
     have HP2 := Lib.hid (cp2.weaken hS.1); clear cp2
     clear hK K hS
     have hS := hS'
     clear hS'
     try simp only [Act.put, List.setIfInBounds_toArray, List.set_cons_zero, List.set_cons_succ]
     refine one_opG (i := 6) (by kernel_rfl) rfl (fun K hK => ?_)
     refine stp_cp YB _ rfl (.tmp 9) (.tmp 12) rfl (.slice a1 t1.length c1) t1 (by first | exact HP1.out | exact HP1.out.step HX2.out) (.slice a2 t2.length c2) t2 (by simp [Act.eval]) (by simp [Act.eval]) (by first | exact HP2.out.rd | exact (HP2.out.step HX1.out).rd) (by have h1 := congrArg List.length HT1.out; have h2 := congrArg List.length HT2.out; have := HL1.out; have := HL2.out; omega) ?_
     intro ad cd Y3 t3 ht3 cp3 f3 r3
     have hnw : ∀ b, RowS (.slice a1 t1.length c1) b → b < YB.heap.size → False := fun b h hb => absurd hb (Nat.not_lt.2 (HP1.out.new b h))
     have hn : ¬ RowS (.slice a1 t1.length c1) w.heap.size := fun h => hnw _ h HNB.out
     refine hK.out _ _ ⟨hS.1.trans f3 fun j hj hs => hnw j hs hj, f3.cell' hS.2.1 hn, f3.cell' hS.2.2.1 hn, f3.cell' hS.2.2.2 hn⟩ ?_
     clear hK K hS hn hnw
     have HT3 := Lib.hid ht3; clear ht3
     have HP3 := Lib.hid cp3; clear cp3 f3 r3
     try simp only [Act.put, List.setIfInBounds_toArray, List.set_cons_zero, List.set_cons_succ]
     refine last_opG (by kernel_rfl) (by kernel_rfl) rfl (fun K hK => ?_)
     go_simp
     refine hK.out _ _ ?_
     clear hK K
     go_wp2
     go_ret
     exact ⟨ad, cd, t3, by rw [HT3.out, HT1.out, HT2.out, HFIN.out], rfl, HP3.out.weaken HYB.out⟩
noncomputable def vecB (v0 v1 v2 v3 : Int) : List UInt8 := if tf (MayV (vecF v0 v1 v2 v3)) = true then encV v0 v1 v2 v3 else encV 0 0 0 0
theorem r16Vec_any (w : World) (v0 v1 v2 v3 : Int) :
 Calls Tryz.prog 47 #[.agg #[.int .i64 v0, .int .i64 v1, .int .i64 v2, .int .i64 v3]] w (Ret w (vecB v0 v1 v2 v3)) := by
 have HMY := Lib.hid (fun W => r7May_any W v0 v1 v2 v3)
 unfold vecV at HMY
 unfold vecB
 have HBX := Lib.hid (heap_alloc_new w (.cells #[.int .i64 v0, .int .i64 v1, .int .i64 v2, .int .i64 v3] 23))
 by_cases hm : MayV (vecF v0 v1 v2 v3)
 · rw [tf_true hm] at HMY ⊢
   rw [if_pos rfl]
   have hbd := mayV4 hm
   have HB := Lib.hid (show inR v0 ∧ inR v1 ∧ inR v2 ∧ inR v3 ∧ True from ⟨⟨by omega, by omega⟩, ⟨by omega, by omega⟩, ⟨by omega, by omega⟩, ⟨by omega, by omega⟩, trivial⟩)
   clear hm hbd
   go_enter Tryz.func47, Tryz.ntmps47
   go_wp2_with (go_at_call 36; refine (HMY.out _).mono ?_; rintro e w1 ⟨rfl, hw1⟩; have hb1 := hw1.blk HBX.out id; have hlb := lt_of_block hb1; have y0 := cell_at' hb1 0 rfl; have y1 := cell_at' hb1 1 rfl; have y2 := cell_at' hb1 2 rfl; have y3 := cell_at' hb1 3 rfl; have HF1 := Lib.hid ((Frm.alloc NoS w _).then1 hw1); clear hw1 hb1)
   have HY0 := Lib.hid y0; have HY1 := Lib.hid y1; have HY2 := Lib.hid y2; have HY3 := Lib.hid y3
   clear y0 y1 y2 y3 HMY HBX
   go_loopw [3, 9] (fun o i ww => ∃ (k : Nat) (a : Option Addr) (cc : Nat) (t : List UInt8), ((k = 0 ∧ t = []) ∨ (k = 1 ∧ t = numB (v0)) ∨ (k = 2 ∧ t = numB (v0) ++ numB (v1)) ∨ (k = 3 ∧ t = numB (v0) ++ numB (v1) ++ numB (v2)) ∨ (k = 4 ∧ t = numB (v0) ++ numB (v1) ++ numB (v2) ++ numB (v3))) ∧ i = .int .i64 k ∧ o = .slice a t.length cc ∧ Copy w1 o t ww) (fun _ i _ => 4 - (intOf i).toNat)
   case atStart => exact ⟨0, none, 0, [], .inl ⟨rfl, rfl⟩, rfl, rfl, Copy.nil w1⟩
   case round =>
    obtain ⟨k, a0, c0, t0, hcase, rfl, rfl, hp⟩ := hrel
    have HP := Lib.hid hp; clear hp
    rcases hcase with ⟨rfl, ht0⟩ | ⟨rfl, ht0⟩ | ⟨rfl, ht0⟩ | ⟨rfl, ht0⟩ | ⟨rfl, ht0⟩
    · have q0 := HP.out.frm.cell' HY0.out id
      have HT0 := Lib.hid ht0; clear ht0
      have HL := Lib.hid (show t0.length ≤ 40 by rw [HT0.out]; have a0 := numB_le10 HB.out.1.1 HB.out.1.2; have a1 := numB_le10 HB.out.2.1.1 HB.out.2.1.2; have a2 := numB_le10 HB.out.2.2.1.1 HB.out.2.2.1.2; have a3 := numB_le10 HB.out.2.2.2.1.1 HB.out.2.2.2.1.2; (try simp only [List.length_append, List.length_nil]); omega)
      have HX := Lib.hid (numB_le10 HB.out.1.1 HB.out.1.2)
      go_wp2_with (first
       | (go_at_call 101; refine (nums1 v0 _ wr _ rfl HB.out.1).mono ?_; rintro e w2 ⟨a1, c1, t1, ht1, rfl, cp1⟩; have HT1 := Lib.hid ht1; clear ht1; have HP1 := Lib.hid (HP.out.step cp1.frm); have HC1 := Lib.hid cp1; clear cp1)
       | (at_builtin; refine app_cp w1 w2 rfl (.tmp 12) (.tmp 17) rfl _ t0 HP1.out _ t1 rfl rfl HC1.out.rd ?c1 ?_))
      case c1 =>
       have := HL.out
       have := HX.out
       have := congrArg List.length HT1.out
       omega
      intro ad c2 w3 t2 HT2 e2 _ _
      have HTT := Lib.hid (show t2 = numB (v0) by rw [HT2, HT0.out, HT1.out]; rfl)
      have E2 := Lib.hid e2; clear e2 HT2
      go_wp2
      go_roundw
      case rel => exact ⟨1, ad, c2, t2, .inr (.inl ⟨rfl, HTT.out⟩), by go_num, rfl, E2.out⟩
      case measure => simp [intOf]
    · have q1 := HP.out.frm.cell' HY1.out id
      have HT0 := Lib.hid ht0; clear ht0
      have HL := Lib.hid (show t0.length ≤ 40 by rw [HT0.out]; have a0 := numB_le10 HB.out.1.1 HB.out.1.2; have a1 := numB_le10 HB.out.2.1.1 HB.out.2.1.2; have a2 := numB_le10 HB.out.2.2.1.1 HB.out.2.2.1.2; have a3 := numB_le10 HB.out.2.2.2.1.1 HB.out.2.2.2.1.2; (try simp only [List.length_append, List.length_nil]); omega)
      have HX := Lib.hid (numB_le10 HB.out.2.1.1 HB.out.2.1.2)
      go_wp2_with (first
       | (go_at_call 101; refine (nums1 v1 _ wr _ rfl HB.out.2.1).mono ?_; rintro e w2 ⟨a1, c1, t1, ht1, rfl, cp1⟩; have HT1 := Lib.hid ht1; clear ht1; have HP1 := Lib.hid (HP.out.step cp1.frm); have HC1 := Lib.hid cp1; clear cp1)
       | (at_builtin; refine app_cp w1 w2 rfl (.tmp 12) (.tmp 17) rfl _ t0 HP1.out _ t1 rfl rfl HC1.out.rd ?c1 ?_))
      case c1 =>
       have := HL.out
       have := HX.out
       have := congrArg List.length HT1.out
       omega
      intro ad c2 w3 t2 HT2 e2 _ _
      have HTT := Lib.hid (show t2 = numB (v0) ++ numB (v1) by rw [HT2, HT0.out, HT1.out])
      have E2 := Lib.hid e2; clear e2 HT2
      go_wp2
      go_roundw
      case rel => exact ⟨2, ad, c2, t2, .inr (.inr (.inl ⟨rfl, HTT.out⟩)), by go_num, rfl, E2.out⟩
      case measure => simp [intOf]
    · have q2 := HP.out.frm.cell' HY2.out id
      have HT0 := Lib.hid ht0; clear ht0
      have HL := Lib.hid (show t0.length ≤ 40 by rw [HT0.out]; have a0 := numB_le10 HB.out.1.1 HB.out.1.2; have a1 := numB_le10 HB.out.2.1.1 HB.out.2.1.2; have a2 := numB_le10 HB.out.2.2.1.1 HB.out.2.2.1.2; have a3 := numB_le10 HB.out.2.2.2.1.1 HB.out.2.2.2.1.2; (try simp only [List.length_append, List.length_nil]); omega)
      have HX := Lib.hid (numB_le10 HB.out.2.2.1.1 HB.out.2.2.1.2)
      go_wp2_with (first
       | (go_at_call 101; refine (nums1 v2 _ wr _ rfl HB.out.2.2.1).mono ?_; rintro e w2 ⟨a1, c1, t1, ht1, rfl, cp1⟩; have HT1 := Lib.hid ht1; clear ht1; have HP1 := Lib.hid (HP.out.step cp1.frm); have HC1 := Lib.hid cp1; clear cp1)
       | (at_builtin; refine app_cp w1 w2 rfl (.tmp 12) (.tmp 17) rfl _ t0 HP1.out _ t1 rfl rfl HC1.out.rd ?c1 ?_))
      case c1 =>
       have := HL.out
       have := HX.out
       have := congrArg List.length HT1.out
       omega
      intro ad c2 w3 t2 HT2 e2 _ _
      have HTT := Lib.hid (show t2 = numB (v0) ++ numB (v1) ++ numB (v2) by rw [HT2, HT0.out, HT1.out])
      have E2 := Lib.hid e2; clear e2 HT2
      go_wp2
      go_roundw
      case rel => exact ⟨3, ad, c2, t2, .inr (.inr (.inr (.inl ⟨rfl, HTT.out⟩))), by go_num, rfl, E2.out⟩
      case measure => simp [intOf]
    · have q3 := HP.out.frm.cell' HY3.out id
      have HT0 := Lib.hid ht0; clear ht0
      have HL := Lib.hid (show t0.length ≤ 40 by rw [HT0.out]; have a0 := numB_le10 HB.out.1.1 HB.out.1.2; have a1 := numB_le10 HB.out.2.1.1 HB.out.2.1.2; have a2 := numB_le10 HB.out.2.2.1.1 HB.out.2.2.1.2; have a3 := numB_le10 HB.out.2.2.2.1.1 HB.out.2.2.2.1.2; (try simp only [List.length_append, List.length_nil]); omega)
      have HX := Lib.hid (numB_le10 HB.out.2.2.2.1.1 HB.out.2.2.2.1.2)
      go_wp2_with (first
       | (go_at_call 101; refine (nums1 v3 _ wr _ rfl HB.out.2.2.2.1).mono ?_; rintro e w2 ⟨a1, c1, t1, ht1, rfl, cp1⟩; have HT1 := Lib.hid ht1; clear ht1; have HP1 := Lib.hid (HP.out.step cp1.frm); have HC1 := Lib.hid cp1; clear cp1)
       | (at_builtin; refine app_cp w1 w2 rfl (.tmp 12) (.tmp 17) rfl _ t0 HP1.out _ t1 rfl rfl HC1.out.rd ?c1 ?_))
      case c1 =>
       have := HL.out
       have := HX.out
       have := congrArg List.length HT1.out
       omega
      intro ad c2 w3 t2 HT2 e2 _ _
      have HTT := Lib.hid (show t2 = numB (v0) ++ numB (v1) ++ numB (v2) ++ numB (v3) by rw [HT2, HT0.out, HT1.out])
      have E2 := Lib.hid e2; clear e2 HT2
      go_wp2
      go_roundw
      case rel => exact ⟨4, ad, c2, t2, .inr (.inr (.inr (.inr ⟨rfl, HTT.out⟩))), by go_num, rfl, E2.out⟩
      case measure => simp [intOf]
    · have HT0 := Lib.hid ht0; clear ht0
      go_wp2
      go_ret
      exact ⟨a0, c0, t0, by rw [HT0.out]; unfold encV; simp only [List.append_assoc], rfl, HP.out.weaken HF1.out⟩
 · rw [tf_false hm] at HMY ⊢
   rw [if_neg (by decide)]
   have HB := Lib.hid (show inR 0 ∧ inR 0 ∧ inR 0 ∧ inR 0 ∧ True from ⟨⟨by decide, by decide⟩, ⟨by decide, by decide⟩, ⟨by decide, by decide⟩, ⟨by decide, by decide⟩, trivial⟩)
   clear hm
   go_enter Tryz.func47, Tryz.ntmps47
   go_wp2_with (go_at_call 36; refine (HMY.out _).mono ?_; rintro e w0 ⟨rfl, hw1⟩; have hb1 := hw1.blk HBX.out id; have f0 := free_at' hb1 0; have f1 := free_at' hb1 1; have f2 := free_at' hb1 2; have f3 := free_at' hb1 3; have hl0 := lt_of_block hb1; have x0 := cell_at' hb1 0 rfl; have x1 := cell_at' hb1 1 rfl; have x2 := cell_at' hb1 2 rfl; have x3 := cell_at' hb1 3 rfl; have HF0 := Lib.hid ((Frm.alloc NoS w _).then1 hw1); have HB1 := Lib.hid hb1; clear hw1 hb1)
   clear x0 x1 x2 x3 f0 f1 f2 f3 hl0
   have g4 := set_at' (set_at' (set_at' (set_at' HB1.out 0 (.int .i64 0)) 1 (.int .i64 0)) 2 (.int .i64 0)) 3 (.int .i64 0)
   have HF1 := Lib.hid (HF0.out.trans (four_set w0 w.heap.size (.int .i64 0) (.int .i64 0) (.int .i64 0) (.int .i64 0)) fun i hi e => (by have e : i = w.heap.size := e; omega))
   generalize (((w0.setCell ⟨w.heap.size, 0, none⟩ (.int .i64 0)).setCell ⟨w.heap.size, 1, none⟩ (.int .i64 0)).setCell ⟨w.heap.size, 2, none⟩ (.int .i64 0)).setCell ⟨w.heap.size, 3, none⟩ (.int .i64 0) = w1 at *
   have hlb := lt_of_block g4
   have y0 := cell_at' g4 0 rfl
   have y1 := cell_at' g4 1 rfl
   have y2 := cell_at' g4 2 rfl
   have y3 := cell_at' g4 3 rfl
   clear g4 HF0 HB1
   have HY0 := Lib.hid y0; have HY1 := Lib.hid y1; have HY2 := Lib.hid y2; have HY3 := Lib.hid y3
   clear y0 y1 y2 y3 HMY HBX
   go_loopw [3, 9] (fun o i ww => ∃ (k : Nat) (a : Option Addr) (cc : Nat) (t : List UInt8), ((k = 0 ∧ t = []) ∨ (k = 1 ∧ t = numB 0) ∨ (k = 2 ∧ t = numB 0 ++ numB 0) ∨ (k = 3 ∧ t = numB 0 ++ numB 0 ++ numB 0) ∨ (k = 4 ∧ t = numB 0 ++ numB 0 ++ numB 0 ++ numB 0)) ∧ i = .int .i64 k ∧ o = .slice a t.length cc ∧ Copy w1 o t ww) (fun _ i _ => 4 - (intOf i).toNat)
   case atStart => exact ⟨0, none, 0, [], .inl ⟨rfl, rfl⟩, rfl, rfl, Copy.nil w1⟩
   case round =>
    obtain ⟨k, a0, c0, t0, hcase, rfl, rfl, hp⟩ := hrel
    have HP := Lib.hid hp; clear hp
    rcases hcase with ⟨rfl, ht0⟩ | ⟨rfl, ht0⟩ | ⟨rfl, ht0⟩ | ⟨rfl, ht0⟩ | ⟨rfl, ht0⟩
    · have q0 := HP.out.frm.cell' HY0.out id
      have HT0 := Lib.hid ht0; clear ht0
      have HL := Lib.hid (show t0.length ≤ 40 by rw [HT0.out]; have a0 := numB_le10 HB.out.1.1 HB.out.1.2; have a1 := numB_le10 HB.out.2.1.1 HB.out.2.1.2; have a2 := numB_le10 HB.out.2.2.1.1 HB.out.2.2.1.2; have a3 := numB_le10 HB.out.2.2.2.1.1 HB.out.2.2.2.1.2; (try simp only [List.length_append, List.length_nil]); omega)
      have HX := Lib.hid (numB_le10 HB.out.1.1 HB.out.1.2)
      go_wp2_with (first
       | (go_at_call 101; refine (nums1 0 _ wr _ rfl HB.out.1).mono ?_; rintro e w2 ⟨a1, c1, t1, ht1, rfl, cp1⟩; have HT1 := Lib.hid ht1; clear ht1; have HP1 := Lib.hid (HP.out.step cp1.frm); have HC1 := Lib.hid cp1; clear cp1)
       | (at_builtin; refine app_cp w1 w2 rfl (.tmp 12) (.tmp 17) rfl _ t0 HP1.out _ t1 rfl rfl HC1.out.rd ?c1 ?_))
      case c1 =>
       have := HL.out
       have := HX.out
       have := congrArg List.length HT1.out
       omega
      intro ad c2 w3 t2 HT2 e2 _ _
      have HTT := Lib.hid (show t2 = numB 0 by rw [HT2, HT0.out, HT1.out]; rfl)
      have E2 := Lib.hid e2; clear e2 HT2
      go_wp2
      go_roundw
      case rel => exact ⟨1, ad, c2, t2, .inr (.inl ⟨rfl, HTT.out⟩), by go_num, rfl, E2.out⟩
      case measure => simp [intOf]
    · have q1 := HP.out.frm.cell' HY1.out id
      have HT0 := Lib.hid ht0; clear ht0
      have HL := Lib.hid (show t0.length ≤ 40 by rw [HT0.out]; have a0 := numB_le10 HB.out.1.1 HB.out.1.2; have a1 := numB_le10 HB.out.2.1.1 HB.out.2.1.2; have a2 := numB_le10 HB.out.2.2.1.1 HB.out.2.2.1.2; have a3 := numB_le10 HB.out.2.2.2.1.1 HB.out.2.2.2.1.2; (try simp only [List.length_append, List.length_nil]); omega)
      have HX := Lib.hid (numB_le10 HB.out.2.1.1 HB.out.2.1.2)
      go_wp2_with (first
       | (go_at_call 101; refine (nums1 0 _ wr _ rfl HB.out.2.1).mono ?_; rintro e w2 ⟨a1, c1, t1, ht1, rfl, cp1⟩; have HT1 := Lib.hid ht1; clear ht1; have HP1 := Lib.hid (HP.out.step cp1.frm); have HC1 := Lib.hid cp1; clear cp1)
       | (at_builtin; refine app_cp w1 w2 rfl (.tmp 12) (.tmp 17) rfl _ t0 HP1.out _ t1 rfl rfl HC1.out.rd ?c1 ?_))
      case c1 =>
       have := HL.out
       have := HX.out
       have := congrArg List.length HT1.out
       omega
      intro ad c2 w3 t2 HT2 e2 _ _
      have HTT := Lib.hid (show t2 = numB 0 ++ numB 0 by rw [HT2, HT0.out, HT1.out])
      have E2 := Lib.hid e2; clear e2 HT2
      go_wp2
      go_roundw
      case rel => exact ⟨2, ad, c2, t2, .inr (.inr (.inl ⟨rfl, HTT.out⟩)), by go_num, rfl, E2.out⟩
      case measure => simp [intOf]
    · have q2 := HP.out.frm.cell' HY2.out id
      have HT0 := Lib.hid ht0; clear ht0
      have HL := Lib.hid (show t0.length ≤ 40 by rw [HT0.out]; have a0 := numB_le10 HB.out.1.1 HB.out.1.2; have a1 := numB_le10 HB.out.2.1.1 HB.out.2.1.2; have a2 := numB_le10 HB.out.2.2.1.1 HB.out.2.2.1.2; have a3 := numB_le10 HB.out.2.2.2.1.1 HB.out.2.2.2.1.2; (try simp only [List.length_append, List.length_nil]); omega)
      have HX := Lib.hid (numB_le10 HB.out.2.2.1.1 HB.out.2.2.1.2)
      go_wp2_with (first
       | (go_at_call 101; refine (nums1 0 _ wr _ rfl HB.out.2.2.1).mono ?_; rintro e w2 ⟨a1, c1, t1, ht1, rfl, cp1⟩; have HT1 := Lib.hid ht1; clear ht1; have HP1 := Lib.hid (HP.out.step cp1.frm); have HC1 := Lib.hid cp1; clear cp1)
       | (at_builtin; refine app_cp w1 w2 rfl (.tmp 12) (.tmp 17) rfl _ t0 HP1.out _ t1 rfl rfl HC1.out.rd ?c1 ?_))
      case c1 =>
       have := HL.out
       have := HX.out
       have := congrArg List.length HT1.out
       omega
      intro ad c2 w3 t2 HT2 e2 _ _
      have HTT := Lib.hid (show t2 = numB 0 ++ numB 0 ++ numB 0 by rw [HT2, HT0.out, HT1.out])
      have E2 := Lib.hid e2; clear e2 HT2
      go_wp2
      go_roundw
      case rel => exact ⟨3, ad, c2, t2, .inr (.inr (.inr (.inl ⟨rfl, HTT.out⟩))), by go_num, rfl, E2.out⟩
      case measure => simp [intOf]
    · have q3 := HP.out.frm.cell' HY3.out id
      have HT0 := Lib.hid ht0; clear ht0
      have HL := Lib.hid (show t0.length ≤ 40 by rw [HT0.out]; have a0 := numB_le10 HB.out.1.1 HB.out.1.2; have a1 := numB_le10 HB.out.2.1.1 HB.out.2.1.2; have a2 := numB_le10 HB.out.2.2.1.1 HB.out.2.2.1.2; have a3 := numB_le10 HB.out.2.2.2.1.1 HB.out.2.2.2.1.2; (try simp only [List.length_append, List.length_nil]); omega)
      have HX := Lib.hid (numB_le10 HB.out.2.2.2.1.1 HB.out.2.2.2.1.2)
      go_wp2_with (first
       | (go_at_call 101; refine (nums1 0 _ wr _ rfl HB.out.2.2.2.1).mono ?_; rintro e w2 ⟨a1, c1, t1, ht1, rfl, cp1⟩; have HT1 := Lib.hid ht1; clear ht1; have HP1 := Lib.hid (HP.out.step cp1.frm); have HC1 := Lib.hid cp1; clear cp1)
       | (at_builtin; refine app_cp w1 w2 rfl (.tmp 12) (.tmp 17) rfl _ t0 HP1.out _ t1 rfl rfl HC1.out.rd ?c1 ?_))
      case c1 =>
       have := HL.out
       have := HX.out
       have := congrArg List.length HT1.out
       omega
      intro ad c2 w3 t2 HT2 e2 _ _
      have HTT := Lib.hid (show t2 = numB 0 ++ numB 0 ++ numB 0 ++ numB 0 by rw [HT2, HT0.out, HT1.out])
      have E2 := Lib.hid e2; clear e2 HT2
      go_wp2
      go_roundw
      case rel => exact ⟨4, ad, c2, t2, .inr (.inr (.inr (.inr ⟨rfl, HTT.out⟩))), by go_num, rfl, E2.out⟩
      case measure => simp [intOf]
    · have HT0 := Lib.hid ht0; clear ht0
      go_wp2
      go_ret
      exact ⟨a0, c0, t0, by rw [HT0.out]; unfold encV; simp only [List.append_assoc], rfl, HP.out.weaken HF1.out⟩
end Go.Proofs.YtcahemkomfaabaaGreat
