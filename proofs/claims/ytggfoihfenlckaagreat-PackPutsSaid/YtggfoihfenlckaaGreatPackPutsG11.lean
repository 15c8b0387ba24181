/- Words for the law PackPuts: HeldTwo, Caus, CauOpen, Bun0, Awake0, CFull, BunP, BunQ, Make, CSame, Awake, Leaf. -/
import Derived.Test.YtggfoihfenlckaaGreatPackPutsG4
import Derived.Test.YtggfoihfenlckaaGreatPackPutsG5
import Derived.Test.YtggfoihfenlckaaGreatPackPutsG6
import Derived.Test.YtggfoihfenlckaaGreatPackPutsG9
import Derived.Test.YtggfoihfenlckaaGreatPackPutsG10
import Derived.SizedLaws
set_option linter.unusedSimpArgs false
set_option linter.unusedVariables false
/- A region that draws its order and ends with one store: two operations come up at once; append of what lies somewhere. -/
namespace Go.Proofs.YtggfoihfenlckaaGreat
open Go.RowKit
section
variable {P : Program} {md : Region.Mode} {ops : Array Oper} {Q : Exit → Act → World → Prop} {S : World → Prop} {z : Nat}
/-- Two come up: either may be next. -/
theorem two_opG {i j : Nat} {o p : Oper} {fuel : Nat} {listed : Array Bool} {a : Act} {w : World} (hr : Region.ready md ops listed = [i, j]) (ho : ops[i]? = some o) (hp : ops[j]? = some p)
    (h : ∀ K' : Act → World → Prop, Shut (∀ a w, S w → wpAnyG P md ops Q S z fuel (listed.setIfInBounds i true) a w → K' a w) → if Region.wanted o (yielded ops a.tmps) = true then Oper.wp P o a w K' Q else K' (a.put o.dst undef) w)
    (k : ∀ K' : Act → World → Prop, Shut (∀ a w, S w → wpAnyG P md ops Q S z fuel (listed.setIfInBounds j true) a w → K' a w) → if Region.wanted p (yielded ops a.tmps) = true then Oper.wp P p a w K' Q else K' (a.put p.dst undef) w) :
    wpAnyG P md ops Q S z (fuel + 1) listed a w :=
  ⟨fun h0 => (by rw [hr] at h0; cases h0), fun x hx => by
    rw [hr] at hx
    rcases List.mem_cons.1 hx with rfl | hx
    · exact wpOp_step ho fun K' hK => h K' fun a w hS hW => hK a w ⟨.inr hS, hW⟩
    · obtain rfl : x = j := by simpa using hx
      exact wpOp_step hp fun K' hK => k K' fun a w hS hW => hK a w ⟨.inr hS, hW⟩⟩
/-- append of a slice that reads so onto a slice of one's own. -/
theorem step_appR {o : Oper} {a : Act} (w0 w : World) {K : Act → World → Prop} {E : Prop} (news : List Value) (hgd : o.guard = none) (s x : Operand) (t tx : TypeId)
    (ho : o.op = .call { callee := .builtin .append, args := #[s, x], argTypes := #[t, tx] })
    (e ex : TypeId) (i : TypeInfo) (zv : Value) (size bytes : Nat) (ht : P.underlying t = some (.slice e)) (htx : P.underlying tx = some (.slice ex)) (hi : P.info? e = some i) (hz : i.zero = some zv)
    (hsize : i.size = size) (hby : i.bytes = bytes) (hzs : zv.cells.size = size) (hsz : 0 < size)
    (v : Value) (n : Nat) (xs : List Value) (hown : OwnAt w0 w e size v n xs) (xv : Value) (m : Nat) (hv : a.eval s = v) (hx : a.eval x = xv) (hr : Rd w xv m news)
    (hnl : news.length = m * size) (h1 : ∀ u ∈ news, u.oneCell' = true) (h63 : n + m ≤ maxLen) (hbytes : (n + m) * bytes ≤ 140737488355328)
    (h : ∀ ad c w', OwnAt w0 w' e size (.slice ad (n + m) c) (n + m) (xs ++ news) → Frm (RowS v) w w' → Fresh w v (.slice ad (n + m) c) → K (a.put o.dst (.slice ad (n + m) c)) w') :
    if Region.wanted o (yielded ops a.tmps) = true then Oper.wp P o a w K Q else E := by
  have hw : Region.wanted o (yielded ops a.tmps) = true := by simp [Region.wanted, hgd]
  rw [if_pos hw]
  obtain ⟨v', w', hrun, h2, h3, h4, ⟨ad, c', rfl⟩, h6⟩ := run_app (P := P) w t tx o.type e i zv size bytes ht hi hz hsize hby hzs hsz v n xs hown.own _ m news (hr.src htx hnl h1) h63 hbytes
  unfold Oper.wp execOp
  simp only [ho, resolve, invoke, builtin, Sem.run_bind, Sem.run_pure, Result.andThen_ok, List.map_toArray, List.map_cons, List.map_nil, hv, hx, hrun]
  exact h ad c' w' (hown.step h2 h3 h4) h3 h4
end
end Go.Proofs.YtggfoihfenlckaaGreat
/- causal: Right, Clone: the walks. -/
namespace Go.Proofs.YtggfoihfenlckaaGreat
open Go.RowKit
/-- May it be known? -/
structure CauRight (es : List Ent) (ks : KidsL) (c : CtxL) : Prop where
  tree : rightT 5 es ks = true
  ctx : RightC c
  dots : DotsLeq (dotsT es ks) c
/-- A tree with a context that came in, or was made: how it lies, and its bounds. -/
structure CauAt (Q : Nat → Prop) (w : World) (ev kv cv : Value) (es : List Ent) (ks : KidsL) (c : CtxL) : Prop where
  tree : TreeAt Q w ev kv es ks
  ctx : CtxAt w cv c
structure CauOk (es : List Ent) (ks : KidsL) (c : CtxL) : Prop where
  tree : TrOk es ks
  small : sizeT es ks ≤ 2000
  fits : FitsC c
  len : c.length ≤ 2000
theorem CauAt.keep0 {Q : Nat → Prop} {w w' : World} {ev kv cv : Value} {es : List Ent} {ks : KidsL} {c : CtxL} (h : CauAt Q w ev kv cv es ks c) (f : Frm NoS w w') : CauAt Q w' ev kv cv es ks c := ⟨h.tree.keep0 f, Rd.keep0 h.ctx f⟩
theorem CauAt.shape {Q : Nat → Prop} {w : World} {ev kv cv : Value} {es : List Ent} {ks : KidsL} {c : CtxL} (h : CauAt Q w ev kv cv es ks c) : ∃ a0 c0 a1 c1 a2 c2, ev = .slice a0 es.length c0 ∧ kv = .slice a1 ks.len c1 ∧ cv = .slice a2 c.length c2 := by
  obtain ⟨a0, c0, h0⟩ := h.tree.ents.rd.sl
  obtain ⟨os, hk, _⟩ := h.tree.kids
  obtain ⟨a1, c1, h1⟩ := hk.rd.sl
  obtain ⟨a2, c2, h2⟩ := Rd.sl h.ctx
  exact ⟨a0, c0, a1, c1, a2, c2, h0, h1, h2⟩
set_option maxRecDepth 100000 in
theorem caRight_any (Q : Nat → Prop) (es : List Ent) (ks : KidsL) (c : CtxL) (w : World) (ev kv cv : Value) (h : CauAt Q w ev kv cv es ks c) (hok : CauOk es ks c) :
    Calls Tryz.prog 82 #[.agg #[ev, kv, cv]] w fun e w' => e = .returned (.bool (tf (CauRight es ks c))) ∧ Frm NoS w w' := by
  obtain ⟨a0, c0, a1, c1, a2, c2, rfl, rfl, rfl⟩ := h.shape
  have HD := Lib.hid (fun w' (f : Frm NoS w w') => tDots_any Q es ks w' _ _ (h.tree.keep0 f) hok.tree (Nat.le_trans hok.small (by decide)))
  have HL := Lib.hid (fun w' (f : Frm NoS w w') vd d (hd : CtxAt w' vd d) (rd : RightC d) (ld : d.length ≤ 16000) => cLeq_any w' vd _ d c hd (Rd.keep0 h.ctx f) rd.fits hok.fits (by omega) (by have := hok.len; omega))
  clear h hok
  by_cases hr : rightT 5 es ks = true
  · have HOK := Lib.hid (rightT_dots hr)
    have HRT := Lib.hid hr; clear hr
    have hpost : ∀ d, OfC (dotsT es ks) d → tf (RightC d ∧ RightC c ∧ LeqC d c) = tf (CauRight es ks c) := fun d hd => tf_congr ⟨fun h => ⟨HRT.out, h.2.1, (hd.leq HOK.out).1 h.2.2⟩, fun h => ⟨hd.right, h.ctx, (hd.leq HOK.out).2 h.dots⟩⟩
    have HPOST := Lib.hid hpost; clear hpost
    generalize tf (CauRight es ks c) = y at *
    generalize es.length = n at *
    generalize ks.len = m at *
    generalize c.length = k at *
    go_enter Tryz.func82, Tryz.ntmps82
    go_wp2_with (first
      | (go_at_call 129; refine (HD.out _ (Frm.alloc _ _ _)).mono ?_; rintro e w1 ⟨hf1, hp1, -⟩; obtain ⟨v1, d, rfl, ho1, hof, hl1⟩ := hp1 HRT.out; clear hp1; obtain ⟨y0, y1, y2⟩ := box3 w _ _ _ _ w1 hf1; obtain ⟨b1, e1, rfl⟩ := ho1.shape; have HO1 := Lib.hid ho1; clear ho1; have HOF := Lib.hid hof; clear hof; have HL1 := Lib.hid hl1; clear hl1 hf1)
      | (go_at_call 130; refine (HL.out _ ((Frm.alloc NoS _ _).then1 HO1.out.frm) _ d HO1.out.rd HOF.out.right HL1.out).mono ?_; rintro e w2 ⟨rfl, hw2⟩; rw [HPOST.out d HOF.out]; have HW2 := Lib.hid hw2; clear hw2))
    go_ret
    exact ⟨rfl, ((Frm.alloc NoS _ _).then1 HO1.out.frm).then1 HW2.out⟩
  · have hr' : rightT 5 es ks = false := by simpa using hr
    rw [tf_false fun h => hr h.tree]
    have HRT := Lib.hid hr'; clear hr hr' HL
    generalize es.length = n at *
    generalize ks.len = m at *
    generalize c.length = k at *
    go_enter Tryz.func82, Tryz.ntmps82
    go_wp2_with (go_at_call 129; refine (HD.out _ (Frm.alloc _ _ _)).mono ?_; rintro e w1 ⟨hf1, -, hp1⟩; obtain rfl := hp1 HRT.out; clear hp1; obtain ⟨y0, y1, y2⟩ := box3 w _ _ _ _ w1 hf1; have HF1 := Lib.hid hf1; clear hf1)
    go_ret
    exact ⟨rfl, (Frm.alloc NoS _ _).then1 HF1.out⟩
/-- What a clone is: new memory that reads the same. -/
def CauPost (w : World) (es : List Ent) (ks : KidsL) (c : CtxL) (e : Ending) (w' : World) : Prop :=
  ∃ ev kv cv, e = .returned (.agg #[ev, kv, cv]) ∧ TreeAt (fun b => w.heap.size ≤ b) w' ev kv es ks ∧ OwnAt w w' 122 3 cv c.length (spC c)
set_option maxRecDepth 100000 in
theorem caClone_ok (Q : Nat → Prop) (es : List Ent) (ks : KidsL) (c : CtxL) (w : World) (ev kv cv : Value) (h : CauAt Q w ev kv cv es ks c) (hok : CauOk es ks c) (hr : CauRight es ks c) :
    Calls Tryz.prog 115 #[.agg #[ev, kv, cv]] w (CauPost w es ks c) := by
  obtain ⟨a0, c0, a1, c1, a2, c2, rfl, rfl, rfl⟩ := h.shape
  have HR := Lib.hid (fun w' (f : Frm NoS w w') => tf_true hr ▸ caRight_any Q es ks c w' _ _ _ (h.keep0 f) hok)
  have HT := Lib.hid (fun w' (f : Frm NoS w w') => tClone_any Q es ks w' _ _ (h.tree.keep0 f) hok.tree (Nat.le_trans hok.small (by decide)) hr.tree)
  have HS := Lib.hid (fun w' (f : Frm NoS w w') => spClone_any w' _ c (Rd.keep0 h.ctx f) (by have := hok.len; omega))
  clear h hok hr
  generalize hes : es.length = n at *
  generalize hkl : ks.len = m at *
  generalize hcl : c.length = k at *
  have HES := Lib.hid hes; clear hes
  have HKL := Lib.hid hkl; clear hkl
  have HCL := Lib.hid hcl; clear hcl
  have htb : ((w.alloc (.cells #[.slice a0 n c0, .slice a1 m c1, .slice a2 k c2] 37)).alloc (.cells #[.slice none 0 0, .slice none 0 0, .slice none 0 0] 37)).heap[w.heap.size + 1]? = some (.cells #[.slice none 0 0, .slice none 0 0, .slice none 0 0] 37 (0, 0)) := (two_blocks w _ _ _).1
  have HTB := Lib.hid htb; clear htb
  have hfb : Frm NoS (w.alloc (.cells #[.slice a0 n c0, .slice a1 m c1, .slice a2 k c2] 37)) ((w.alloc (.cells #[.slice a0 n c0, .slice a1 m c1, .slice a2 k c2] 37)).alloc (.cells #[.slice none 0 0, .slice none 0 0, .slice none 0 0] 37)) := Frm.alloc _ _ _
  have HFB := Lib.hid hfb; clear hfb
  have HBX := Lib.hid (box3 w (.slice a0 n c0) (.slice a1 m c1) (.slice a2 k c2) 37)
  go_enter Tryz.func115, Tryz.ntmps115
  go_wp2_with (go_at_call 82; refine (HR.out _ ((Frm.alloc NoS _ _).then1 HFB.out)).mono ?_; rintro e w1 ⟨rfl, hw1⟩; obtain ⟨y0, y1, y2⟩ := HBX.out w1 (HFB.out.then1 hw1); have hblk := hw1.blk HTB.out id; have HBLK := Lib.hid hblk; clear hblk; have HW1 := Lib.hid (((Frm.alloc NoS _ _).then1 HFB.out).then1 hw1); clear hw1)
  refine wp_region_G (S := fun w' => w'.cell? ⟨w.heap.size, 0, none⟩ = some (.slice a0 n c0) ∧ w'.cell? ⟨w.heap.size, 1, none⟩ = some (.slice a1 m c1) ∧ w'.cell? ⟨w.heap.size, 2, none⟩ = some (.slice a2 k c2)) 7 (by kernel_rfl) ⟨y0, y1, y2⟩ ?_
  intro hS
  have HFY := Lib.hid (HW1.out.then1 (Frm.drew NoS w1))
  have HBY := Lib.hid ((Frm.drew NoS w1).blk HBLK.out id)
  have hsb : w.heap.size + 1 < w1.drew.heap.size := lt_of_block HBY.out
  clear y0 y1 y2 HW1 HBLK
  generalize w1.drew = Y at *
  refine take_opG 0 7 (v := ?_) rfl rfl (by kernel_rfl) (by kernel_rfl) (by decide) (by kernel_rfl) (by kernel_rfl) (fun _ _ _ h => h) (Or.inl ⟨by rfl, ?_⟩) (by assumption) ?_
  rotate_left 1
  · (intro w hSw; (try dsimp only at hSw); go_simp; (try with_reducible rfl))
  try simp only [Act.put, List.setIfInBounds_toArray, List.set_cons_zero, List.set_cons_succ]
  refine take_opG 1 8 (v := ?_) rfl rfl (by kernel_rfl) (by kernel_rfl) (by decide) (by kernel_rfl) (by kernel_rfl) (fun _ _ _ h => h) (Or.inl ⟨by rfl, ?_⟩) (by assumption) ?_
  rotate_left 1
  · (intro w hSw; (try dsimp only at hSw); go_simp; (try with_reducible rfl))
  try simp only [Act.put, List.setIfInBounds_toArray, List.set_cons_zero, List.set_cons_succ]
  refine take_opG 3 10 (v := ?_) rfl rfl (by kernel_rfl) (by kernel_rfl) (by decide) (by kernel_rfl) (by kernel_rfl) (fun _ _ _ h => h) (Or.inl ⟨by rfl, ?_⟩) (by assumption) ?_
  rotate_left 1
  · (intro w hSw; (try dsimp only at hSw); go_simp; (try with_reducible rfl))
  try simp only [Act.put, List.setIfInBounds_toArray, List.set_cons_zero, List.set_cons_succ]
  refine take_opG 4 11 (v := ?_) rfl rfl (by kernel_rfl) (by kernel_rfl) (by decide) (by kernel_rfl) (by kernel_rfl) (fun _ _ _ h => h) (Or.inl ⟨by rfl, ?_⟩) (by assumption) ?_
  rotate_left 1
  · (intro w hSw; (try dsimp only at hSw); go_simp; (try with_reducible rfl))
  try simp only [Act.put, List.setIfInBounds_toArray, List.set_cons_zero, List.set_cons_succ]
  refine one_opG (i := 2) (by kernel_rfl) rfl (fun K hK => ?_)
  go_simp
  refine (HT.out _ HFY.out).mono ?_
  rintro e Y1 ⟨ev3, kv3, rfl, hta3, hf3⟩
  obtain ⟨a3, c3, rfl⟩ := hta3.ents.rd.sl
  obtain ⟨os3, hkr3, -⟩ := hta3.kids
  obtain ⟨a4, c4, rfl⟩ := hkr3.rd.sl
  clear hkr3
  have hS := (⟨hf3.cell' hS.1 id, hf3.cell' hS.2.1 id, hf3.cell' hS.2.2 id⟩ : Y1.cell? ⟨w.heap.size, 0, none⟩ = some (.slice a0 n c0) ∧ Y1.cell? ⟨w.heap.size, 1, none⟩ = some (.slice a1 m c1) ∧ Y1.cell? ⟨w.heap.size, 2, none⟩ = some (.slice a2 k c2))
  rw [HES.out, HKL.out]
  refine hK.out _ _ hS ?_
  clear hK K
  have HTA3 := Lib.hid hta3; clear hta3
  have HF3 := Lib.hid hf3; clear hf3
  try simp only [Act.put, List.setIfInBounds_toArray, List.set_cons_zero, List.set_cons_succ]
  refine one_opG (i := 5) (by kernel_rfl) rfl (fun K hK => ?_)
  go_simp
  refine (HS.out _ (HFY.out.then1 HF3.out)).mono ?_
  rintro e Y2 ⟨v5, rfl, ho5⟩
  obtain ⟨a5, c5, rfl⟩ := ho5.shape
  have hS := (⟨ho5.frm.cell' hS.1 id, ho5.frm.cell' hS.2.1 id, ho5.frm.cell' hS.2.2 id⟩ : Y2.cell? ⟨w.heap.size, 0, none⟩ = some (.slice a0 n c0) ∧ Y2.cell? ⟨w.heap.size, 1, none⟩ = some (.slice a1 m c1) ∧ Y2.cell? ⟨w.heap.size, 2, none⟩ = some (.slice a2 k c2))
  refine hK.out _ _ hS ?_
  clear hK K
  have HO5 := Lib.hid ho5; clear ho5
  try simp only [Act.put, List.setIfInBounds_toArray, List.set_cons_zero, List.set_cons_succ]
  refine take_opG 6 13 (v := ?_) rfl rfl (by kernel_rfl) (by kernel_rfl) (by decide) (by kernel_rfl) (by kernel_rfl) (fun _ _ _ h => h) (Or.inl ⟨by rfl, ?_⟩) (by assumption) ?_
  rotate_left 1
  · (intro w hSw; (try dsimp only at hSw); go_simp; (try with_reducible rfl))
  try simp only [Act.put, List.setIfInBounds_toArray, List.set_cons_zero, List.set_cons_succ]
  refine last_opG (by kernel_rfl) (by kernel_rfl) rfl (fun K hK => ?_)
  have hblk := HO5.out.frm.blk (HF3.out.blk HBY.out id) id
  have HR3 := Lib.hid (res3 hblk ((HFY.out.then1 HF3.out).then1 HO5.out.frm) (by omega) (.slice a3 n c3) (.slice a4 m c4) (.slice a5 k c5))
  have hs3 := HF3.out.size
  have hsb2 := lt_of_block hblk
  have HP := Lib.hid ((HTA3.out.keep0 HO5.out.frm).turn (Q' := fun b => w.heap.size ≤ b) fun b hb hQ => ⟨HR3.out.2.2 b (by omega), by omega⟩)
  have hown : OwnAt w (((Y2.setCell ⟨w.heap.size + 1, 0, none⟩ (.slice a3 n c3)).setCell ⟨w.heap.size + 1, 1, none⟩ (.slice a4 m c4)).setCell ⟨w.heap.size + 1, 2, none⟩ (.slice a5 k c5)) 122 3 (.slice a5 k c5) k (spC c) := by
    have hnew := HO5.out.new
    have hbut : OwnBut (fun b => b = w.heap.size + 1) w Y2 122 3 (.slice a5 k c5) k (spC c) := ⟨HO5.out.base (HFY.out.then1 HF3.out), fun b hb hn => by have := hnew b hb; omega⟩
    exact (((hbut.set (p := ⟨w.heap.size + 1, 0, none⟩) rfl (Nat.le_succ _) _).set (p := ⟨w.heap.size + 1, 1, none⟩) rfl (Nat.le_succ _) _).set (p := ⟨w.heap.size + 1, 2, none⟩) rfl (Nat.le_succ _) _).at_
  have HOW := Lib.hid hown; clear hown
  have y0 := cell_at' hblk 0 rfl
  have y1 := cell_at' hblk 1 rfl
  have y2 := cell_at' hblk 2 rfl
  have g0 := free_at' hblk 0
  have g1 := free_at' hblk 1
  have g2 := free_at' hblk 2
  clear hS hblk
  go_simp
  refine hK.out _ _ ?_
  clear hK K y0 y1 y2 g0 g1 g2
  go_wp2
  have y0 := cell_at' HR3.out.1 0 rfl
  have y1 := cell_at' HR3.out.1 1 rfl
  have y2 := cell_at' HR3.out.1 2 rfl
  exact bodyPost_ret (v := .agg #[.slice a3 n c3, .slice a4 m c4, .slice a5 k c5]) (by simp [results, Tryz.results115, go_sem, y0, y1, y2]) rfl ⟨_, _, _, rfl, by have := HP.out; rw [HES.out, HKL.out] at this; exact this, HCL.out.symm ▸ HOW.out⟩
end Go.Proofs.YtggfoihfenlckaaGreat
/- What came in: what is known. -/
namespace Go.Proofs.YtggfoihfenlckaaGreat
open Go.RowKit Go.WideShapes Go.ChangeShapes
theorem sized_at {H : Type} {P : Program} {ts us : List TypeId} {ds gs : List (DataW H)} (h : (DataW.weightsEach P (ts ++ us) (ds ++ gs)).all (· ≤ reachBytes) = true) {j : Nat} {t : TypeId} {d : DataW H} (ht : ts[j]? = some t) (hd : ds[j]? = some d) :
    ∀ n ∈ d.weights P t, n ≤ reachBytes := fun n hn => by
  have h1 : (ts ++ us)[j]? = some t := by rw [List.getElem?_append_left (List.getElem?_eq_some_iff.1 ht).1]; exact ht
  have h2 : (ds ++ gs)[j]? = some d := by rw [List.getElem?_append_left (List.getElem?_eq_some_iff.1 hd).1]; exact hd
  simpa using List.all_eq_true.1 h n (DataW.weights_mem_each h1 h2 n hn)
section
variable {H : Type} {enc : TypeId × Value → H} {w : World}
set_option maxRecDepth 100000 in
theorem open_causal {fuel : Nat} {ev kv cv : Value} {x : DataW H × List MemPlace} (h : DataW.trod enc Tryz.prog w 0 (fun _ => true) true fuel 37 [ev, kv, cv] = some x) (hw : ∀ n ∈ x.1.weights Tryz.prog 37, n ≤ reachBytes) :
    ∃ es ks c, CauAt (fun _ => True) w ev kv cv es ks c ∧ TrOk es ks ∧ FitsC c ∧ c.length ≤ 140737488351232 := by
  obtain ⟨xs, n, hn, rfl, _, hxl, hf⟩ := DataW.trod_struct Tryz.underlying37 h
  obtain ⟨y0, y1, rfl⟩ : ∃ y0 y1, xs = [y0, y1] := by
    match xs, hxl with
    | [y0, y1], _ => exact ⟨y0, y1, rfl⟩
  have g0 := hf 0 _ rfl
  have g1 := hf 1 _ rfl
  have g0 : DataW.trod enc Tryz.prog w 0 (fun _ => true) true n 35 [ev, kv] = some y0 := g0
  have g1 : DataW.trod enc Tryz.prog w 0 (fun _ => true) true n 31 [cv] = some y1 := g1
  have hw2 : ∀ m ∈ y0.1.weights Tryz.prog 35 ++ (y1.1.weights Tryz.prog 31 ++ []), m ≤ reachBytes := fun m hm => hw m (by
    simp only [List.map_cons, List.map_nil, DataW.weights, Tryz.underlying37]
    exact hm)
  obtain ⟨es, ks, h1, h2⟩ := open_tree _ ev kv _ g0 fun m hm => hw2 m (List.mem_append_left _ hm)
  obtain ⟨c, h3, h4, h5⟩ := open_ctx g1 fun m hm => hw2 m (List.mem_append_right _ (List.mem_append_left _ hm))
  exact ⟨es, ks, c, ⟨h1, h3⟩, h2, h4, h5⟩
end
end Go.Proofs.YtggfoihfenlckaaGreat
/- Bundles: an argument's block; plain words. Printed by wip/bungen.py. -/
namespace Go.Proofs.YtggfoihfenlckaaGreat
open Go.RowKit
end Go.Proofs.YtggfoihfenlckaaGreat
/- tributarylaw22: delta: the walk. -/
namespace Go.Proofs.YtggfoihfenlckaaGreat
open Go.RowKit
end Go.Proofs.YtggfoihfenlckaaGreat
/- context: Full, Range: the walks. -/
namespace Go.Proofs.YtggfoihfenlckaaGreat
open Go.RowKit
def FullPost (w : World) (f : Int → Int) (e : Ending) (w' : World) : Prop :=
  Frm NoS w w' ∧ (MayV f → ∃ v', e = .returned (.tuple #[v', .int .i64 0]) ∧ OwnAt w w' 122 3 v' (fullL f).length (spC (fullL f)) ∧ (fullL f).length ≤ 4) ∧ (¬ MayV f → e = .returned (.tuple #[.slice none 0 0, .int .i64 1]))
set_option maxHeartbeats 2000000 in
set_option maxRecDepth 1000000 in
theorem cFull_any (w : World) (v0 v1 v2 v3 : Int) : Calls Tryz.prog 85 #[vecV v0 v1 v2 v3] w (FullPost w (vecF v0 v1 v2 v3)) := by
  obtain ⟨i0, hi, hz0, hz1, hz2⟩ := info_parts info_span
  have hix : ∀ (k : Nat), k < 4 → ∀ W, (Instr.index 42 (.agg #[.int .i64 v0, .int .i64 v1, .int .i64 v2, .int .i64 v3]) (.int .i64 (k : Int))).run Tryz.prog W = .ok (.int .i64 (vecF v0 v1 v2 v3 k)) W := fun k hk => by
    rcases (by omega : k = 0 ∨ k = 1 ∨ k = 2 ∨ k = 3) with rfl | rfl | rfl | rfl <;> exact fun _ => by kernel_rfl
  have HIX := Lib.hid hix; clear hix
  unfold vecV
  generalize hf : vecF v0 v1 v2 v3 = f at *
  clear hf
  go_enter Tryz.func85, Tryz.ntmps85
  go_wp2
  go_loopw [4, 8] (fun v i ww => ∃ (k : Nat) (c : CtxL), k ≤ 4 ∧ i = .int .i64 k ∧ OwnAt w ww 122 3 v c.length (spC c) ∧ UpTo (FullR f) k c ∧ c.length ≤ k ∧ ∀ d : Int, 0 ≤ d → d < k → 0 ≤ f d ∧ f d ≤ 1099511627776) (fun _ i _ => 4 - (intOf i).toNat)
  case atStart => exact ⟨0, [], by omega, rfl, OwnAt.nil (Frm.alloc _ _ _) _ _, UpTo.zero _, Nat.zero_le _, fun d h0 h1 => by have : d < 0 := h1; omega⟩
  case round =>
    obtain ⟨k, c, hk, rfl, ho, hu, hlen, hr⟩ := hrel
    obtain ⟨av, cv, rfl⟩ := ho.shape
    have HO := Lib.hid ho; clear ho
    have HU := Lib.hid hu; clear hu
    have HLEN := Lib.hid hlen; clear hlen
    have HR := Lib.hid hr; clear hr
    by_cases hlt : k < 4
    · have hx := HIX.out k hlt
      have hst := HU.out.step (o := fullP (f k)) (by omega) (by omega) rfl
      have hL : c.length ≤ 4 := by have := HLEN.out; omega
      have hrr : 0 ≤ f k ∧ f k ≤ 1099511627776 → ∀ d : Int, 0 ≤ d → d < ((k + 1 : Nat) : Int) → 0 ≤ f d ∧ f d ≤ 1099511627776 := fun h d h0 h1 => by
        by_cases he : d = k
        · subst he; exact h
        · exact HR.out d h0 (by omega)
      have hno : ¬ (0 ≤ f k ∧ f k ≤ 1099511627776) → ¬ MayV f := fun h hm => h (hm k (by omega) (by omega))
      have HRR := Lib.hid hrr; clear hrr
      have HNO := Lib.hid hno; clear hno
      by_cases c1 : f k < 0
      · generalize f k = x at *
        clear hst hL
        go_wp2
        go_ret2
        exact ⟨HO.out.frm, fun h => absurd h (HNO.out (by omega)), fun _ => rfl⟩
      · by_cases c2 : 1099511627776 < f k
        · generalize f k = x at *
          clear hst hL
          go_wp2
          go_ret2
          exact ⟨HO.out.frm, fun h => absurd h (HNO.out (by omega)), fun _ => rfl⟩
        · by_cases h0 : 0 < f k
          · have he : spansL (k : Int) (fullP (f k)) = [((k : Int), 1, f k)] := by unfold fullP; rw [if_pos h0]; rfl
            rw [he] at hst
            clear he
            generalize f k = x at *
            have HST := Lib.hid hst; clear hst
            have HL := Lib.hid hL; clear hL
            go_wp2_with (at_builtin; go_loud (refine wpList_appO w _ [.int .i64 k, .int .i64 1, .int .i64 x] rfl (.tmp 20) (.tmp 24) 31 rfl 122 i0 _ 3 24 Tryz.underlying31 hi hz0 hz1 hz2 (by decide) (by decide) _ _ _ HO.out 1 1 rfl rfl rfl (by simp [Value.oneCell']) (by have := HL.out; simp only [maxLen]; omega) (by have := HL.out; omega) ?_); intro ad cc w2 own2; have OW := Lib.hid own2; clear own2)
            go_roundw
            case rel => exact ⟨k + 1, c ++ [((k : Int), 1, x)], by omega, by go_num, by rw [List.length_append, spC_append]; exact OW.out, HST.out, by rw [List.length_append]; have := HLEN.out; simp; omega, HRR.out ⟨by omega, by omega⟩⟩
            case measure => simp [intOf]; omega
          · have he : spansL (k : Int) (fullP (f k)) = [] := by unfold fullP; rw [if_neg h0]; rfl
            rw [he, List.append_nil] at hst
            clear he
            generalize f k = x at *
            have HST := Lib.hid hst; clear hst
            clear hL
            go_wp2
            go_roundw
            case rel => exact ⟨k + 1, c, by omega, by go_num, HO.out, HST.out, by have := HLEN.out; omega, HRR.out ⟨by omega, by omega⟩⟩
            case measure => simp [intOf]; omega
    · obtain rfl : k = 4 := by omega
      go_wp2
      go_ret2
      have := HU.out.full
      subst this
      exact ⟨HO.out.frm, fun _ => ⟨_, rfl, HO.out, HLEN.out⟩, fun h => absurd (fun d h0 h4 => HR.out d h0 h4) h⟩
end Go.Proofs.YtggfoihfenlckaaGreat
/- bundle: names, own, may: the walks. Printed by wip/bungen.py. -/
namespace Go.Proofs.YtggfoihfenlckaaGreat
open Go.RowKit
end Go.Proofs.YtggfoihfenlckaaGreat
/- bundle: Right: the walk. Printed by wip/bungen.py. -/
namespace Go.Proofs.YtggfoihfenlckaaGreat
open Go.RowKit
end Go.Proofs.YtggfoihfenlckaaGreat
/- bundle: Make, where all may be: the walk. Printed by wip/makegen.py. -/
namespace Go.Proofs.YtggfoihfenlckaaGreat
open Go.RowKit
end Go.Proofs.YtggfoihfenlckaaGreat
/- tributaryref07: Same: the walk. -/
namespace Go.Proofs.YtggfoihfenlckaaGreat
open Go.RowKit
/-- The first k spans are alike. -/
def LikeC (a b : CtxL) (k : Nat) : Prop := ∀ j, j < k → a.getD j (0, 0, 0) = b.getD j (0, 0, 0)
theorem LikeC.all {a b : CtxL} (hl : a.length = b.length) (h : LikeC a b a.length) : a = b := by
  refine List.ext_getElem hl fun j h1 h2 => ?_
  have := h j h1
  rwa [getD_at _ h1, getD_at _ h2] at this
theorem LikeC.step {a b : CtxL} {k : Nat} (h : LikeC a b k) (he : a.getD k (0, 0, 0) = b.getD k (0, 0, 0)) : LikeC a b (k + 1) := fun j hj => by
  rcases Nat.lt_succ_iff_lt_or_eq.1 hj with hj | rfl
  · exact h j hj
  · exact he
set_option maxHeartbeats 2000000 in
set_option maxRecDepth 1000000 in
theorem r7Same_any (w : World) (va vb : Value) (a b : CtxL) (ha : CtxAt w va a) (hb : CtxAt w vb b) (la : a.length ≤ 100000) (lb : b.length ≤ 100000) :
    Calls Tryz.prog 25 #[va, vb] w fun e w' => e = .returned (.bool (decide (a = b))) ∧ Frm NoS w w' := by
  obtain ⟨aA, cA, rfl⟩ := ha.sl
  obtain ⟨aB, cB, rfl⟩ := hb.sl
  by_cases hab : a.length = b.length
  rotate_left 1
  · have hne : decide (a = b) = false := by rw [decide_eq_false_iff_not]; intro h; exact hab (by rw [h])
    rw [hne]
    clear hne ha hb
    generalize a.length = n at *
    generalize b.length = m at *
    have hz : ((n : Int) == (m : Int)) = false := by simp; omega
    go_enter Tryz.func25, Tryz.ntmps25
    go_wp2
    go_ret
    exact ⟨rfl, Frm.refl _ _⟩
  have HAB := Lib.hid hab
  rw [← hab] at lb
  have hb2 : CtxAt w (.slice aB a.length cB) b := by rw [hab]; exact hb
  have HA := Lib.hid ha; clear ha
  have HB := Lib.hid hb2; clear hb hb2
  clear hab lb
  have hbl : b.length = a.length := HAB.out.symm
  rw [hbl]
  clear hbl
  generalize hn : a.length = n at *
  have HN := Lib.hid hn; clear hn
  go_enter Tryz.func25, Tryz.ntmps25
  go_wp2
  go_loopw [13] (fun i ww => ∃ k : Nat, k ≤ n ∧ i = .int .i64 k ∧ LikeC a b k ∧ Frm NoS w ww) (fun i _ => n - (intOf i).toNat)
  case atStart => exact ⟨0, Nat.zero_le _, rfl, (fun j hj => absurd hj (Nat.not_lt_zero _)), Frm.refl _ _⟩
  case round =>
    obtain ⟨k, hk, rfl, hlk, hf⟩ := hrel
    have HLK := Lib.hid hlk; clear hlk
    have HF := Lib.hid hf; clear hf
    by_cases hlt : k < n
    · have hka : k < a.length := by rw [HN.out]; exact hlt
      have hkb : k < b.length := by rw [← HAB.out]; exact hlt
      rcases Rd.shape HA.out with ⟨ad, he, h0⟩ | ⟨o1, off1, cc1, he, hmax⟩
      · exfalso; have := HN.out; omega
      rcases Rd.shape HB.out with ⟨ad, he2, h0⟩ | ⟨o2, off2, cc2, he2, hmax2⟩
      · exfalso; have := HN.out; have := HAB.out; omega
      injection he with e1 e2 e3
      injection he2 with e4 e5 e6
      subst e1 e3 e4 e6
      clear e2 e5
      obtain ⟨p0, p1, p2⟩ := spn_at HA.out (by rw [HN.out]) k hka
      obtain ⟨q0, q1, q2⟩ := spn_at HB.out HAB.out k hkb
      have p0 := HF.out.cell' p0 id
      have p1 := HF.out.cell' p1 id
      have p2 := HF.out.cell' p2 id
      have q0 := HF.out.cell' q0 id
      have q1 := HF.out.cell' q1 id
      have q2 := HF.out.cell' q2 id
      have hst : a.getD k (0, 0, 0) = b.getD k (0, 0, 0) → LikeC a b (k + 1) := HLK.out.step
      have HST := Lib.hid hst; clear hst
      have hno : a.getD k (0, 0, 0) ≠ b.getD k (0, 0, 0) → a ≠ b := fun h e => h (by rw [e])
      have HNO := Lib.hid hno; clear hno
      generalize a.getD k (0, 0, 0) = s at *
      generalize b.getD k (0, 0, 0) = t at *
      by_cases hst : s = t
      · subst hst
        go_wp2_with fail
        go_quiet (fail)
        go_wp2
        go_roundw
        case rel => exact ⟨k + 1, by omega, by go_num, HST.out (by trivial), HF.out.drewN1⟩
        case measure => simp [intOf]; omega
      · have HNE := Lib.hid (show false = decide (a = b) from by symm; rw [decide_eq_false_iff_not]; exact HNO.out hst)
        obtain ⟨s0, s1, s2⟩ := s
        obtain ⟨t0, t1, t2⟩ := t
        clear HST HNO
        dsimp only at p0 p1 p2 q0 q1 q2
        by_cases g0 : s0 = t0
        · subst g0
          by_cases g1 : s1 = t1
          · subst g1
            have g2 : s2 ≠ t2 := fun h => hst (by rw [h])
            clear hst
            have gb : ((s2 : Int) == t2) = false := by simpa using g2
            go_wp2_with fail
            go_quiet (fail)
            go_wp2
            go_ret
            exact ⟨ret_bool HNE.out, HF.out.drewN1⟩
          · clear hst
            have gb : ((s1 : Int) == t1) = false := by simpa using g1
            go_wp2_with fail
            go_quiet (fail)
            go_wp2
            go_ret
            exact ⟨ret_bool HNE.out, HF.out.drewN1⟩
        · clear hst
          have gb : ((s0 : Int) == t0) = false := by simpa using g0
          go_wp2_with fail
          go_quiet (fail)
          go_wp2
          go_ret
          exact ⟨ret_bool HNE.out, HF.out.drewN1⟩
    · obtain rfl : n = k := by omega
      have heq : decide (a = b) = true := by rw [decide_eq_true_iff]; exact LikeC.all (HN.out.trans HAB.out) (by rw [HN.out]; exact HLK.out)
      have HEQ := Lib.hid heq; clear heq
      go_wp2
      go_ret
      exact ⟨ret_bool HEQ.out.symm, HF.out⟩
end Go.Proofs.YtggfoihfenlckaaGreat
/- tributarylaw22: awake: the walk. -/
namespace Go.Proofs.YtggfoihfenlckaaGreat
open Go.RowKit
end Go.Proofs.YtggfoihfenlckaaGreat
/- Leaves: how a slice of them lies; the dots of them. -/
namespace Go.Proofs.YtggfoihfenlckaaGreat
open Go.RowKit
/-- A leaf: where its path lies, and its entry. -/
abbrev LeafL := List (Value × Ent)
def lfC (l : LeafL) : List Value := l.flatMap fun x => x.1 :: x.2.cells
def lfE (p : Value) (es : List Ent) : LeafL := es.map fun e => (p, e)
def dotsL (l : LeafL) : RunL := l.map fun x => (x.2.dc, x.2.n)
def OneL (l : LeafL) : Prop := ∀ x ∈ l, x.1.oneCell' = true
theorem lfC_append (a b : LeafL) : lfC (a ++ b) = lfC a ++ lfC b := by simp [lfC]
theorem lfC_cons (x : Value × Ent) (l : LeafL) : lfC (x :: l) = x.1 :: .int .i64 x.2.dc :: .int .i64 x.2.n :: .string x.2.s :: .int .i64 x.2.k :: lfC l := rfl
theorem lfC_length : ∀ l : LeafL, (lfC l).length = l.length * 5
  | [] => rfl
  | x :: l => by rw [lfC_cons]; simp only [List.length_cons, lfC_length l]; omega
theorem lfC_oneCell {l : LeafL} (h : OneL l) : ∀ v ∈ lfC l, v.oneCell' = true := by
  intro v hv
  simp only [lfC, List.mem_flatMap] at hv
  obtain ⟨x, hx, hv⟩ := hv
  rcases List.mem_cons.1 hv with rfl | hv
  · exact h x hx
  · simp [Ent.cells] at hv
    rcases hv with rfl | rfl | rfl | rfl <;> rfl
theorem lfC_at : ∀ (l : LeafL) (k : Nat), k < l.length → (lfC l)[k * 5 + 1]? = some (.int .i64 (l.getD k (.bool true, Ent.zero)).2.dc) ∧ (lfC l)[k * 5 + 2]? = some (.int .i64 (l.getD k (.bool true, Ent.zero)).2.n)
  | [], _, h => by cases h
  | x :: l, 0, _ => ⟨rfl, rfl⟩
  | x :: l, k + 1, h => by
    obtain ⟨h1, h2⟩ := lfC_at l k (by simpa using h)
    rw [lfC_cons, show (k + 1) * 5 + 1 = (k * 5 + 1) + 1 + 1 + 1 + 1 + 1 by omega, show (k + 1) * 5 + 2 = (k * 5 + 2) + 1 + 1 + 1 + 1 + 1 by omega]
    exact ⟨h1, h2⟩
theorem lf_at {w : World} {b off c n : Nat} {l : LeafL} (h : Rd w (.slice (some ⟨b, off, none⟩) n c) n (lfC l)) (k : Nat) (hk : k < l.length) :
    w.cell? ⟨b, off + k * 5 + 1, none⟩ = some (.int .i64 (l.getD k (.bool true, Ent.zero)).2.dc) ∧ w.cell? ⟨b, off + k * 5 + 2, none⟩ = some (.int .i64 (l.getD k (.bool true, Ent.zero)).2.n) := by
  obtain ⟨h1, h2⟩ := lfC_at l k hk
  exact ⟨h.cell (k * 5 + 1) _ h1, h.cell (k * 5 + 2) _ h2⟩
theorem dotsL_take_succ {l : LeafL} {k : Nat} (hk : k < l.length) : dotsL (l.take (k + 1)) = dotsL (l.take k) ++ [((l.getD k (.bool true, Ent.zero)).2.dc, (l.getD k (.bool true, Ent.zero)).2.n)] := by
  rw [take_succ (.bool true, Ent.zero) hk]; simp [dotsL]
theorem dotsL_append (a b : LeafL) : dotsL (a ++ b) = dotsL a ++ dotsL b := by simp [dotsL]
theorem dotsL_length (l : LeafL) : (dotsL l).length = l.length := by simp [dotsL]
theorem dotsL_lfE (p : Value) (es : List Ent) : dotsL (lfE p es) = dotsE es := by simp [dotsL, lfE, dotsE]
theorem lfE_length (p : Value) (es : List Ent) : (lfE p es).length = es.length := by simp [lfE]
theorem OneL.lfE {p : Value} (h : p.oneCell' = true) (es : List Ent) : OneL (lfE p es) := fun x hx => by
  obtain ⟨e, _, rfl⟩ := List.mem_map.1 hx
  exact h
theorem OneL.append {a b : LeafL} (ha : OneL a) (hb : OneL b) : OneL (a ++ b) := fun x hx => (List.mem_append.1 hx).elim (ha x) (hb x)
theorem lfE_take_succ {p : Value} {es : List Ent} {k : Nat} (hk : k < es.length) : lfC (lfE p (es.take (k + 1))) = lfC (lfE p (es.take k)) ++ [p, .int .i64 (es.getD k Ent.zero).dc, .int .i64 (es.getD k Ent.zero).n, .string (es.getD k Ent.zero).s, .int .i64 (es.getD k Ent.zero).k] := by
  rw [take_succ Ent.zero hk, show lfE p (es.take k ++ [es.getD k Ent.zero]) = lfE p (es.take k) ++ [(p, es.getD k Ent.zero)] by simp [lfE], lfC_append]
  rfl
/-- The texts of a path. -/
def stV (l : List ByteArray) : List Value := l.map .string
theorem stV_append (a b : List ByteArray) : stV (a ++ b) = stV a ++ stV b := by simp [stV]
@[simp] theorem stV_length (l : List ByteArray) : (stV l).length = l.length := by simp [stV]
theorem stV_oneCell (l : List ByteArray) : ∀ v ∈ stV l, v.oneCell' = true := by
  intro v hv
  simp only [stV, List.mem_map] at hv
  obtain ⟨r, _, rfl⟩ := hv
  rfl
theorem info_leaf : (Tryz.prog.info? 189).map (fun i => (i.zero, i.size, i.bytes)) = some (some (.agg #[.slice none 0 0, .int .i64 0, .int .i64 0, .string ByteArray.empty, .int .i64 0]), 5, 64) := by kernel_rfl
theorem info_string : (Tryz.prog.info? 9).map (fun i => (i.zero, i.size, i.bytes)) = some (some (.string ByteArray.empty), 1, 16) := by kernel_rfl
end Go.Proofs.YtggfoihfenlckaaGreat