/- Words for the law PackGets: R16f, PackGet4, PackGet5. -/
import Derived.Test.YtggfoihfenlckaaGreatPackGetsG11
import Derived.Test.YtggfoihfenlckaaGreatPackGetsG12
import Derived.Test.YtggfoihfenlckaaGreatPackGetsG14
import Derived.Test.YtggfoihfenlckaaGreatPackGetsG15
set_option linter.unusedSimpArgs false
set_option linter.unusedVariables false
/- tributaryref16: tree: the walk. Printed by wip/r16treegen.py. -/
namespace Go.Proofs.YtggfoihfenlckaaGreat
open Go.RowKit
section
variable {w0 w wr W W1 : World} {B : Nat} {T : TypeId} {cs : Array Value} {v v' : Value} {t t' : Option (List UInt8)} {b : Bool}
theorem Stg.facts1 (h : Stg w0 w wr W B T cs v t) (hb : t.isNone = b) : W.cell? ⟨w.heap.size, 0, none⟩ = some v ∧ W.cell? ⟨w.heap.size, 1, none⟩ = some (.bool b) ∧ W.frozen? ⟨w.heap.size, 0, none⟩ = false ∧ W.frozen? ⟨w.heap.size, 1, none⟩ = false ∧ w.heap.size < W.heap.size ∧ B < W.heap.size ∧ ¬ B = w.heap.size ∧ ¬ w.heap.size = B := by
  subst hb; exact h.facts
theorem Stg.put1 (h : Stg w0 w wr W B T cs v t) (hr : RIn w0 W v' t') (hb : t'.isNone = b) : Stg w0 w wr ((W.setCell ⟨w.heap.size, 0, none⟩ v').setCell ⟨w.heap.size, 1, none⟩ (.bool b)) B T cs v' t' := by
  subst hb; exact h.put hr
theorem Stg.next1 (h : Stg w0 w wr W B T cs v t) (f : Frm NoS W W1) (hr : RIn w0 W1 v' t') (hb : t'.isNone = b) (j : Nat) (x : Value) :
    Stg w0 w wr (((W1.setCell ⟨B, j, none⟩ x).setCell ⟨w.heap.size, 0, none⟩ v').setCell ⟨w.heap.size, 1, none⟩ (.bool b)) B T (cs.setIfInBounds j x) v' t' := by
  subst hb; exact h.next f hr j x
theorem Stg.next2 (h : Stg w0 w wr W B T cs v t) (f : Frm NoS W W1) (hr : RIn w0 W1 v' t') (hb : t'.isNone = b) (x y : Value) :
    Stg w0 w wr ((((W1.setCell ⟨B, 1, none⟩ x).setCell ⟨B, 2, none⟩ y).setCell ⟨w.heap.size, 0, none⟩ v').setCell ⟨w.heap.size, 1, none⟩ (.bool b)) B T ((cs.setIfInBounds 1 x).setIfInBounds 2 y) v' t' := by
  subst hb
  have g : ∀ (W : World) (j : Nat) (u : Value), RIn w0 W v' t' → RIn w0 (W.setCell ⟨B, j, none⟩ u) v' t' := fun W j u hr => hr.keep (only_set W B j u) fun k hk hs => (by have hs : k = B := hs; have := h.h0; have := h.new; have := h.old; omega)
  exact (((h.call f).fld 1 x).fld 2 y).put (g _ 2 y (g _ 1 x hr))
theorem Stg.cell (h : Stg w0 w wr W B T cs v t) (j : Nat) {u : Value} (hu : cs[j]? = some u) : W.cell? ⟨B, j, none⟩ = some u := cell_at' h.blk j hu
end
/-- The In's box, and the two results' blocks. -/
structure TrS (w0 w W : World) (s : Option (List UInt8)) : Prop where
  box : ∃ a l, RIn w0 W (.slice a (leftOf s).length l) s ∧ W.heap[w.heap.size]? = some (.cells #[.slice a (leftOf s).length l, .bool s.isNone] 51 (0, 0))
  r1 : W.heap[w.heap.size + 1]? = some (.cells #[.slice none 0 0, .slice none 0 0] 35 (0, 0))
  r2 : W.heap[w.heap.size + 1 + 1]? = some (.cells #[.slice none 0 0, .bool false] 51 (0, 0))
  h0 : w0.heap.size ≤ w.heap.size
/-- The blocks beside the tree that is made. -/
def XT (w : World) (k : Nat) : Prop := k = w.heap.size ∨ k = w.heap.size + 1 ∨ k = w.heap.size + 1 + 1
abbrev GT (w W : World) (es : List Ent) (l : List KidQ) (ev kv : Value) : Prop := GetAt NoS (XT w) w W (w.heap.size + 1 + 1 + 1) es l ev kv
theorem TrS.keep {w0 w W W' : World} {s : Option (List UInt8)} (h : TrS w0 w W s) (f : Frm NoS W W') : TrS w0 w W' s := by
  obtain ⟨a, l, h1, h2⟩ := h.box
  exact ⟨⟨a, l, h1.keep0 f, f.blk h2 id⟩, f.blk h.r1 id, f.blk h.r2 id, h.h0⟩
/-- Behind a step, and a store into the tree that is made. -/
theorem TrS.step {w0 w wr W w6 : World} {B : Nat} {T : TypeId} {cs : Array Value} {a : Option Addr} {cl : Nat} {s t : Option (List UInt8)} {ev : Value} (h : TrS w0 w wr s) (hs : Stg w0 w wr W B T cs (.slice a (leftOf t).length cl) t) (fm : Frm (RowS ev) W w6)
    (hn : ∀ b, ev.ownBlock = some b → w.heap.size ≤ b ∧ ¬ XT w b) (j : Nat) (u : Value) : TrS w0 w (w6.setCell ⟨w.heap.size + 1 + 1 + 1, j, none⟩ u) t := by
  have hset : Frm (Only (w.heap.size + 1 + 1 + 1)) w6 (w6.setCell ⟨w.heap.size + 1 + 1 + 1, j, none⟩ u) := only_set _ _ _ _
  have nx : ∀ k, XT w k → ¬ RowS ev k := fun k hk e => (hn k e).2 hk
  have ns : ∀ k, XT w k → ¬ Only (w.heap.size + 1 + 1 + 1) k := fun k hk e => by have e : k = w.heap.size + 1 + 1 + 1 := e; rcases hk with hk | hk | hk <;> omega
  have kp : ∀ k o, XT w k → W.heap[k]? = some o → (w6.setCell ⟨w.heap.size + 1 + 1 + 1, j, none⟩ u).heap[k]? = some o := fun k o hk ho => hset.blk (fm.blk ho (nx k hk)) (ns k hk)
  refine ⟨⟨a, cl, (hs.rin.keep fm fun k hk e => ?_).keep hset fun k hk e => ?_, kp _ _ (.inl rfl) hs.box⟩, kp _ _ (.inr (.inl rfl)) (hs.frm.blk h.r1 fun e => ?_), kp _ _ (.inr (.inr rfl)) (hs.frm.blk h.r2 fun e => ?_), h.h0⟩
  · have := (hn k e).1; have := h.h0; omega
  · have e : k = w.heap.size + 1 + 1 + 1 := e; have := h.h0; omega
  · have e : w.heap.size + 1 = w.heap.size := e; omega
  · have e : w.heap.size + 1 + 1 = w.heap.size := e; omega
theorem TrS.put {w0 w W W1 : World} {s s' : Option (List UInt8)} {a : Option Addr} {l L : Nat} {b : Bool} (h : TrS w0 w W s) (f : Frm NoS W W1) (hr : RIn w0 W1 (.slice a L l) s') (hL : (leftOf s').length = L) (hb : s'.isNone = b) :
    TrS w0 w ((W1.setCell ⟨w.heap.size, 0, none⟩ (.slice a L l)).setCell ⟨w.heap.size, 1, none⟩ (.bool b)) s' := by
  subst hL hb
  have f2 := two_set W1 w.heap.size (.slice a (leftOf s').length l) (.bool s'.isNone)
  obtain ⟨a2, l2, _, hb2⟩ := h.box
  refine ⟨⟨a, l, hr.keep f2 fun k hk hs => ?_, set_at' (set_at' (f.blk hb2 id) 0 _) 1 _⟩, f2.blk (f.blk h.r1 id) fun e => ?_, f2.blk (f.blk h.r2 id) fun e => ?_, h.h0⟩
  · have hs : k = w.heap.size := hs; have := h.h0; omega
  · have e : w.heap.size + 1 = w.heap.size := e; omega
  · have e : w.heap.size + 1 + 1 = w.heap.size := e; omega
theorem GT.put {w W W1 : World} {es : List Ent} {l : List KidQ} {ev kv v' : Value} {b : Bool} (h : GT w W es l ev kv) (f : Frm NoS W W1) : GT w ((W1.setCell ⟨w.heap.size, 0, none⟩ v').setCell ⟨w.heap.size, 1, none⟩ (.bool b)) es l ev kv :=
  (GetAt.keep0 h f).keepX ((two_set W1 w.heap.size v' (.bool b)).mono fun k _ hk => .inl hk)
def RTreePost (w0 w : World) (D : Nat) (st : Option (List UInt8)) (e : Ending) (w' : World) : Prop :=
  ∃ ev kv es ks s a l, e = .returned (.tuple #[.agg #[ev, kv], .agg #[.slice a (leftOf s).length l, .bool s.isNone]]) ∧ TreeAt (fun b => w.heap.size ≤ b) w' ev kv es ks ∧ GetRes bdR D st es ks s ∧ RIn w0 w' (.slice a (leftOf s).length l) s ∧ Frm NoS w w'
/-- Four blocks laid one behind the other. -/
theorem four_blocks (w : World) (c0 c1 c2 c3 : Array Value) (T0 T1 T2 T3 : TypeId) (W : World) (hW : W = (((w.alloc (.cells c0 T0)).alloc (.cells c1 T1)).alloc (.cells c2 T2)).alloc (.cells c3 T3)) :
    W.heap[w.heap.size]? = some (.cells c0 T0 (0, 0)) ∧ W.heap[w.heap.size + 1]? = some (.cells c1 T1 (0, 0)) ∧ W.heap[w.heap.size + 1 + 1]? = some (.cells c2 T2 (0, 0)) ∧ W.heap[w.heap.size + 1 + 1 + 1]? = some (.cells c3 T3 (0, 0)) ∧ Frm NoS w W := by
  subst hW
  have h0 := heap_alloc_new w (.cells c0 T0)
  have h1 := heap_alloc_new (w.alloc (.cells c0 T0)) (.cells c1 T1)
  have h2 := heap_alloc_new ((w.alloc (.cells c0 T0)).alloc (.cells c1 T1)) (.cells c2 T2)
  have h3 := heap_alloc_new (((w.alloc (.cells c0 T0)).alloc (.cells c1 T1)).alloc (.cells c2 T2)) (.cells c3 T3)
  have sz : ∀ (u : World) (o : Obj), (u.alloc o).heap.size = u.heap.size + 1 := fun u o => by simp
  simp only [sz] at h1 h2 h3
  exact ⟨(((Frm.alloc NoS _ _).alloc1).alloc1).blk h0 id, ((Frm.alloc NoS _ _).alloc1).blk h1 id, (Frm.alloc NoS _ _).blk h2 id, h3, (((Frm.alloc NoS _ _).alloc1).alloc1).alloc1⟩
theorem TrS.start {w0 w W : World} {a : Option Addr} {l : Nat} {st : Option (List UInt8)} (h : RIn w0 w (.slice a (leftOf st).length l) st) (h0 : w0.heap.size ≤ w.heap.size)
    (hW : W = (((w.alloc (.cells #[.slice a (leftOf st).length l, .bool st.isNone] 51)).alloc (.cells #[.slice none 0 0, .slice none 0 0] 35)).alloc (.cells #[.slice none 0 0, .bool false] 51)).alloc (.cells #[.slice none 0 0, .slice none 0 0] 35)) :
    TrS w0 w W st ∧ GT w W [] [] (.slice none 0 0) (.slice none 0 0) ∧ RIn w0 W (.slice a (leftOf st).length l) st ∧ W.heap[w.heap.size]? = some (.cells #[.slice a (leftOf st).length l, .bool st.isNone] 51 (0, 0)) := by
  obtain ⟨g0, g1, g2, g3, gf⟩ := four_blocks w _ _ _ _ _ _ _ _ W hW
  have xlt : ∀ k, XT w k → k < W.heap.size := fun k hk => by
    rcases hk with hk | hk | hk
    · rw [hk]; exact lt_of_block g0
    · rw [hk]; exact lt_of_block g1
    · rw [hk]; exact lt_of_block g2
  refine ⟨⟨⟨a, l, h.keep0 gf, g0⟩, g1, g2, h0⟩, GetAt.start (fun k hk => hk.elim) (fun k hk => by rcases hk with hk | hk | hk <;> omega) xlt gf g3 (by omega) (fun hk => by rcases hk with hk | hk | hk <;> omega), h.keep0 gf, g0⟩
/-- What is handed out: the results are stored. -/
theorem treeFin {w0 w W W' : World} {es : List Ent} {l : List KidQ} {ev kv : Value} {a : Option Addr} {cl D : Nat} {st s : Option (List UInt8)} (hg : GT w W es l ev kv) (hr : RIn w0 W (.slice a (leftOf s).length cl) s) (h0 : w0.heap.size ≤ w.heap.size) (hres : GetRes bdR D st es (mkK l) s)
    (f : Frm (XT w) W W') : RTreePost w0 w D st (.returned (.tuple #[.agg #[ev, kv], .agg #[.slice a (leftOf s).length cl, .bool s.isNone]])) W' := by
  have nx : ∀ b, w.heap.size ≤ b → ¬ XT w b → ¬ XT w b := fun b _ h => h
  refine ⟨ev, kv, es, mkK l, s, a, cl, rfl, hg.done.turn fun b hb hQ => ⟨f.block b hb hQ.2.1, hQ.1⟩, hres, hr.keep f fun k hk hs => ?_, hg.frm.trans f fun i hi hs => ?_⟩
  · rcases hs with hs | hs | hs <;> omega
  · rcases hs with hs | hs | hs <;> omega
theorem stores4 (w W : World) (x0 x1 y0 y1 : Value) : Frm (XT w) W ((((W.setCell ⟨w.heap.size + 1, 0, none⟩ x0).setCell ⟨w.heap.size + 1, 1, none⟩ x1).setCell ⟨w.heap.size + 1 + 1, 0, none⟩ y0).setCell ⟨w.heap.size + 1 + 1, 1, none⟩ y1) :=
  (((two_set W (w.heap.size + 1) x0 x1).mono fun k _ hk => .inr (.inl hk)).trans ((two_set _ (w.heap.size + 1 + 1) y0 y1).mono fun k _ hk => .inr (.inr hk)) fun _ _ h => h)
theorem stores4_at {w W : World} {x0 x1 y0 y1 : Value} {a b c d : Value} (h1 : W.heap[w.heap.size + 1]? = some (.cells #[a, b] 35 (0, 0))) (h2 : W.heap[w.heap.size + 1 + 1]? = some (.cells #[c, d] 51 (0, 0))) (W' : World)
    (hW : W' = (((W.setCell ⟨w.heap.size + 1, 0, none⟩ x0).setCell ⟨w.heap.size + 1, 1, none⟩ x1).setCell ⟨w.heap.size + 1 + 1, 0, none⟩ y0).setCell ⟨w.heap.size + 1 + 1, 1, none⟩ y1) :
    W'.cell? ⟨w.heap.size + 1, 0, none⟩ = some x0 ∧ W'.cell? ⟨w.heap.size + 1, 1, none⟩ = some x1 ∧ W'.cell? ⟨w.heap.size + 1 + 1, 0, none⟩ = some y0 ∧ W'.cell? ⟨w.heap.size + 1 + 1, 1, none⟩ = some y1 := by
  subst hW
  have g1 := set_at' (set_at' h1 0 x0) 1 x1
  have f1 := two_set W (w.heap.size + 1) x0 x1
  have f2 := two_set ((W.setCell ⟨w.heap.size + 1, 0, none⟩ x0).setCell ⟨w.heap.size + 1, 1, none⟩ x1) (w.heap.size + 1 + 1) y0 y1
  have g2 := f1.blk h2 fun e => by have e : w.heap.size + 1 + 1 = w.heap.size + 1 := e; omega
  have g3 := f2.blk g1 fun e => by have e : w.heap.size + 1 = w.heap.size + 1 + 1 := e; omega
  have g4 := set_at' (set_at' g2 0 y0) 1 y1
  exact ⟨cell_at' g3 0 rfl, cell_at' g3 1 rfl, cell_at' g4 0 rfl, cell_at' g4 1 rfl⟩
set_option maxHeartbeats 16000000 in
set_option maxRecDepth 1000000 in
theorem r16tree_any {w0 : World} : ∀ (D : Nat) (v : Value) (st : Option (List UInt8)) (w : World), D ≤ 5 → RIn w0 w v st → w0.heap.size ≤ w.heap.size → (leftOf st).length ≤ 60000 → Calls Tryz.prog 120 #[.agg #[v, .bool st.isNone], .int .i64 D] w (RTreePost w0 w D st) := by
  intro D
  induction D with
  | zero =>
    intro v st w _ h h0 _
    obtain ⟨a0, c0, rfl⟩ := h.shape
    obtain ⟨WB, hWB⟩ : ∃ W, W = (((w.alloc (.cells #[.slice a0 (leftOf st).length c0, .bool st.isNone] 51)).alloc (.cells #[.slice none 0 0, .slice none 0 0] 35)).alloc (.cells #[.slice none 0 0, .bool false] 51)).alloc (.cells #[.slice none 0 0, .slice none 0 0] 35) := ⟨_, rfl⟩
    obtain ⟨hts, hg, -, -⟩ := TrS.start h h0 hWB
    have HTS := Lib.hid hts; clear hts
    have HG := Lib.hid hg; clear hg
    have HH0 := Lib.hid h0; clear h0
    clear h
    have HZ := Lib.hid (get_zero bdR st [] (mkK []))
    generalize st.isNone = bd at *
    generalize (leftOf st).length = L0 at *
    go_enter Tryz.func120, Tryz.ntmps120
    go_wp2_with fail
    rw [← hWB]
    clear hWB
    refine wp_region_G (S := fun w' => Frm (XT w) WB w' ∧ w'.cell? ⟨w.heap.size + 1 + 1 + 1, 0, none⟩ = some (.slice none 0 0) ∧ w'.cell? ⟨w.heap.size + 1 + 1 + 1, 1, none⟩ = some (.slice none 0 0)) 3 (by kernel_rfl) ⟨(Frm.drew NoS _).mono fun _ _ s => s.elim, cell_at' ((Frm.drew NoS _).blk HG.out.b3 id) 0 rfl, cell_at' ((Frm.drew NoS _).blk HG.out.b3 id) 1 rfl⟩ ?_
    intro hS
    have HFD := Lib.hid (Frm.drew NoS WB)
    generalize WB.drew = Y0 at *
    refine take_opG 0 13 (v := ?_) rfl rfl (by kernel_rfl) (by kernel_rfl) (by decide) (by kernel_rfl) (by kernel_rfl) (fun _ _ _ h => h) (Or.inl ⟨by rfl, ?_⟩) (by assumption) ?_
    rotate_left 1
    · (intro w hSw; (try dsimp only at hSw); go_simp; (try with_reducible rfl))
    try simp only [Act.put, List.setIfInBounds_toArray, List.set_cons_zero, List.set_cons_succ]
    refine one_opG (i := 1) (by kernel_rfl) rfl (fun K hK => ?_)
    go_simp
    refine (rbad_any _).mono ?_
    rintro e1 Y1 ⟨rfl, hf1⟩
    have HF1 := Lib.hid (HFD.out.then1 hf1)
    refine hK.out _ _ ⟨hS.1.trans hf1 fun _ _ s => s.elim, hf1.cell' hS.2.1 id, hf1.cell' hS.2.2 id⟩ ?_
    clear hK K hS hf1
    have g1 := (HTS.out.keep HF1.out).r1
    have g2 := (HTS.out.keep HF1.out).r2
    have x0 := cell_at' g1 0 rfl
    have x1 := cell_at' g1 1 rfl
    have f0 := free_at' g1 0
    have f1 := free_at' g1 1
    have hl1 := lt_of_block g1
    have x2 := cell_at' g2 0 rfl
    have x3 := cell_at' g2 1 rfl
    have f2 := free_at' g2 0
    have f3 := free_at' g2 1
    have hl2 := lt_of_block g2
    have G1 := Lib.hid g1; clear g1
    have G2 := Lib.hid g2; clear g2
    try simp only [Act.put, List.setIfInBounds_toArray, List.set_cons_zero, List.set_cons_succ]
    refine one_opG (i := 2) (by kernel_rfl) rfl (fun K hK => ?_)
    go_simp
    refine hK.out _ _ ⟨(HF1.out.mono fun _ _ s => s.elim).trans ((two_set Y1 (w.heap.size + 1) (.slice none 0 0) (.slice none 0 0)).mono fun k _ hk => .inr (.inl hk)) fun _ _ s => s, (two_set Y1 (w.heap.size + 1) _ _).cell' (HF1.out.cell' (cell_at' HG.out.b3 0 rfl) id) (fun e => by have e : w.heap.size + 1 + 1 + 1 = w.heap.size + 1 := e; omega), (two_set Y1 (w.heap.size + 1) _ _).cell' (HF1.out.cell' (cell_at' HG.out.b3 1 rfl) id) (fun e => by have e : w.heap.size + 1 + 1 + 1 = w.heap.size + 1 := e; omega)⟩ ?_
    clear hK K
    try simp only [Act.put, List.setIfInBounds_toArray, List.set_cons_zero, List.set_cons_succ]
    refine last_opG (by kernel_rfl) (by kernel_rfl) rfl (fun K hK => ?_)
    go_simp
    refine hK.out _ _ ?_
    clear hK K x0 x1 x2 x3 f0 f1 f2 f3 hl1 hl2
    obtain ⟨y0, y1, y2, y3⟩ := stores4_at (x0 := .slice none 0 0) (x1 := .slice none 0 0) (y0 := .slice none 0 0) (y1 := .bool true) G1.out G2.out _ rfl
    go_wp2
    exact bodyPost_ret (v := .tuple #[.agg #[.slice none 0 0, .slice none 0 0], .agg #[.slice none 0 0, .bool true]]) (by simp [results, Tryz.results120, go_sem, y0, y1, y2, y3]) rfl (treeFin (a := none) (cl := 0) (s := none) (HG.out.keep0 HF1.out) (RIn.bad w0 _) HH0.out HZ.out (stores4 w Y1 _ _ _ _))
  | succ D IHD =>
    intro v st w hD h h0 hl
    obtain ⟨i0, hi, hz0, hz1, hz2⟩ := info_parts info_entry
    obtain ⟨i1, hi1, hy0, hy1, hy2⟩ := info_parts info_kid
    have IH := Lib.hid (fun v st W a b c d => IHD v st W a b c d); clear IHD
    unfold RTreePost at IH
    have hdl : ¬ ((D : Int) + 1 = 0) := by omega
    have hd5 : (D : Int) ≤ 4 := by omega
    have hcast : ((D + 1 : Nat) : Int) = (D : Int) + 1 := by omega
    rw [hcast]
    clear hcast
    obtain ⟨n, s1, hcnt⟩ := CntStep.total st 9223372036854775807
    have hn6 : n ≤ 60000 := by have := hcnt.left; omega
    have HL1 := Lib.hid (Nat.le_trans hcnt.less hl)
    obtain ⟨a0, c0, rfl⟩ := h.shape
    obtain ⟨WB, hWB⟩ : ∃ W, W = (((w.alloc (.cells #[.slice a0 (leftOf st).length c0, .bool st.isNone] 51)).alloc (.cells #[.slice none 0 0, .slice none 0 0] 35)).alloc (.cells #[.slice none 0 0, .bool false] 51)).alloc (.cells #[.slice none 0 0, .slice none 0 0] 35) := ⟨_, rfl⟩
    obtain ⟨hts, hg, hrb, hbb⟩ := TrS.start h h0 hWB
    have HM := Lib.hid (fun W v (hr : RIn w0 W v st) (f : w0.heap.size ≤ W.heap.size) => many_at W hr f hcnt)
    unfold RPost at HM
    have HTS := Lib.hid hts; clear hts
    have HG := Lib.hid hg; clear hg
    have HH0 := Lib.hid h0; clear h0
    have HCNT := Lib.hid hcnt; clear hcnt
    have HL := Lib.hid hl; clear hl h
    have HRB := Lib.hid hrb; clear hrb
    have HBB := Lib.hid hbb; clear hbb
    generalize hbd : st.isNone = bd at *
    generalize hll : (leftOf st).length = L0 at *
    have HBD := Lib.hid hbd; clear hbd
    have HLL := Lib.hid hll; clear hll
    generalize hb1 : s1.isNone = b1 at *
    generalize hl1 : (leftOf s1).length = L1 at *
    have HBD1 := Lib.hid hb1; clear hb1
    have HLL1 := Lib.hid hl1; clear hl1
    have HWB := Lib.hid hWB; clear hWB
    go_enter Tryz.func120, Tryz.ntmps120
    go_wp2_with (go_at_call 118; rw [← HWB.out]; go_loud (refine (HM.out WB _ HRB.out (Nat.le_trans HH0.out HG.out.frm.size)).mono ?_); rintro e w1 ⟨a1, c1, rfl, hr1, hf1⟩; have hbw := hf1.blk HBB.out id; have y0 := cell_at' hbw 0 rfl; have y1 := cell_at' hbw 1 rfl; have y2 := free_at' hbw 0; have y3 := free_at' hbw 1; have y4 := lt_of_block hbw; have HTS1 := Lib.hid (HTS.out.put hf1 hr1 HLL1.out HBD1.out); have HG1 := Lib.hid (GT.put (v' := .slice a1 L1 c1) (b := b1) HG.out hf1); clear hbw hr1 hf1)
    go_loopw [21] (fun i W => ∃ (k : Nat) (es : List Ent) (s : Option (List UInt8)) (ev : Value), k ≤ n ∧ i = .int .i64 k ∧ EsRun bdR s1 k es s ∧ (leftOf s).length ≤ 60000 ∧ TrS w0 w W s ∧ GT w W es [] ev (.slice none 0 0)) (fun i _ => n - (intOf i).toNat)
    case atStart => exact ⟨0, [], s1, _, Nat.zero_le _, rfl, .zero, by have := HL1.out; have e := HLL1.out; omega, HTS1.out, HG1.out⟩
    case round =>
      clear HTS1 HG1 y0 y1 y2 y3 y4 HRB HBB HTS HG HWB
      obtain ⟨k, es, s, ev, hk, rfl, hrun, hls, hts, hg⟩ := hrel
      have HRUN := Lib.hid hrun; clear hrun
      have HLS := Lib.hid hls; clear hls
      have HTS := Lib.hid hts; clear hts
      have hlen : es.length = k := HRUN.out.len
      obtain ⟨aV, cV, rfl⟩ := (Rd.own hg.eown).sl
      rw [hlen] at hg
      have HG := Lib.hid hg; clear hg
      have hl3 : w.heap.size + 1 + 1 + 1 < wr.heap.size := lt_of_block HG.out.b3
      by_cases hlt : k < n
      · obtain ⟨e, t1, t2, t3, t4, g1, g2, g3, g4⟩ := EntStep.total bdR s
        have HSTEP := Lib.hid (show EntStep bdR s e t4 from ⟨t1, t2, t3, g1, g2, g3, g4⟩)
        have HLT := Lib.hid (show (leftOf t4).length ≤ 60000 by
          have q1 := g1.left
          have q2 := g2.left
          have q3 := g3.left
          have q4 := g4.left
          have := HLS.out
          omega)
        have HC1 := Lib.hid (fun W v (hs : RIn w0 W v s) => rnum_at hs g1 (by decide) (by decide))
        have HC2 := Lib.hid (fun W v (hs : RIn w0 W v t1) => rnum_at hs g2 (by decide) (by decide))
        have HC3 := Lib.hid (fun W v (hs : RIn w0 W v t2) => rtext_at hs g3 (by decide) (by decide))
        have HC4 := Lib.hid (fun W v (hs : RIn w0 W v t3) => rnum_at hs g4 (by decide) (by decide))
        unfold RPost at HC1 HC2 HC3 HC4
        simp only [bdR] at HC1 HC2 HC3 HC4
        clear g1 g2 g3 g4
        obtain ⟨a2, c2, hr2, hb2⟩ := HTS.out.box
        have HST0 := Lib.hid (fun (x : Value) => (⟨hr2.keep0 (Frm.alloc NoS wr _), (Frm.alloc NoS wr _).blk hb2 id, heap_alloc_new wr _, (Frm.alloc NoS wr _).mono fun _ _ s => s.elim, Nat.le_refl _, lt_of_block hb2, HH0.out⟩ : Stg w0 w wr (wr.alloc (.cells #[.int .i64 0, .int .i64 0, x, .int .i64 0] 137)) wr.heap.size 137 #[.int .i64 0, .int .i64 0, x, .int .i64 0] (.slice a2 (leftOf s).length c2) s))
        have y0 := cell_at' hb2 0 rfl; have y1 := cell_at' hb2 1 rfl; have y2 := free_at' hb2 0; have y3 := free_at' hb2 1; have y4 := lt_of_block hb2
        clear hr2 hb2
        generalize hb0 : s.isNone = q0 at *
        generalize hm0 : (leftOf s).length = M0 at *
        have HQ0 := Lib.hid hb0; clear hb0
        have HM0 := Lib.hid hm0; clear hm0
        generalize hb1 : t1.isNone = q1 at *
        generalize hm1 : (leftOf t1).length = M1 at *
        have HQ1 := Lib.hid hb1; clear hb1
        have HM1 := Lib.hid hm1; clear hm1
        generalize hb2 : t2.isNone = q2 at *
        generalize hm2 : (leftOf t2).length = M2 at *
        have HQ2 := Lib.hid hb2; clear hb2
        have HM2 := Lib.hid hm2; clear hm2
        generalize hb3 : t3.isNone = q3 at *
        generalize hm3 : (leftOf t3).length = M3 at *
        have HQ3 := Lib.hid hb3; clear hb3
        have HM3 := Lib.hid hm3; clear hm3
        generalize hb4 : t4.isNone = q4 at *
        generalize hm4 : (leftOf t4).length = M4 at *
        have HQ4 := Lib.hid hb4; clear hb4
        have HM4 := Lib.hid hm4; clear hm4
        go_wp2_with (first
          | (go_at_call 121; go_loud (refine (HC3.out _ _ HS2.out.rin).mono ?_); rintro e3 w4 ⟨a5, c5, rfl, hr5, hf5⟩; clear y0 y1 y2 y3 y4 y5 y6 y7 z8 z9; obtain ⟨y0, y1, y2, y3, y4, y5, y6, y7⟩ := (HS2.out.call hf5).facts1 HQ2.out; have z8 := (HS2.out.call hf5).free 2; have z9 := (HS2.out.call hf5).cell 2 rfl; have HS3 := Lib.hid (HS2.out.next1 hf5 hr5 HQ3.out 2 (.string e.s)); clear hr5 hf5)
          | (go_at_call 105; first
            | (refine (HC4.out _ _ HS3.out.rin).mono ?_; rintro e4 w5 ⟨a6, c6, rfl, hr6, hf6⟩; clear y0 y1 y2 y3 y4 y5 y6 y7 z8 z9; obtain ⟨y0, y1, y2, y3, y4, y5, y6, y7⟩ := (HS3.out.call hf6).facts1 HQ3.out; have z8 := (HS3.out.call hf6).free 3; have z9 := (HS3.out.call hf6).cell 3 rfl
               have q00 : w5.cell? ⟨wr.heap.size, 0, none⟩ = some (.int .i64 e.dc) := (HS3.out.call hf6).cell 0 rfl
               have q01 : w5.cell? ⟨wr.heap.size, 1, none⟩ = some (.int .i64 e.n) := (HS3.out.call hf6).cell 1 rfl
               have q02 : w5.cell? ⟨wr.heap.size, 2, none⟩ = some (.string e.s) := (HS3.out.call hf6).cell 2 rfl
               have x0 : w5.cell? ⟨w.heap.size + 1 + 1 + 1, 0, none⟩ = some (.slice aV k cV) := cell_at' ((HS3.out.call hf6).frm.blk HG.out.b3 (fun e => by have e : w.heap.size + 1 + 1 + 1 = w.heap.size := e; omega)) 0 rfl
               have x1 : ¬ wr.heap.size = w.heap.size + 1 + 1 + 1 := by omega
               have x2 : ¬ w.heap.size + 1 + 1 + 1 = wr.heap.size := by omega
               have HS4 := Lib.hid (HS3.out.next1 hf6 hr6 HQ4.out 3 (.int .i64 e.k))
               have HG4 := Lib.hid (HG.out.keepX (HS4.out.frm.mono fun k _ hk => .inl hk))
               clear hr6 hf6)
            | (refine (HC2.out _ _ HS1.out.rin).mono ?_; rintro e2 w3 ⟨a4, c4, rfl, hr4, hf4⟩; clear y0 y1 y2 y3 y4 y5 y6 y7 z8 z9; obtain ⟨y0, y1, y2, y3, y4, y5, y6, y7⟩ := (HS1.out.call hf4).facts1 HQ1.out; have z8 := (HS1.out.call hf4).free 1; have z9 := (HS1.out.call hf4).cell 1 rfl; have HS2 := Lib.hid (HS1.out.next1 hf4 hr4 HQ2.out 1 (.int .i64 e.n)); clear hr4 hf4)
            | (go_loud (refine (HC1.out _ _ (HST0.out _).rin).mono ?_); rintro e1 w2 ⟨a3, c3, rfl, hr3, hf3⟩; clear y0 y1 y2 y3 y4; obtain ⟨y0, y1, y2, y3, y4, y5, y6, y7⟩ := ((HST0.out _).call hf3).facts1 HQ0.out; have z8 := ((HST0.out _).call hf3).free 0; have z9 := ((HST0.out _).call hf3).cell 0 rfl; have HS1 := Lib.hid ((((HST0.out _).call hf3).put1 hr3 HQ1.out).fld 0 (.int .i64 e.dc)); clear hr3 hf3))
          | (at_builtin; go_loud (refine wpList_app1 _ [.int .i64 e.dc, .int .i64 e.n, .string e.s, .int .i64 e.k] rfl (.tmp 51) (.tmp 53) 32 rfl 137 i0 _ 4 40 Tryz.underlying32 hi hz0 hz1 hz2 (by decide) (by decide) _ k _ (by have heo := HG4.out.eown; rw [hlen] at heo; exact heo) 1 1 rfl (by simp [Act.eval]) rfl ?c1 ?c2 ?c3 ?_)))
        case c1 => simp [Value.oneCell']
        case c2 => simp only [maxLen]; omega
        case c3 => omega
        intro ad cc w6 own6 fm6 fr6
        clear y0 y1 y2 y3 y4 y5 y6 y7 z8 z9 q00 q01 q02 x0 x1 x2
        have hn3 : ¬ RowS (.slice aV k cV) (w.heap.size + 1 + 1 + 1) := fun h => (HG4.out.enew _ h).2.2 rfl
        have hb6 := fm6.blk HG4.out.b3 hn3
        have hrow : w6.cell? ⟨w.heap.size + 1 + 1 + 1, 0, none⟩ = some (.slice aV k cV) := cell_at' hb6 0 rfl
        have hcf : w6.frozen? ⟨w.heap.size + 1 + 1 + 1, 0, none⟩ = false := free_at' hb6 0
        have hlt6 := lt_of_block hb6
        have e1 := HQ4.out
        have e2 := HM4.out
        subst e1 e2
        have HTS6 := Lib.hid (HTS.out.step HS4.out fm6 (fun b hb => ⟨(HG4.out.enew b hb).1, (HG4.out.enew b hb).2.1⟩) 0 (.slice ad (k + 1) cc))
        have HG6 := Lib.hid (HG4.out.stepE (e := e) (ev' := .slice ad (k + 1) cc) (w' := w6) (by rw [hlen]; exact own6) fm6 fr6)
        clear hn3 hb6 own6 fm6 fr6
        go_wp2
        go_roundw
        case rel => exact ⟨k + 1, es ++ [e], t4, _, by omega, by go_num, .snoc HRUN.out HSTEP.out, HLT.out, HTS6.out, HG6.out⟩
        case measure => simp [intOf]; omega
      · obtain rfl : n = k := by omega
        clear hlt hk
        obtain ⟨m, s3, hcnt3⟩ := CntStep.total s 9223372036854775807
        have hm6 : m ≤ 60000 := by have := hcnt3.left; have := HLS.out; omega
        have HL3 := Lib.hid (Nat.le_trans hcnt3.less HLS.out)
        have HM3 := Lib.hid (fun W v (hr : RIn w0 W v s) (f : w0.heap.size ≤ W.heap.size) => many_at W hr f hcnt3)
        unfold RPost at HM3
        have HCNT3 := Lib.hid hcnt3; clear hcnt3
        obtain ⟨a2, c2, hr2, hb2⟩ := HTS.out.box
        have HR2 := Lib.hid hr2; clear hr2
        have y0 := cell_at' hb2 0 rfl; have y1 := cell_at' hb2 1 rfl; have y2 := free_at' hb2 0; have y3 := free_at' hb2 1; have y4 := lt_of_block hb2
        have HB2 := Lib.hid hb2; clear hb2
        generalize hq0 : s.isNone = q0 at *
        generalize hm0 : (leftOf s).length = M0 at *
        have HQ0 := Lib.hid hq0; clear hq0
        have HM0 := Lib.hid hm0; clear hm0
        generalize hq3 : s3.isNone = q3 at *
        generalize hm3 : (leftOf s3).length = M3 at *
        have HQ3 := Lib.hid hq3; clear hq3
        have HMM3 := Lib.hid hm3; clear hm3
        go_wp2_with (go_at_call 118; go_loud (refine (HM3.out _ _ HR2.out (Nat.le_trans HH0.out HG.out.frm.size)).mono ?_); rintro e w1 ⟨a3, c3, rfl, hr1, hf1⟩; clear y0 y1 y2 y3 y4; have hbw := hf1.blk HB2.out id; have y0 := cell_at' hbw 0 rfl; have y1 := cell_at' hbw 1 rfl; have y2 := free_at' hbw 0; have y3 := free_at' hbw 1; have y4 := lt_of_block hbw; have HTS1 := Lib.hid (HTS.out.put hf1 hr1 HMM3.out HQ3.out); have HG1 := Lib.hid (GT.put (v' := .slice a3 M3 c3) (b := q3) HG.out hf1); clear hbw hr1 hf1)
        go_loopw [63] (fun i W => ∃ (k : Nat) (l : List KidQ) (t : Option (List UInt8)) (kv : Value), k ≤ m ∧ i = .int .i64 k ∧ l.length = k ∧ KInv bdR D s3 m l t ∧ (leftOf t).length ≤ 60000 ∧ TrS w0 w W t ∧ GT w W es l (.slice aV n cV) kv) (fun i _ => m - (intOf i).toNat)
        case atStart => exact ⟨0, [], s3, _, Nat.zero_le _, rfl, rfl, .start _ _ _ _, by have := HL3.out; have e := HMM3.out; omega, HTS1.out, HG1.out⟩
        case round =>
          clear HTS1 HG1 y0 y1 y2 y3 y4 HTS HG HR2 HB2
          obtain ⟨k, l, t, kv, hk, rfl, hll, hkv, hlt4, hts, hg⟩ := hrel
          have HKV := Lib.hid hkv; clear hkv
          have HLT := Lib.hid hlt4; clear hlt4
          have HTS := Lib.hid hts; clear hts
          obtain ⟨aK, cK, rfl⟩ := (Rd.own hg.kown).sl
          rw [hll] at hg
          have HG := Lib.hid hg; clear hg
          have hl3 : w.heap.size + 1 + 1 + 1 < wr.heap.size := lt_of_block HG.out.b3
          obtain ⟨a2, c2, hr2, hb2⟩ := HTS.out.box
          have HR2 := Lib.hid hr2; clear hr2
          by_cases hlt : k < m
          · cases t with
            | none =>
              have HRES := Lib.hid (get_early bdR_ok (M := 9223372036854775807) (by omega) (by have := HL.out; have := HLL.out; omega) HCNT.out HRUN.out HCNT3.out HKV.out es (mkK l))
              have y0 : wr.cell? ⟨w.heap.size, 0, none⟩ = some (.slice a2 0 c2) := cell_at' hb2 0 rfl
              have y1 : wr.cell? ⟨w.heap.size, 1, none⟩ = some (.bool true) := cell_at' hb2 1 rfl
              have y2 := free_at' hb2 0
              have y3 := free_at' hb2 1
              have y4 := lt_of_block hb2
              clear hb2
              have g1 := HTS.out.r1
              have g2 := HTS.out.r2
              have x0 := cell_at' g1 0 rfl
              have x1 := cell_at' g1 1 rfl
              have f0 := free_at' g1 0
              have f1 := free_at' g1 1
              have hl1 := lt_of_block g1
              have x2 := cell_at' g2 0 rfl
              have x3 := cell_at' g2 1 rfl
              have f2 := free_at' g2 0
              have f3 := free_at' g2 1
              have hl2 := lt_of_block g2
              have x4 : wr.cell? ⟨w.heap.size + 1 + 1 + 1, 0, none⟩ = some (.slice aV n cV) := cell_at' HG.out.b3 0 rfl
              have x5 : wr.cell? ⟨w.heap.size + 1 + 1 + 1, 1, none⟩ = some (.slice aK k cK) := cell_at' HG.out.b3 1 rfl
              have G1 := Lib.hid g1; clear g1
              have G2 := Lib.hid g2; clear g2
              go_wp2_with fail
              go_region
              all_goals
                clear x0 x1 x2 x3 x4 x5 f0 f1 f2 f3 hl1 hl2 y0 y1 y2 y3 y4
                obtain ⟨y0, y1, y2, y3⟩ := stores4_at (x0 := .slice aV n cV) (x1 := .slice aK k cK) (y0 := .slice a2 0 c2) (y1 := .bool true) G1.out G2.out _ rfl
                go_wp2
                exact bodyPost_ret (v := .tuple #[.agg #[.slice aV n cV, .slice aK k cK], .agg #[.slice a2 0 c2, .bool true]]) (by simp [results, Tryz.results120, go_sem, y0, y1, y2, y3]) rfl (treeFin HG.out (s := none) HR2.out HH0.out HRES.out ((stores4 w wr _ _ _ _).then1 (Frm.drew NoS _)))
            | some r =>
              obtain ⟨key, t1, g1⟩ := TextStep.total (some r) 9223372036854775807
              have HLT1 := Lib.hid (Nat.le_trans g1.left HLT.out)
              have HC1 := Lib.hid (fun W v (hs : RIn w0 W v (some r)) => rtext_at hs g1 (by decide) (by decide))
              unfold RPost at HC1
              simp only [show (leftOf (some r)).length = r.length from rfl, show (some r).isNone = false from rfl] at HC1
              have HT1 := Lib.hid g1; clear g1
              have HST0 := Lib.hid (fun (x : Value) => (⟨HR2.out.keep0 (Frm.alloc NoS wr _), (Frm.alloc NoS wr _).blk hb2 id, heap_alloc_new wr _, (Frm.alloc NoS wr _).mono fun _ _ s => s.elim, Nat.le_refl _, lt_of_block hb2, HH0.out⟩ : Stg w0 w wr (wr.alloc (.cells #[x, .slice none 0 0, .slice none 0 0] 139)) wr.heap.size 139 #[x, .slice none 0 0, .slice none 0 0] (.slice a2 (leftOf (some r)).length c2) (some r)))
              have y0 : wr.cell? ⟨w.heap.size, 0, none⟩ = some (.slice a2 r.length c2) := cell_at' hb2 0 rfl
              have y1 : wr.cell? ⟨w.heap.size, 1, none⟩ = some (.bool false) := cell_at' hb2 1 rfl
              have y2 := free_at' hb2 0
              have y3 := free_at' hb2 1
              have y4 := lt_of_block hb2
              clear hb2
              have HIH := Lib.hid (fun v W (hs : RIn w0 W v t1) (hz : w0.heap.size ≤ W.heap.size) => IH.out v t1 W (by omega) hs hz HLT1.out)
              clear IH
              generalize hb1 : t1.isNone = q1 at *
              generalize hm1 : (leftOf t1).length = M1 at *
              have HQ1 := Lib.hid hb1; clear hb1
              have HM1 := Lib.hid hm1; clear hm1
              have hd1 : IntKind.i64.wrap ((D : Int) + 1 - 1) = D := by rw [IntKind.wrap_i64]; omega
              have hd2 : IntKind.i64.wrap (D : Int) = D := by rw [IntKind.wrap_i64]; omega
              go_wp2_with (first
                | (go_at_call 121; go_loud (refine (HC1.out _ _ (HST0.out _).rin).mono ?_); rintro e1 w3 ⟨a5, c5, rfl, hr5, hf5⟩; clear y0 y1 y2 y3 y4; obtain ⟨y0, y1, y2, y3, y4, y5, y6, y7⟩ := ((HST0.out _).call hf5).facts1 (rfl : (some r).isNone = false); have z8 := ((HST0.out _).call hf5).free 0; have z9 := ((HST0.out _).call hf5).cell 0 rfl; have HS1 := Lib.hid ((HST0.out _).next1 hf5 hr5 HQ1.out 0 (.string key)); clear hr5 hf5)
                | (go_at_call 120; go_loud (refine (HIH.out _ _ HS1.out.rin (Nat.le_trans HS1.out.h0 (Nat.le_of_lt (lt_of_block HS1.out.box)))).mono ?_); rintro e2 w4 ⟨ev3, kv3, es3, ks3, t2, a6, c6, rfl, hta3, hgr, hr6, hf6⟩
                   obtain ⟨a3, c3, rfl⟩ := hta3.ents.rd.sl
                   obtain ⟨os3, hkr3, -⟩ := hta3.kids
                   obtain ⟨a4, c4, rfl⟩ := hkr3.rd.sl
                   clear hkr3 y0 y1 y2 y3 y4 y5 y6 y7 z8 z9
                   obtain ⟨y0, y1, y2, y3, y4, y5, y6, y7⟩ := (HS1.out.call hf6).facts1 HQ1.out
                   have z8 := (HS1.out.call hf6).free 1
                   have z9 := (HS1.out.call hf6).free 2
                   have z10 := (HS1.out.call hf6).cell 1 rfl
                   have z11 := (HS1.out.call hf6).cell 2 rfl
                   have q00 : w4.cell? ⟨wr.heap.size, 0, none⟩ = some (.string key) := (HS1.out.call hf6).cell 0 rfl
                   have x0 : w4.cell? ⟨w.heap.size + 1 + 1 + 1, 1, none⟩ = some (.slice aK k cK) := cell_at' ((HS1.out.call hf6).frm.blk HG.out.b3 (fun e => by have e : w.heap.size + 1 + 1 + 1 = w.heap.size := e; omega)) 1 rfl
                   have x1 : ¬ wr.heap.size = w.heap.size + 1 + 1 + 1 := by omega
                   have x2 : ¬ w.heap.size + 1 + 1 + 1 = wr.heap.size := by omega
                   have hGR := hgr
                   have HGR := Lib.hid hgr; clear hgr hGR
                   generalize hb2 : t2.isNone = q2 at *
                   generalize hm2 : (leftOf t2).length = M2 at *
                   have HQ2 := Lib.hid hb2; clear hb2
                   have HM2 := Lib.hid hm2; clear hm2
                   have HS2 := Lib.hid (HS1.out.next2 hf6 hr6 HQ2.out (.slice a3 es3.length c3) (.slice a4 ks3.len c4))
                   have hgw := HG.out.keepX (HS1.out.frm.mono fun k _ hk => .inl hk)
                   have hwb : wr.heap.size < _ := lt_of_block HS1.out.blk
                   have hft : Frm (fun k => k = wr.heap.size ∨ k = w.heap.size) w4 ((((w4.setCell ⟨wr.heap.size, 1, none⟩ (.slice a3 es3.length c3)).setCell ⟨wr.heap.size, 2, none⟩ (.slice a4 ks3.len c4)).setCell ⟨w.heap.size, 0, none⟩ (.slice a6 M2 c6)).setCell ⟨w.heap.size, 1, none⟩ (.bool q2)) :=
                     (((only_set w4 wr.heap.size 1 _).trans (only_set _ wr.heap.size 2 _) fun _ _ h => h).mono fun k _ hk => .inl hk).trans ((two_set _ w.heap.size _ _).mono fun k _ hk => .inr hk) fun _ _ h => h
                   have HKD := Lib.hid (hgw.kid (hta3.turn (Q' := fun b => _ ≤ b) fun b hb hQ => ⟨hft.block b hb (fun hs => by rcases hs with hs | hs <;> omega), hQ⟩) (Nat.le_trans hf6.size hft.size))
                   have HG2 := Lib.hid (HG.out.keepX (HS2.out.frm.mono fun k _ hk => .inl hk))
                   clear hta3 hgw hwb hft hr6 hf6
                   generalize es3.length = n3 at *
                   generalize ks3.len = m3 at *)
                | (at_builtin; go_loud (refine wpList_app1 _ [.string key, .slice a3 n3 c3, .slice a4 m3 c4] rfl (.tmp 84) (.tmp 86) 33 rfl 139 i1 _ 3 64 Tryz.underlying33 hi1 hy0 hy1 hy2 (by decide) (by decide) _ k _ (by have heo := HG2.out.kown; rw [hll] at heo; exact heo) 1 1 rfl (by simp [Act.eval]) rfl ?c1 ?c2 ?c3 ?_)))
              case c1 => simp [Value.oneCell']
              case c2 => simp only [maxLen]; omega
              case c3 => omega
              intro ad cc w6 own6 fm6 fr6
              clear y0 y1 y2 y3 y4 y5 y6 y7 z8 z9 z10 z11 q00 x0 x1 x2
              have hn3 : ¬ RowS (.slice aK k cK) (w.heap.size + 1 + 1 + 1) := fun h => (HG2.out.knew _ h).2.2.1 rfl
              have hb6 := fm6.blk HG2.out.b3 hn3
              have hrow : w6.cell? ⟨w.heap.size + 1 + 1 + 1, 1, none⟩ = some (.slice aK k cK) := cell_at' hb6 1 rfl
              have hcf : w6.frozen? ⟨w.heap.size + 1 + 1 + 1, 1, none⟩ = false := free_at' hb6 1
              have hlt6 := lt_of_block hb6
              have e1 := HQ2.out
              have e2 := HM2.out
              subst e1 e2
              have HTS6 := Lib.hid (HTS.out.step HS2.out fm6 (fun b hb => ⟨(HG2.out.knew b hb).1, (HG2.out.knew b hb).2.1⟩) 1 (.slice ad (k + 1) cc))
              have HG6 := Lib.hid (HG2.out.stepK (q := ⟨key, es3, ks3, .slice a3 n3 c3, .slice a4 m3 c4⟩) (kv' := .slice ad (k + 1) cc) (w' := w6) HKD.out (by rw [hll]; exact own6) fm6 fr6)
              have HKN := Lib.hid (HKV.out.step (q := ⟨key, es3, ks3, .slice a3 n3 c3, .slice a4 m3 c4⟩) bdR_ok (by omega) HT1.out HGR.out)
              have HLT2 := Lib.hid (show (leftOf t2).length ≤ 60000 by have h1 := HGR.out.left; have h2 := HLT1.out; have h3 := HM1.out; omega)
              clear hn3 hb6 own6 fm6 fr6
              go_wp2
              go_roundw
              case rel => exact ⟨k + 1, l ++ [⟨key, es3, ks3, .slice a3 n3 c3, .slice a4 m3 c4⟩], t2, _, by omega, by go_num, by simp [hll], HKN.out, HLT2.out, HTS6.out, HG6.out⟩
              case measure => simp [intOf]; omega
          · obtain rfl : m = k := by omega
            have HRES := Lib.hid (get_done bdR_ok (M := 9223372036854775807) (by omega) (by have := HL.out; have := HLL.out; omega) HCNT.out HRUN.out HCNT3.out HKV.out hll)
            have y0 := cell_at' hb2 0 rfl; have y1 := cell_at' hb2 1 rfl; have y2 := free_at' hb2 0; have y3 := free_at' hb2 1; have y4 := lt_of_block hb2
            clear hb2
            generalize hq9 : t.isNone = q9 at *
            generalize hm9 : (leftOf t).length = M9 at *
            have HQ9 := Lib.hid hq9; clear hq9
            have HM9 := Lib.hid hm9; clear hm9
            have g1 := HTS.out.r1
            have g2 := HTS.out.r2
            have x0 := cell_at' g1 0 rfl
            have x1 := cell_at' g1 1 rfl
            have f0 := free_at' g1 0
            have f1 := free_at' g1 1
            have hl1 := lt_of_block g1
            have x2 := cell_at' g2 0 rfl
            have x3 := cell_at' g2 1 rfl
            have f2 := free_at' g2 0
            have f3 := free_at' g2 1
            have hl2 := lt_of_block g2
            have x4 : wr.cell? ⟨w.heap.size + 1 + 1 + 1, 0, none⟩ = some (.slice aV n cV) := cell_at' HG.out.b3 0 rfl
            have x5 : wr.cell? ⟨w.heap.size + 1 + 1 + 1, 1, none⟩ = some (.slice aK m cK) := cell_at' HG.out.b3 1 rfl
            have G1 := Lib.hid g1; clear g1
            have G2 := Lib.hid g2; clear g2
            go_wp2_with fail
            go_region
            all_goals
              clear x0 x1 x2 x3 x4 x5 f0 f1 f2 f3 hl1 hl2 y0 y1 y2 y3 y4
              obtain ⟨y0, y1, y2, y3⟩ := stores4_at (x0 := .slice aV n cV) (x1 := .slice aK m cK) (y0 := .slice a2 M9 c2) (y1 := .bool q9) G1.out G2.out _ rfl
              go_wp2
              exact bodyPost_ret (v := .tuple #[.agg #[.slice aV n cV, .slice aK m cK], .agg #[.slice a2 M9 c2, .bool q9]]) (by simp [results, Tryz.results120, go_sem, y0, y1, y2, y3]) rfl (by have e1 := HQ9.out; have e2 := HM9.out; subst e1 e2; exact treeFin HG.out (s := t) HR2.out HH0.out HRES.out ((stores4 w wr _ _ _ _).then1 (Frm.drew NoS _)))
end Go.Proofs.YtggfoihfenlckaaGreat
/- pack: what was read fits: sizes of what bytes tell. -/
namespace Go.Proofs.YtggfoihfenlckaaGreat
open Go.RowKit
theorem encE_four (e : Ent) : 4 ≤ (encE e).length := by
  have h1 := numB_pos e.dc
  have h2 := numB_pos e.n
  have h3 := textB_pos e.s
  have h4 := numB_pos e.k
  unfold encE
  simp only [List.length_append]; omega
theorem encS_three (s : Int × Int × Int) : 3 ≤ (encS s).length := by
  have h1 := numB_pos s.1
  have h2 := numB_pos s.2.1
  have h3 := numB_pos s.2.2
  unfold encS
  simp only [List.length_append]; omega
theorem flat_ge {α : Type} {f : α → List UInt8} {m : Nat} (hf : ∀ a, m ≤ (f a).length) : ∀ l : List α, m * l.length ≤ (l.flatMap f).length
  | [] => by simp
  | a :: l => by
    have := flat_ge hf l
    have := hf a
    rw [List.flatMap_cons, List.length_append, List.length_cons, Nat.mul_succ]; omega
theorem sizeK_le3 : ∀ ks : KidsL, 3 * sizeK ks ≤ (encK ks).length
  | .nil => Nat.le_refl _
  | .cons key es sub rest => by
    have h1 := sizeK_le3 sub
    have h2 := sizeK_le3 rest
    have h3 : 4 * es.length ≤ (encEs es).length := flat_ge encE_four es
    have h4 := textB_pos key
    have h5 := numB_pos es.length
    have h6 := numB_pos sub.len
    unfold encK sizeK
    simp only [List.length_append]
    omega
theorem sizeT_le3 (es : List Ent) (ks : KidsL) : 3 * sizeT es ks ≤ (encT es ks).length := by
  have h2 := sizeK_le3 ks
  have h3 : 4 * es.length ≤ (encEs es).length := flat_ge encE_four es
  unfold encT sizeT
  simp only [List.length_append]
  omega
theorem encC_ge3 (c : CtxL) : 3 * c.length ≤ (encC c).length := by
  have h3 : 3 * c.length ≤ (encSs c).length := flat_ge encS_three c
  unfold encC
  simp only [List.length_append]
  omega
theorem Ent.bd.fits {B : Lim} (hB : B.Ok) {e : Ent} (h : e.bd B) : e.fits := by
  obtain ⟨h1, h2, h3, h4⟩ := h
  obtain ⟨b1, b2, b3, b4⟩ := hB
  exact ⟨⟨by omega, by omega⟩, ⟨by omega, by omega⟩, ⟨by omega, by omega⟩, by omega⟩
theorem KidsL.bd.ok {B : Lim} (hB : B.Ok) : ∀ {ks : KidsL}, ks.bd B → (encK ks).length ≤ 140737488351232 → ks.Ok
  | .nil, _, _ => trivial
  | .cons key es sub rest, h, hl => by
    have hlim : ((textB key ++ ((numB es.length ++ (encEs es ++ (numB sub.len ++ encK sub))) ++ encK rest)).length) ≤ 140737488351232 := hl
    simp only [List.length_append] at hlim
    have h3 := encT_ge es sub
    have hb := hB.s.2
    exact ⟨by have := h.1; omega, ⟨by omega, fun e he => (h.2.1 e he).fits hB⟩, by omega, KidsL.bd.ok hB h.2.2.1 (by omega), KidsL.bd.ok hB h.2.2.2 (by omega)⟩
theorem GetOk.tr {B : Lim} (hB : B.Ok) {d : Nat} {bs rest : List UInt8} {es : List Ent} {ks : KidsL} (h : GetOk B d bs es ks rest) (hl : bs.length ≤ 140737488351232) : TrOk es ks ∧ 3 * sizeT es ks + rest.length ≤ bs.length := by
  have h1 := sizeT_le3 es ks
  have h2 := encT_ge es ks
  have he := congrArg List.length h.eq
  rw [List.length_append] at he
  have h4 : (encT es ks).length = (numB es.length).length + ((encEs es).length + ((numB ks.len).length + (encK ks).length)) := by unfold encT; simp only [List.length_append]
  exact ⟨⟨⟨by omega, fun e he => (h.ebd e he).fits hB⟩, by omega, h.kbd.ok hB (by omega)⟩, by omega⟩
theorem trOk_nil : TrOk [] .nil := ⟨⟨by simp, fun e he => by cases he⟩, by simp [KidsL.len], trivial⟩
theorem TreeRes.sizes {st s : Option (List UInt8)} {es : List Ent} {ks : KidsL} (h : TreeRes st es ks s) : 3 * sizeT es ks + (leftOf s).length ≤ (leftOf st).length := by
  rcases h with ⟨r, rfl, _, rfl⟩ | ⟨rfl, rfl, rfl, _⟩
  · have := sizeT_le3 es ks
    show _ + r.length ≤ (encT es ks ++ r).length
    rw [List.length_append]; omega
  · have : sizeT [] .nil = 0 := rfl
    rw [this]
    exact Nat.zero_le _
theorem CtxRes.sizes {st s : Option (List UInt8)} {c : CtxL} (h : CtxRes st c s) : 3 * c.length + (leftOf s).length ≤ (leftOf st).length := by
  rcases h with ⟨r, rfl, _, rfl⟩ | ⟨rfl, rfl, _⟩
  · have := encC_ge3 c
    show _ + r.length ≤ (encC c ++ r).length
    rw [List.length_append]; omega
  · exact Nat.zero_le _
end Go.Proofs.YtggfoihfenlckaaGreat
/- pack: GetTree: the walk. -/
namespace Go.Proofs.YtggfoihfenlckaaGreat
open Go.RowKit
theorem pget_ok {es : List Ent} {ks : KidsL} {bs r : List UInt8} (hg : GetOk bdP 5 bs es ks r) (ib : Nat) (w : World) (h : InSt w ib (some bs)) (hl : bs.length ≤ 60000) :
    Calls Tryz.prog 80 #[.pointer (some ⟨ib, 0, none⟩), .int .i64 5] w fun e w' => ∃ ev kv, e = .returned (.agg #[ev, kv]) ∧ TreeAt (fun b => w.heap.size ≤ b) w' ev kv es ks ∧ InSt w' ib (some r) ∧ Frm (Only ib) w w' := by
  refine Calls.mono (pget_any 5 ib (some bs) w (Nat.le_refl _) h hl) fun e w' ⟨ev, kv, es', ks', s, he, ht, hr, hi, hf⟩ => ?_
  rcases hr with ⟨b2, r2, h1, h2, h3⟩ | ⟨_, h2⟩
  · injection h1 with h1
    subst h1 h2
    have e2 : encT es' ks' ++ r2 = encT es ks ++ r := by rw [← h3.eq, ← hg.eq]
    obtain ⟨⟨rfl, rfl⟩, rfl⟩ := encT_pfx e2
    exact ⟨ev, kv, he, ht, hi, hf⟩
  · exact absurd hg (h2 _ _ _ _ rfl)
theorem pget_no {st : Option (List UInt8)} (hg : ∀ bs es ks r, st = some bs → ¬ GetOk bdP 5 bs es ks r) (ib : Nat) (w : World) (h : InSt w ib st) (hl : (leftOf st).length ≤ 60000) :
    Calls Tryz.prog 80 #[.pointer (some ⟨ib, 0, none⟩), .int .i64 5] w fun e w' => ∃ a n c a2 n2 c2, e = .returned (.agg #[.slice a n c, .slice a2 n2 c2]) ∧ InSt w' ib none ∧ Frm (Only ib) w w' := by
  refine Calls.mono (pget_any 5 ib st w (Nat.le_refl _) h hl) fun e w' ⟨ev, kv, es', ks', s, he, ht, hr, hi, hf⟩ => ?_
  obtain ⟨a0, c0, rfl⟩ := ht.ents.rd.sl
  obtain ⟨os, hk, _⟩ := ht.kids
  obtain ⟨a1, c1, rfl⟩ := hk.rd.sl
  rcases hr with ⟨b2, r2, h1, h2, h3⟩ | ⟨rfl, _⟩
  · exact absurd h3 (hg _ _ _ _ h1)
  · exact ⟨_, _, _, _, _, _, he, hi, hf⟩
theorem TreeRes.tr {st s : Option (List UInt8)} {es : List Ent} {ks : KidsL} (h : TreeRes st es ks s) (hl : (leftOf st).length ≤ 60000) : TrOk es ks := by
  rcases h with ⟨r, rfl, hr, rfl⟩ | ⟨rfl, rfl, rfl, _⟩
  · exact ((right_ok wideP hr).tr bdP_ok (Nat.le_trans hl (by decide))).1
  · exact trOk_nil
def TreePost (st : Option (List UInt8)) (ib : Nat) (w : World) (e : Ending) (w' : World) : Prop :=
  ∃ ev kv es ks s, e = .returned (.agg #[ev, kv]) ∧ TreeAt (fun b => w.heap.size ≤ b) w' ev kv es ks ∧ TreeRes st es ks s ∧ InSt w' ib s ∧ Frm (Only ib) w w'
theorem treeOut {Q : Nat → Prop} {w ww w' : World} {ib : Nat} {s : Option (List UInt8)} {e2 k2 : Value} {es2 : List Ent} {ks2 : KidsL} {st : Option (List UInt8)}
    (hin : InSt ww ib s) (hib : ib < w.heap.size) (hf : Frm (Only ib) w ww) (ht : TreeAt Q ww e2 k2 es2 ks2) (hq : ∀ b, Q b → w.heap.size ≤ b ∧ b ≠ w.heap.size) (hts : Frm (fun b => b = w.heap.size) ww w') (hres : TreeRes st es2 ks2 s) :
    TreePost st ib w (.returned (.agg #[e2, k2])) w' :=
  ⟨e2, k2, es2, ks2, s, rfl, ht.turn fun b hb hQ => ⟨hts.block b hb (hq b hQ).2, (hq b hQ).1⟩, hres, hin.keep hts fun j hj hs => by have hs : j = w.heap.size := hs; omega, hf.trans hts fun i hi hs => by have hs : i = w.heap.size := hs; omega⟩
set_option maxHeartbeats 2000000 in
set_option maxRecDepth 1000000 in
theorem pGetTree_any (ib : Nat) (st : Option (List UInt8)) (w : World) (h : InSt w ib st) (hl : (leftOf st).length ≤ 60000) :
    Calls Tryz.prog 28 #[.pointer (some ⟨ib, 0, none⟩)] w (TreePost st ib w) := by
  have hib := h.lt
  have hno : ¬ Only ib w.heap.size := fun h => by have h : w.heap.size = ib := h; omega
  have HNO := Lib.hid hno; clear hno
  have HB0 := Lib.hid (heap_alloc_new w (.cells #[.slice none 0 0, .slice none 0 0] 35))
  have HI0 := Lib.hid (h.keep (Frm.alloc NoS w (.cells #[.slice none 0 0, .slice none 0 0] 35)) fun _ _ => id)
  have HIB := Lib.hid hib; clear hib
  have HF0 := Lib.hid ((Frm.alloc NoS w (.cells #[.slice none 0 0, .slice none 0 0] 35)).mono (T := Only ib) fun _ _ h => h.elim)
  have HS0 := Lib.hid (show (w.alloc (.cells #[.slice none 0 0, .slice none 0 0] 35)).heap.size = w.heap.size + 1 by simp)
  clear h
  by_cases hg : ∃ bs es ks r, st = some bs ∧ GetOk bdP 5 bs es ks r
  · obtain ⟨bs, es, ks, r, rfl, hg⟩ := hg
    have HG := Lib.hid (pget_ok hg ib _ HI0.out hl)
    have hok := (hg.tr bdP_ok (Nat.le_trans hl (by decide))).1
    have HRT := Lib.hid (fun W Q ev kv (h : TreeAt Q W ev kv es ks) => tRight_any Q es ks W ev kv h hok)
    clear hok
    cases hr : rightT 5 es ks with
    | true =>
      rw [hr] at HRT
      have HPOST := Lib.hid (tree_good (B := bdP) (st := some bs) (rest := r) (.inl ⟨bs, r, rfl, rfl, hg⟩) hr)
      clear hr hg
      go_enter Tryz.func28, Tryz.ntmps28
      go_wp2_with (first
        | (go_at_call 80; refine HG.out.mono ?_; rintro e w1 ⟨ev, kv, rfl, hta, hi1, hf1⟩; obtain ⟨a3, c3, rfl⟩ := hta.ents.rd.sl; obtain ⟨os3, hkr3, -⟩ := hta.kids; obtain ⟨a4, c4, rfl⟩ := hkr3.rd.sl; clear hkr3
           have HB1 := Lib.hid (hf1.blk HB0.out HNO.out)
           have HTA := Lib.hid hta; clear hta
           generalize es.length = n at *
           generalize ks.len = m at *
           have HI1 := Lib.hid hi1; clear hi1
           have HF1 := Lib.hid (HF0.out.trans hf1 fun _ _ h => h)
           have hsz1 := hf1.size
           have HSZ1 := Lib.hid hsz1; clear hsz1 hf1
           have HA1 := Lib.hid (Frm.alloc NoS w1 (.cells #[.slice a3 n c3, .slice a4 m c4] 35))
           have HX1 := Lib.hid (heap_alloc_new w1 (.cells #[.slice a3 n c3, .slice a4 m c4] 35)))
        | (go_at_call 17; refine (bad_go ib _ _ (HI1.out.keep HA1.out fun _ _ => id)).mono ?_; rintro e w2 ⟨rfl, rfl⟩)
        | (go_at_call 81; refine (HRT.out _ _ _ _ (HTA.out.keep0 HA1.out)).mono ?_; rintro e w3 ⟨rfl, hf3⟩
           have hx3 := hf3.blk HX1.out id
           have z0 := cell_at' hx3 0 rfl
           have z1 := cell_at' hx3 1 rfl
           have hb3 := hf3.blk (HA1.out.blk HB1.out id) id
           have y0 := cell_at' hb3 0 rfl
           have y1 := cell_at' hb3 1 rfl
           have f0 := free_at' hb3 0
           have f1 := free_at' hb3 1
           have hl2 := lt_of_block hb3
           have hl3 := lt_of_block hx3
           have HB3 := Lib.hid hb3
           have HF3 := Lib.hid (HA1.out.then1 hf3)
           clear hf3 hx3 hb3))
      clear y0 y1 z0 z1
      have y0 := cell_at' (set_at' (set_at' HB3.out 0 (.slice a3 n c3)) 1 (.slice a4 m c4)) 0 rfl
      have y1 := cell_at' (set_at' (set_at' HB3.out 0 (.slice a3 n c3)) 1 (.slice a4 m c4)) 1 rfl
      have hts : Frm (Only w.heap.size) w3 ((w3.setCell ⟨w.heap.size, 0, none⟩ (.slice a3 n c3)).setCell ⟨w.heap.size, 1, none⟩ (.slice a4 m c4)) := two_set _ _ _ _
      exact bodyPost_ret (v := .agg #[.slice a3 n c3, .slice a4 m c4]) (by simp [results, Tryz.results28, go_sem, y0, y1]) rfl (treeOut (HI1.out.keep HF3.out fun _ _ => id) HIB.out (HF1.out.trans HF3.out fun _ _ h => h.elim) (HTA.out.keep0 HF3.out) (fun b h => by have := HS0.out; have h : (w.alloc (.cells #[.slice none 0 0, .slice none 0 0] 35)).heap.size ≤ b := h; omega) hts HPOST.out)
    | false =>
      rw [hr] at HRT
      have HPOST := Lib.hid (tree_wrong (B := bdP) (st := some bs) (rest := r) (.inl ⟨bs, r, rfl, rfl, hg⟩) hr)
      clear hr hg
      go_enter Tryz.func28, Tryz.ntmps28
      go_wp2_with (first
        | (go_at_call 80; refine HG.out.mono ?_; rintro e w1 ⟨ev, kv, rfl, hta, hi1, hf1⟩; obtain ⟨a3, c3, rfl⟩ := hta.ents.rd.sl; obtain ⟨os3, hkr3, -⟩ := hta.kids; obtain ⟨a4, c4, rfl⟩ := hkr3.rd.sl; clear hkr3
           have HB1 := Lib.hid (hf1.blk HB0.out HNO.out)
           have HTA := Lib.hid hta; clear hta
           generalize es.length = n at *
           generalize ks.len = m at *
           have HI1 := Lib.hid hi1; clear hi1
           have HF1 := Lib.hid (HF0.out.trans hf1 fun _ _ h => h)
           clear hf1
           have HA1 := Lib.hid (Frm.alloc NoS w1 (.cells #[.slice a3 n c3, .slice a4 m c4] 35)))
        | (go_at_call 17; refine (bad_go ib _ _ (HI1.out.keep HA1.out fun _ _ => id)).mono ?_; rintro e w2 ⟨rfl, rfl⟩)
        | (go_at_call 81; refine (HRT.out _ _ _ _ (HTA.out.keep0 HA1.out)).mono ?_; rintro e w3 ⟨rfl, hf3⟩; have HF3 := Lib.hid (HA1.out.then1 hf3); clear hf3)
        | (go_at_call 79; obtain ⟨a, c, hh⟩ := (HI1.out.keep HF3.out fun _ _ => id).heap; refine (fail_go ib _ _ w3 hh).mono ?_; rintro e w4 ⟨rfl, hi4, hf4⟩
           have HI4 := Lib.hid (show InSt w4 ib none from hi4); clear hi4 hh
           have hb3 := hf4.blk (HF3.out.blk HB1.out id) HNO.out
           have y0 := cell_at' hb3 0 rfl
           have y1 := cell_at' hb3 1 rfl
           have f0 := free_at' hb3 0
           have f1 := free_at' hb3 1
           have hl2 := lt_of_block hb3
           have HB3 := Lib.hid hb3
           have HF4 := Lib.hid ((HF1.out.trans HF3.out fun _ _ h => h.elim).trans hf4 fun _ _ h => h)
           clear hf4 hb3))
      clear y0 y1
      have y0 := cell_at' (set_at' (set_at' HB3.out 0 (.slice none 0 0)) 1 (.slice none 0 0)) 0 rfl
      have y1 := cell_at' (set_at' (set_at' HB3.out 0 (.slice none 0 0)) 1 (.slice none 0 0)) 1 rfl
      have hts : Frm (Only w.heap.size) w4 ((w4.setCell ⟨w.heap.size, 0, none⟩ (.slice none 0 0)).setCell ⟨w.heap.size, 1, none⟩ (.slice none 0 0)) := two_set _ _ _ _
      exact bodyPost_ret (v := .agg #[.slice none 0 0, .slice none 0 0]) (by simp [results, Tryz.results28, go_sem, y0, y1]) rfl (treeOut HI4.out HIB.out HF4.out (tree_nilQ (fun b => w.heap.size ≤ b ∧ b ≠ w.heap.size) w4) (fun b h => h) hts HPOST.out)
  · have hg' : ∀ bs es ks r, st = some bs → ¬ GetOk bdP 5 bs es ks r := fun bs es ks r h1 h2 => hg ⟨bs, es, ks, r, h1, h2⟩
    have HG := Lib.hid (pget_no hg' ib _ HI0.out hl)
    have HPOST := Lib.hid (tree_bad (B := bdP) (es := []) (ks := .nil) wideP (.inr ⟨rfl, hg'⟩ : GetRes bdP 5 st [] .nil none))
    clear hg hg'
    go_enter Tryz.func28, Tryz.ntmps28
    go_wp2_with (first
      | (go_at_call 80; refine HG.out.mono ?_; rintro e w1 ⟨a3, n, c3, a4, m, c4, rfl, hi1, hf1⟩
         have HB1 := Lib.hid (hf1.blk HB0.out HNO.out)
         have HI1 := Lib.hid hi1; clear hi1
         have HF1 := Lib.hid (HF0.out.trans hf1 fun _ _ h => h)
         clear hf1
         have HA1 := Lib.hid (Frm.alloc NoS w1 (.cells #[.slice a3 n c3, .slice a4 m c4] 35)))
      | (go_at_call 17; refine (bad_go ib _ _ (HI1.out.keep HA1.out fun _ _ => id)).mono ?_; rintro e w2 ⟨rfl, rfl⟩)
      | (go_at_call 79; obtain ⟨a, c, hh⟩ := (HI1.out.keep HA1.out fun _ _ => id).heap; refine (fail_go ib _ _ _ hh).mono ?_; rintro e w4 ⟨rfl, hi4, hf4⟩
         have HI4 := Lib.hid (show InSt w4 ib none from hi4); clear hi4 hh
         have hb3 := hf4.blk (HA1.out.blk HB1.out id) HNO.out
         have y0 := cell_at' hb3 0 rfl
         have y1 := cell_at' hb3 1 rfl
         have f0 := free_at' hb3 0
         have f1 := free_at' hb3 1
         have hl2 := lt_of_block hb3
         have HB3 := Lib.hid hb3
         have HF4 := Lib.hid ((HF1.out.trans HA1.out fun _ _ h => h.elim).trans hf4 fun _ _ h => h)
         clear hf4 hb3))
    clear y0 y1
    have y0 := cell_at' (set_at' (set_at' HB3.out 0 (.slice none 0 0)) 1 (.slice none 0 0)) 0 rfl
    have y1 := cell_at' (set_at' (set_at' HB3.out 0 (.slice none 0 0)) 1 (.slice none 0 0)) 1 rfl
    have hts : Frm (Only w.heap.size) w4 ((w4.setCell ⟨w.heap.size, 0, none⟩ (.slice none 0 0)).setCell ⟨w.heap.size, 1, none⟩ (.slice none 0 0)) := two_set _ _ _ _
    exact bodyPost_ret (v := .agg #[.slice none 0 0, .slice none 0 0]) (by simp [results, Tryz.results28, go_sem, y0, y1]) rfl (treeOut HI4.out HIB.out HF4.out (tree_nilQ (fun b => w.heap.size ≤ b ∧ b ≠ w.heap.size) w4) (fun b h => h) hts HPOST.out)
end Go.Proofs.YtggfoihfenlckaaGreat