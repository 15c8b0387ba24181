/- Words for the law PackGets: Get16, Awake16a, PackRead, Put1, PackPut, PackPut2. -/
import Derived.Test.YtggfoihfenlckaaGreatPackGetsG11
import Derived.Test.YtggfoihfenlckaaGreatPackGetsG12
import Derived.Test.YtggfoihfenlckaaGreatPackGetsG13
import Derived.Test.YtggfoihfenlckaaGreatPackGetsG17
import Derived.Test.YtggfoihfenlckaaGreatPackGetsG24
set_option linter.unusedSimpArgs false
set_option linter.unusedVariables false
/- tributarylaw16: get: the walk. Printed by wip/get16gen.py. -/
namespace Go.Proofs.YtggfoihfenlckaaGreat
open Go.RowKit
theorem get16_any (w0 W : World) {st : Option (List UInt8)} (k : Int) (ib : Nat) (wv : Value) (hib : w0.heap.size ≤ ib) (hi : InSt W ib st) (hr : RIn w0 W wv st) (hl : (leftOf st).length ≤ 6000) :
    Calls Tryz.prog 16 #[.pointer (some ⟨ib, 0, none⟩), .agg #[wv, .bool st.isNone], .int .u8 k] W (Get16Post w0 st ib W) := by
  by_cases h0 : k = 0
  · obtain ⟨c, s1, hc⟩ := CtxRes.total st
    exact get16_0 w0 W k ib wv hib hi hr hl hc h0
  by_cases h1 : k = 1
  · obtain ⟨es, ks, s1, hc⟩ := TreeRes.total st
    exact get16_1 w0 W k ib wv hib hi hr hl hc h1
  by_cases h2 : k = 2
  · obtain ⟨es, ks, c, s1, hc⟩ := CauRes.total st
    exact get16_2 w0 W k ib wv hib hi hr hl hc h2
  by_cases h3 : k = 3
  · obtain ⟨ss, a, s, n, s1, hc⟩ := OpRes.total st
    exact get16_3 w0 W k ib wv hib hi hr hl hc h3
  obtain ⟨u0, u1, u2, u3, s1, hc⟩ := VecRes.total st
  exact get16_4 w0 W k ib wv hib hi hr hl hc h0 h1 h2 h3
end Go.Proofs.YtggfoihfenlckaaGreat
/- tributarylaw16: known: the walk. -/
namespace Go.Proofs.YtggfoihfenlckaaGreat
open Go.RowKit
theorem row_at {w : World} {b n : Nat} {cs : Array Value} {T : TypeId} (h : w.heap[b]? = some (.cells cs T (0, 0))) (hm : n ≤ 100) : Rd w (.slice (some ⟨b, 0, none⟩) n n) n cs.toList :=
  .inr ⟨b, 0, n, rfl, Nat.le_refl _, by simp only [maxLen]; omega, fun j u hu => by rw [Nat.zero_add]; exact cell_at' h j (by simpa using hu)⟩
/-- Three blocks laid one behind the other. -/
theorem three_rows (w : World) (c0 c1 c2 : Array Value) (T0 T1 T2 : TypeId) (W : World) (hW : W = ((w.alloc (.cells c0 T0)).alloc (.cells c1 T1)).alloc (.cells c2 T2)) :
    W.heap[w.heap.size]? = some (.cells c0 T0 (0, 0)) ∧ W.heap[w.heap.size + 1]? = some (.cells c1 T1 (0, 0)) ∧ W.heap[w.heap.size + 1 + 1]? = some (.cells c2 T2 (0, 0)) ∧ Frm NoS w W := by
  subst hW
  have h0 := heap_alloc_new w (.cells c0 T0)
  have h1 := heap_alloc_new (w.alloc (.cells c0 T0)) (.cells c1 T1)
  have h2 := heap_alloc_new ((w.alloc (.cells c0 T0)).alloc (.cells c1 T1)) (.cells c2 T2)
  have sz : ∀ (u : World) (o : Obj), (u.alloc o).heap.size = u.heap.size + 1 := fun u o => by simp
  simp only [sz] at h1 h2
  exact ⟨((Frm.alloc NoS _ _).alloc1).blk h0 id, (Frm.alloc NoS _ _).blk h1 id, h2, ((Frm.alloc NoS _ _).alloc1).alloc1⟩
def kEs : List Ent := [⟨1, 1, ⟨#[97]⟩, 3⟩]
def kKs : KidsL := .nil
def kC : CtxL := [(1, 1, 1)]
def kB : List UInt8 := [2, 2, 2, 2, 97, 6, 0, 2, 2, 2, 2]
theorem kTree : rightT 5 kEs kKs = true := by
  rw [rightT, kEs, kKs]
  simp only [rightEs, rightKs, entB, dotB, ltE]
  decide
theorem kRight : CauRight kEs kKs kC := ⟨kTree, right_one (by decide) (by decide) (by decide) (by decide) (by decide), fun r hr => by
  have : dotsT kEs kKs = [(1, 1)] := rfl
  rw [this] at hr
  simp only [List.mem_singleton] at hr
  subst hr
  exact (inC_one 1 1 1 1 1).2 ⟨rfl, by decide, by decide⟩⟩
theorem kOk : CauOk kEs kKs kC := ⟨⟨⟨by decide, fun e he => by
    simp only [kEs, List.mem_singleton] at he
    subst he
    exact ⟨by decide, by decide, by decide, by decide⟩⟩, by decide, trivial⟩, by decide, fun s hs => by simp only [kC, List.mem_singleton] at hs; subst hs; dsimp only; omega, by decide⟩
theorem kBytes : encX kEs kKs kC = kB := by
  have n1 : numB 1 = [2] := by unfold numB; rw [show zz 1 = 2 from rfl, vl_small (by omega)]; rfl
  have n3 : numB 3 = [6] := by unfold numB; rw [show zz 3 = 6 from rfl, vl_small (by omega)]; rfl
  have n0 : numB 0 = [0] := by unfold numB; rw [show zz 0 = 0 from rfl, vl_small (by omega)]; rfl
  have e1 : numB (kEs.length : Int) = [2] := n1
  have e2 : numB (kKs.len : Int) = [0] := n0
  have e3 : numB (kC.length : Int) = [2] := n1
  have e4 : numB ((⟨#[97]⟩ : ByteArray).size : Int) = [2] := n1
  have e5 : encEs kEs = [2, 2, 2, 97, 6] := by
    simp only [encEs, kEs, encE, List.flatMap_cons, List.flatMap_nil, textB, n1, n3, e4]
    rfl
  have e6 : encSs kC = [2, 2, 2] := by
    simp only [encSs, kC, encS, List.flatMap_cons, List.flatMap_nil, n1]
    rfl
  unfold encX encT encC
  rw [e1, e2, e3, e5, e6]
  rfl
set_option maxRecDepth 1000000 in
theorem known16_any (w : World) : Calls Tryz.prog 47 #[] w fun e w' => ∃ ev kv cv, e = .returned (.agg #[ev, kv, cv]) ∧ CauAt (fun _ => True) w' ev kv cv kEs kKs kC ∧ Frm NoS w w' := by
  go_enter Tryz.func47, Tryz.ntmps47
  go_wp2
  generalize hW : ((w.alloc (.cells #[.slice (some ⟨w.heap.size + 1, 0, none⟩) 1 1, .slice none 0 0, .slice (some ⟨w.heap.size + 1 + 1, 0, none⟩) 1 1] 37)).alloc (.cells #[.int .i64 1, .int .i64 1, .string ⟨#[97]⟩, .int .i64 3] 137)).alloc (.cells #[.int .i64 1, .int .i64 1, .int .i64 1] 122) = W
  obtain ⟨g0, g1, g2, gf⟩ := three_rows w _ _ _ _ _ _ W hW.symm
  have y0 := cell_at' g0 0 rfl
  have y1 := cell_at' g0 1 rfl
  have y2 := cell_at' g0 2 rfl
  exact bodyPost_ret (v := .agg #[.slice (some ⟨w.heap.size + 1, 0, none⟩) 1 1, .slice none 0 0, .slice (some ⟨w.heap.size + 1 + 1, 0, none⟩) 1 1]) (by simp [results, Tryz.results47, go_sem, y0, y1, y2]) rfl
    ⟨_, _, _, rfl, ⟨⟨⟨row_at g1 (by decide), fun _ _ _ => trivial⟩, [], ⟨.inl ⟨none, rfl, rfl, rfl⟩, fun h => absurd rfl h⟩, rfl⟩, row_at g2 (by decide)⟩, gf⟩
end Go.Proofs.YtggfoihfenlckaaGreat
/- pack: Read: the walk. -/
namespace Go.Proofs.YtggfoihfenlckaaGreat
open Go.RowKit
/-- What Read answers. -/
structure ReadPost (es : List Ent) (ks : KidsL) (c : CtxL) (s : Option (List UInt8)) (w : World) (e : Ending) (w' : World) : Prop where
  yes : doneOf s = true → ∃ ev kv cv, e = .returned (.tuple #[.agg #[ev, kv, cv], .int .i64 0]) ∧ TreeAt (fun b => w.heap.size ≤ b) w' ev kv es ks ∧ CtxQ (fun b => w.heap.size ≤ b) w' cv c
  no : doneOf s = false → e = .returned (.tuple #[.agg #[.slice none 0 0, .slice none 0 0, .slice none 0 0], .int .i64 2])
  frm : Frm NoS w w'
/-- A box laid behind w2 and filled; another block stands. -/
theorem boxed (w2 : World) (b0 : Nat) (cs : Array Value) (T T0 : TypeId) (hb : w2.heap[b0]? = some (.cells cs T0 (0, 0))) (x0 x1 x2 : Value) (W : World) (hW : W = w2.alloc (.cells #[x0, x1, x2] T)) :
    W.heap[w2.heap.size]? = some (.cells #[x0, x1, x2] T (0, 0)) ∧ W.heap[b0]? = some (.cells cs T0 (0, 0)) ∧ Frm NoS w2 W := by
  subst hW
  have f1 : Frm NoS w2 (w2.alloc (.cells #[x0, x1, x2] T)) := Frm.alloc _ _ _
  exact ⟨heap_alloc_new w2 _, f1.blk hb id, f1⟩
set_option maxHeartbeats 2000000 in
set_option maxRecDepth 1000000 in
theorem pRead_any (v : Value) (bs : List UInt8) (es : List Ent) (ks : KidsL) (c : CtxL) (s : Option (List UInt8)) (w : World) (h : Rd w v bs.length (bV bs)) (hc : CauRes (some bs) es ks c s) (hl : bs.length ≤ 6000) :
    Calls Tryz.prog 48 #[v] w (ReadPost es ks c s w) := by
  have HN := Lib.hid (fun W (f : Frm NoS w W) => newin v bs W (h.keep0 f) (by omega))
  have HG := Lib.hid (fun ib W (hi : InSt W ib (some bs)) => pGetCausal_at ib (some bs) s es ks c W hc hi hl)
  have HB0 := Lib.hid (heap_alloc_new w (.cells #[.slice none 0 0, .slice none 0 0, .slice none 0 0] 37))
  have HS0 := Lib.hid (show (w.alloc (.cells #[.slice none 0 0, .slice none 0 0, .slice none 0 0] 37)).heap.size = w.heap.size + 1 by simp)
  clear h hc hl
  cases hd : doneOf s with
  | true =>
    go_enter Tryz.func48, Tryz.ntmps48
    go_wp2_with (first
      | (go_at_call 15; refine (HN.out _ (Frm.alloc _ _ _)).mono ?_; rintro e w1 ⟨ib, rfl, hi1, hib, hf1⟩
         have HB1 := Lib.hid (hf1.blk HB0.out id); have HI1 := Lib.hid hi1; clear hi1; have HIB := Lib.hid (show w.heap.size < ib by have := HS0.out; omega); clear hib; have HF1 := Lib.hid (show Frm NoS w w1 from (Frm.alloc NoS w _).then1 hf1); clear hf1)
      | (go_at_call 30; refine (HG.out _ _ HI1.out).mono ?_; rintro e w2 ⟨ev, kv, cv, rfl, hta, hrc, hi2, hf2⟩; obtain ⟨a3, c3, rfl⟩ := hta.ents.rd.sl; obtain ⟨os3, hkr3, -⟩ := hta.kids; obtain ⟨a4, c4, rfl⟩ := hkr3.rd.sl; obtain ⟨a5, c5, rfl⟩ := hrc.at_.sl; clear hkr3
         have HB2 := Lib.hid (hf2.blk HB1.out (fun h => by have h : w.heap.size = ib := h; have := HIB.out; omega))
         have HTA := Lib.hid hta; clear hta
         have HRC := Lib.hid hrc; clear hrc
         have HI2 := Lib.hid hi2; clear hi2
         have HF2 := Lib.hid (show Frm NoS w w2 from HF1.out.trans hf2 fun i hi hs => by have hs : i = ib := hs; have := HIB.out; omega)
         clear hf2
         generalize es.length = n at *
         generalize ks.len = m at *
         generalize c.length = k at *
         have HBX := Lib.hid (fun W hW => boxed w2 _ _ 37 _ HB2.out (.slice a3 n c3) (.slice a4 m c4) (.slice a5 k c5) W hW))
      | (go_at_call 19;
         obtain ⟨W3, hW3⟩ : ∃ W, W = w2.alloc (.cells #[.slice a3 n c3, .slice a4 m c4, .slice a5 k c5] 37) := ⟨_, rfl⟩
         rw [← hW3]
         obtain ⟨hx, hb, hf3⟩ := HBX.out W3 hW3
         clear hW3
         refine (done_go _ s W3 (HI2.out.keep hf3 fun _ _ => id)).mono ?_; rintro e w9 ⟨rfl, rfl⟩
         rw [hd]
         have z0 := cell_at' hx 0 rfl
         have z1 := cell_at' hx 1 rfl
         have z2 := cell_at' hx 2 rfl
         have y0 := cell_at' hb 0 rfl
         have y1 := cell_at' hb 1 rfl
         have y2 := cell_at' hb 2 rfl
         have f0 := free_at' hb 0
         have f1 := free_at' hb 1
         have f2 := free_at' hb 2
         have hl2 := lt_of_block hb
         have hl3 := lt_of_block hx
         have HB3 := Lib.hid hb
         have HF3 := Lib.hid hf3
         clear hf3 hx hb))
    clear y0 y1 y2 z0 z1 z2
    have y0 := cell_at' (set_at' (set_at' (set_at' HB3.out 0 (.slice a3 n c3)) 1 (.slice a4 m c4)) 2 (.slice a5 k c5)) 0 rfl
    have y1 := cell_at' (set_at' (set_at' (set_at' HB3.out 0 (.slice a3 n c3)) 1 (.slice a4 m c4)) 2 (.slice a5 k c5)) 1 rfl
    have y2 := cell_at' (set_at' (set_at' (set_at' HB3.out 0 (.slice a3 n c3)) 1 (.slice a4 m c4)) 2 (.slice a5 k c5)) 2 rfl
    have hts := three_set W3 w.heap.size (.slice a3 n c3) (.slice a4 m c4) (.slice a5 k c5)
    have hturn : ∀ b, b < w2.heap.size → w1.heap.size ≤ b → ((((W3.setCell ⟨w.heap.size, 0, none⟩ (.slice a3 n c3)).setCell ⟨w.heap.size, 1, none⟩ (.slice a4 m c4)).setCell ⟨w.heap.size, 2, none⟩ (.slice a5 k c5)).heap[b]? = w2.heap[b]? ∧ w.heap.size ≤ b) := fun b hb hQ => by
      have h0 := lt_of_block HB1.out
      refine ⟨?_, by omega⟩
      rw [hts.block b (Nat.lt_of_lt_of_le hb HF3.out.size) (fun hs => by have hs : b = w.heap.size := hs; omega), HF3.out.block b hb id]
    exact bodyPost_ret (v := .tuple #[.agg #[.slice a3 n c3, .slice a4 m c4, .slice a5 k c5], .int .i64 0]) (by simp [results, Tryz.results48, go_sem, y0, y1, y2]) rfl
      ⟨fun _ => ⟨_, _, _, rfl, HTA.out.turn hturn, RdQ.turn HRC.out hturn⟩, fun h => (by rw [hd] at h; cases h), (HF2.out.then1 HF3.out).trans hts fun i hi hs => by have hs : i = w.heap.size := hs; omega⟩
  | false =>
    go_enter Tryz.func48, Tryz.ntmps48
    go_wp2_with (first
      | (go_at_call 15; refine (HN.out _ (Frm.alloc _ _ _)).mono ?_; rintro e w1 ⟨ib, rfl, hi1, hib, hf1⟩
         have HB1 := Lib.hid (hf1.blk HB0.out id); have HI1 := Lib.hid hi1; clear hi1; have HIB := Lib.hid (show w.heap.size < ib by have := HS0.out; omega); clear hib; have HF1 := Lib.hid (show Frm NoS w w1 from (Frm.alloc NoS w _).then1 hf1); clear hf1)
      | (go_at_call 30; refine (HG.out _ _ HI1.out).mono ?_; rintro e w2 ⟨ev, kv, cv, rfl, hta, hrc, hi2, hf2⟩; obtain ⟨a3, c3, rfl⟩ := hta.ents.rd.sl; obtain ⟨os3, hkr3, -⟩ := hta.kids; obtain ⟨a4, c4, rfl⟩ := hkr3.rd.sl; obtain ⟨a5, c5, rfl⟩ := hrc.at_.sl; clear hkr3
         have HB2 := Lib.hid (hf2.blk HB1.out (fun h => by have h : w.heap.size = ib := h; have := HIB.out; omega))
         clear hta hrc
         have HI2 := Lib.hid hi2; clear hi2
         have HF2 := Lib.hid (show Frm NoS w w2 from HF1.out.trans hf2 fun i hi hs => by have hs : i = ib := hs; have := HIB.out; omega)
         clear hf2
         generalize es.length = n at *
         generalize ks.len = m at *
         generalize c.length = k at *
         have HBX := Lib.hid (fun W hW => boxed w2 _ _ 37 _ HB2.out (.slice a3 n c3) (.slice a4 m c4) (.slice a5 k c5) W hW))
      | (go_at_call 19;
         obtain ⟨W3, hW3⟩ : ∃ W, W = w2.alloc (.cells #[.slice a3 n c3, .slice a4 m c4, .slice a5 k c5] 37) := ⟨_, rfl⟩
         rw [← hW3]
         obtain ⟨hx, hb, hf3⟩ := HBX.out W3 hW3
         clear hW3
         refine (done_go _ s W3 (HI2.out.keep hf3 fun _ _ => id)).mono ?_; rintro e w9 ⟨rfl, rfl⟩
         rw [hd]
         have y0 := cell_at' hb 0 rfl
         have y1 := cell_at' hb 1 rfl
         have y2 := cell_at' hb 2 rfl
         have f0 := free_at' hb 0
         have f1 := free_at' hb 1
         have f2 := free_at' hb 2
         have hl2 := lt_of_block hb
         have HB3 := Lib.hid hb
         have HF3 := Lib.hid hf3
         clear hf3 hx hb))
    clear y0 y1 y2
    have y0 := cell_at' (set_at' (set_at' (set_at' HB3.out 0 (.slice none 0 0)) 1 (.slice none 0 0)) 2 (.slice none 0 0)) 0 rfl
    have y1 := cell_at' (set_at' (set_at' (set_at' HB3.out 0 (.slice none 0 0)) 1 (.slice none 0 0)) 2 (.slice none 0 0)) 1 rfl
    have y2 := cell_at' (set_at' (set_at' (set_at' HB3.out 0 (.slice none 0 0)) 1 (.slice none 0 0)) 2 (.slice none 0 0)) 2 rfl
    have hts := three_set W3 w.heap.size (.slice none 0 0) (.slice none 0 0) (.slice none 0 0)
    exact bodyPost_ret (v := .tuple #[.agg #[.slice none 0 0, .slice none 0 0, .slice none 0 0], .int .i64 2]) (by simp [results, Tryz.results48, go_sem, y0, y1, y2]) rfl
      ⟨fun h => (by rw [hd] at h; cases h), fun _ => rfl, (HF2.out.then1 HF3.out).trans hts fun i hi hs => by have hs : i = w.heap.size := hs; omega⟩
end Go.Proofs.YtggfoihfenlckaaGreat
/- What is put into an Out, one thing behind the other: the calculus. -/
namespace Go.Proofs.YtggfoihfenlckaaGreat
open Go.RowKit
/-- So much is put since w: cs behind bs. -/
def Put1 (w : World) (ob : Nat) (v : Value) (bs cs : List UInt8) (ww : World) : Prop :=
  ∃ v', OutAt ww ob v' (bs ++ cs) ∧ Fresh w v v' ∧ Frm (OutS ob v) w ww
variable {w ww w' : World} {ob : Nat} {v : Value} {bs cs ds : List UInt8}
theorem Put1.start (h : OutAt w ob v bs) : Put1 w ob v bs [] w := ⟨v, by rwa [List.append_nil], Fresh.refl _ _, Frm.refl _ _⟩
theorem OutAt.keep0 (h : OutAt w ob v bs) (f : Frm NoS w w') : OutAt w' ob v bs := h.keep f id fun _ _ => id
theorem Put1.keep0 (h : Put1 w ob v bs cs ww) (f : Frm NoS ww w') : Put1 w ob v bs cs w' := by
  obtain ⟨v', h1, h2, h3⟩ := h
  exact ⟨v', h1.keep0 f, h2, h3.then1 f⟩
theorem Put1.base (h : Put1 ww ob v bs cs w') (f : Frm NoS w ww) : Put1 w ob v bs cs w' := by
  obtain ⟨v', h1, h2, h3⟩ := h
  exact ⟨v', h1, Fresh.trans (Fresh.refl w v) f.size h2, (f.mono (T := OutS ob v) fun _ _ h => h.elim).trans h3 fun _ _ h => h⟩
theorem Put1.cast {cs' : List UInt8} (h : Put1 w ob v bs cs w') (e : cs = cs') : Put1 w ob v bs cs' w' := e ▸ h
theorem Put1.trans {v' : Value} (h2 : Fresh w v v') (h3 : Frm (OutS ob v) w ww) (k : Put1 ww ob v' (bs ++ cs) ds w') : Put1 w ob v bs (cs ++ ds) w' := by
  obtain ⟨v2, k1, k2, k3⟩ := k
  exact ⟨v2, by rw [← List.append_assoc]; exact k1, h2.trans h3.size k2, h3.trans k3 (outS_fresh h2)⟩
theorem Put1.call {f : FuncId} {args : Array Value} {E : Ending} (h : Put1 w ob v bs cs ww)
    (k : ∀ v', OutAt ww ob v' (bs ++ cs) → (∀ b, b < w.heap.size → OutS ob v' b → OutS ob v b) → Frm (OutS ob v) w ww → Calls Tryz.prog f args ww fun e w' => e = E ∧ Put1 ww ob v' (bs ++ cs) ds w') :
    Calls Tryz.prog f args ww fun e w' => e = E ∧ Put1 w ob v bs (cs ++ ds) w' := by
  obtain ⟨v', h1, h2, h3⟩ := h
  exact (k v' h1 (outS_fresh h2) h3).mono fun e w' ⟨he, hp⟩ => ⟨he, Put1.trans h2 h3 hp⟩
theorem outS_lt (h : OutAt w ob v bs) : ∀ b, OutS ob v b → b < w.heap.size := fun b hb => by
  rcases hb with hb | hb
  · rw [hb]; exact lt_of_block h.cell
  · exact own_lt h.own b hb
/-- A box that was made ahead of it stands. -/
theorem Put1.cell {ww' : World} {p : Addr} {u : Value} (h : Put1 ww ob v bs cs ww') (hu : ww.cell? p = some u) (hn : ¬ OutS ob v p.block) : ww'.cell? p = some u := by
  obtain ⟨_, _, _, f⟩ := h
  exact f.cell' hu hn
theorem putNum (h : Put1 w ob v bs cs ww) (x : Int) (hx : inR x) (hl : bs.length + cs.length ≤ 95000000) :
    Calls Tryz.prog 95 #[.pointer (some ⟨ob, 0, none⟩), .int .i64 x] ww fun e w' => e = .returned (.tuple #[]) ∧ Put1 w ob v bs (cs ++ numB x) w' :=
  h.call fun v' ho _ _ => num_go ob x ww v' _ ho hx.1 hx.2 (by rw [List.length_append]; omega)
theorem putText (h : Put1 w ob v bs cs ww) (s : ByteArray) (hl : bs.length + cs.length + s.size ≤ 95000000) :
    Calls Tryz.prog 116 #[.pointer (some ⟨ob, 0, none⟩), .string s] ww fun e w' => e = .returned (.tuple #[]) ∧ Put1 w ob v bs (cs ++ textB s) w' :=
  h.call fun v' ho _ _ => text_go ob s ww v' _ ho (by rw [List.length_append]; omega)
theorem RdQ.put {Q : Nat → Prop} {u : Value} {n : Nat} {xs : List Value} (h : RdQ Q w u n xs) (hq : ∀ b, OutS ob v b → ¬ Q b) (hp : Put1 w ob v bs cs ww) : Rd ww u n xs := by
  obtain ⟨_, _, _, f⟩ := hp
  exact (h.keep f fun b _ hs => hq b hs).rd
end Go.Proofs.YtggfoihfenlckaaGreat
/- pack: PutCtx, putDot, put: the walks. -/
namespace Go.Proofs.YtggfoihfenlckaaGreat
open Go.RowKit
theorem encSs_le {c : CtxL} (hf : FitsC c) : ∀ k, (encSs (c.take k)).length ≤ 30 * k := fun k => by
  have h : (encSs (c.take k)).length ≤ 30 * (c.take k).length := flat_le fun s hs => by
    have hb := hf s (List.mem_of_mem_take hs)
    have h1 := numB_le10 (v := s.1) (by omega) (by omega)
    have h2 := numB_le10 (v := s.2.1) (by omega) (by omega)
    have h3 := numB_le10 (v := s.2.2) (by omega) (by omega)
    unfold encS
    simp only [List.length_append]
    omega
  have := List.length_take_le k c
  exact Nat.le_trans h (Nat.mul_le_mul_left _ this)
theorem encSs_snoc {c : CtxL} {k : Nat} (h : k < c.length) : encSs (c.take (k + 1)) = encSs (c.take k) ++ encS (c.getD k (0, 0, 0)) := by
  rw [take_succ (0, 0, 0) h]
  unfold encSs
  rw [List.flatMap_append]
  simp
noncomputable def ctxB (c : CtxL) : List UInt8 := if tf (RightC c) then encC c else encC []
theorem encC_nil : encC [] = numB 0 := by unfold encC encSs; simp
set_option maxHeartbeats 2000000 in
set_option maxRecDepth 1000000 in
theorem pPutCtx_any (Q : Nat → Prop) (ob : Nat) (w : World) (v : Value) (bs : List UInt8) (cv : Value) (c : CtxL) (ho : OutAt w ob v bs) (hc : RdQ Q w cv c.length (spC c)) (hq : ∀ b, OutS ob v b → ¬ Q b) (hf : FitsC c) (hl : c.length ≤ 100000) (hb : bs.length ≤ 80000000) :
    Calls Tryz.prog 51 #[.pointer (some ⟨ob, 0, none⟩), cv] w fun e w' => e = .returned (.tuple #[]) ∧ Put1 w ob v bs (ctxB c) w' := by
  have HRT := Lib.hid (cRight_any w cv c hc.rd hf hl)
  have HQ := Lib.hid hq; clear hq
  have HC := Lib.hid hc; clear hc
  have HF := Lib.hid hf; clear hf
  have HO := Lib.hid ho; clear ho
  obtain ⟨aA, cA, rfl⟩ := HC.out.rd.sl
  unfold ctxB
  by_cases hr : RightC c
  · rw [tf_true hr] at HRT ⊢
    clear hr
    have HE := Lib.hid (encSs_le HF.out)
    have HFIN := Lib.hid (show numB c.length ++ encSs (c.take c.length) = encC c by unfold encC; rw [List.take_length])
    generalize hn : c.length = n at *
    have HN := Lib.hid hn; clear hn
    rw [if_pos rfl]
    go_enter Tryz.func51, Tryz.ntmps51
    go_wp2_with (first
      | (go_at_call 78; refine HRT.out.mono ?_; rintro e w1 ⟨rfl, hw1⟩; have HP0 := Lib.hid ((Put1.start HO.out).keep0 hw1); clear hw1)
      | (go_at_call 95; refine (putNum HP0.out n ⟨by omega, by omega⟩ (by simp only [List.length_nil]; omega)).mono ?_; rintro e w2 ⟨rfl, hp⟩; have HP := Lib.hid hp; clear hp))
    go_loopw [15] (fun i ww => ∃ k : Nat, k ≤ n ∧ i = .int .i64 k ∧ Put1 w ob v bs (numB n ++ encSs (c.take k)) ww) (fun i _ => n - (intOf i).toNat)
    case atStart => exact ⟨0, Nat.zero_le _, rfl, HP.out.cast (by simp [encSs])⟩
    case round =>
      obtain ⟨k, hk, rfl, hp⟩ := hrel
      have HP1 := Lib.hid hp; clear hp
      by_cases hlt : k < n
      · have hlk : k < c.length := by rw [HN.out]; exact hlt
        have hrd := HC.out.put HQ.out HP1.out
        rcases Rd.shape hrd with ⟨ad, he, h0⟩ | ⟨b, off, cc, he, hmax⟩
        · exfalso; omega
        · injection he with e1 e2 e3
          subst e1 e3
          clear e2
          obtain ⟨q0, q1, q2⟩ := spn_at (c := cA) (l := c) (by unfold CtxAt; rw [HN.out]; exact hrd) HN.out.symm k hlk
          clear hrd
          have hbf := HF.out _ (getD_mem (0, 0, 0) hlk)
          have HST := Lib.hid (encSs_snoc hlk)
          obtain ⟨s, hgd⟩ : ∃ s, s = c.getD k (0, 0, 0) := ⟨_, rfl⟩
          rw [← hgd] at HST q0 q1 q2 hbf
          clear hgd
          have HEk := Lib.hid (HE.out k)
          have hn10 : (numB n).length ≤ 10 := numN_le (by omega)
          have HN10 := Lib.hid hn10; clear hn10
          have HBF := Lib.hid hbf; clear hbf
          obtain ⟨v', ho', hfr, hfm⟩ := HP1.out
          have HO1 := Lib.hid ho'; clear ho'
          have HFR := Lib.hid hfr; clear hfr
          have HFM := Lib.hid hfm; clear hfm
          have hno : ¬ OutS ob v' wr.heap.size := fun h => by have := outS_lt HO1.out _ h; omega
          have HNO := Lib.hid hno; clear hno
          have HB := Lib.hid (Put1.start (HO1.out.keep0 (Frm.alloc NoS wr (.cells #[.int .i64 s.1, .int .i64 s.2.1, .int .i64 s.2.2] 122))))
          have hbl : (bs ++ (numB n ++ encSs (c.take k))).length ≤ 83000010 := by
            have := HEk.out
            have := HN10.out
            simp only [List.length_append]; omega
          have HBL := Lib.hid hbl; clear hbl
          have h1 := numB_le10 (v := s.1) (by have := HBF.out; omega) (by have := HBF.out; omega)
          have h2 := numB_le10 (v := s.2.1) (by have := HBF.out; omega) (by have := HBF.out; omega)
          have H1 := Lib.hid h1; clear h1
          have H2 := Lib.hid h2; clear h2
          go_wp2_with (first
            | (go_at_call 95; refine (putNum HP4.out s.2.2 HBF.out.2.2.2.2 (by have h0 := HBL.out; have h1 := H1.out; have h2 := H2.out; simp only [List.nil_append, List.length_append] at h0 h1 h2 ⊢; omega)).mono ?_; rintro e w5 ⟨rfl, hp5⟩; have HP5 := Lib.hid hp5; clear hp5 z2)
            | (go_at_call 95; refine (putNum HP3.out s.2.1 ⟨HBF.out.2.2.1, HBF.out.2.2.2.1⟩ (by have := HBL.out; have := H1.out; simp only [List.nil_append]; omega)).mono ?_; rintro e w4 ⟨rfl, hp4⟩; have z2 : w4.cell? ⟨wr.heap.size, 2, none⟩ = some (.int .i64 s.2.2) := hp4.cell (cell_at' (heap_alloc_new wr _) 2 rfl) HNO.out; have HP4 := Lib.hid hp4; clear hp4 y1 y2 HP3)
            | (go_at_call 95; refine (putNum HB.out s.1 ⟨HBF.out.1, HBF.out.2.1⟩ (by have := HBL.out; simp only [List.length_nil]; omega)).mono ?_; rintro e w3 ⟨rfl, hp3⟩; have y1 : w3.cell? ⟨wr.heap.size, 1, none⟩ = some (.int .i64 s.2.1) := hp3.cell (cell_at' (heap_alloc_new wr _) 1 rfl) HNO.out; have y2 : w3.cell? ⟨wr.heap.size, 2, none⟩ = some (.int .i64 s.2.2) := hp3.cell (cell_at' (heap_alloc_new wr _) 2 rfl) HNO.out; have HP3 := Lib.hid hp3; clear hp3 HB))
          go_roundw
          case rel => exact ⟨k + 1, by omega, by go_num, (Put1.trans HFR.out HFM.out (HP5.out.base (Frm.alloc _ _ _))).cast (by rw [HST.out]; unfold encS; simp only [List.append_assoc, List.nil_append])⟩
          case measure => simp [intOf]; omega
      · obtain rfl : n = k := by omega
        go_wp2
        go_end0
        exact ⟨rfl, HP1.out.cast HFIN.out⟩
  · rw [tf_false hr] at HRT ⊢
    clear hr
    rw [if_neg (by decide), encC_nil]
    go_enter Tryz.func51, Tryz.ntmps51
    go_wp2_with (first
      | (go_at_call 78; refine HRT.out.mono ?_; rintro e w1 ⟨rfl, hw1⟩; have HP0 := Lib.hid ((Put1.start HO.out).keep0 hw1); clear hw1)
      | (go_at_call 95; refine (putNum HP0.out 0 ⟨by omega, by omega⟩ (by simp only [List.length_nil]; omega)).mono ?_; rintro e w2 ⟨rfl, hp⟩; have HP := Lib.hid hp; clear hp))
    go_loopw [15] (fun i ww => i = .int .i64 0 ∧ Put1 w ob v bs (numB 0) ww) (fun i _ => 0)
    case atStart => exact ⟨rfl, HP.out⟩
    case round =>
      obtain ⟨rfl, hp⟩ := hrel
      have HP1 := Lib.hid hp; clear hp
      go_wp2
      go_end0
      exact ⟨rfl, HP1.out⟩
end Go.Proofs.YtggfoihfenlckaaGreat
/- pack: putDot, put: the walks. -/
namespace Go.Proofs.YtggfoihfenlckaaGreat
open Go.RowKit
set_option maxHeartbeats 1000000 in
set_option maxRecDepth 1000000 in
theorem pputDot_go (ob : Nat) (w : World) (v : Value) (bs : List UInt8) (d n : Int) (ho : OutAt w ob v bs) (hd : inR d) (hn : inR n) (hl : bs.length ≤ 94000000) :
    Calls Tryz.prog 154 #[.pointer (some ⟨ob, 0, none⟩), .agg #[.int .i64 d, .int .i64 n]] w fun e w' => e = .returned (.tuple #[]) ∧ Put1 w ob v bs (numB d ++ numB n) w' := by
  have HO := Lib.hid ho; clear ho
  have HNO := Lib.hid (show ¬ OutS ob v w.heap.size from fun h => by have := outS_lt HO.out _ h; omega)
  have HB := Lib.hid (Put1.start (HO.out.keep0 (Frm.alloc NoS w (.cells #[.int .i64 d, .int .i64 n] 135))))
  have H1 := Lib.hid (numB_le10 hd.1 hd.2)
  have HD := Lib.hid hd; clear hd
  have HN := Lib.hid hn; clear hn
  go_enter Tryz.func154, Tryz.ntmps154
  go_wp2_with (first
    | (go_at_call 95; refine (putNum HP3.out n HN.out (by have := H1.out; simp only [List.nil_append]; omega)).mono ?_; rintro e w4 ⟨rfl, hp4⟩; have HP4 := Lib.hid hp4; clear hp4 y1)
    | (go_at_call 95; refine (putNum HB.out d HD.out (by simp only [List.length_nil]; omega)).mono ?_; rintro e w3 ⟨rfl, hp3⟩; have y1 : w3.cell? ⟨w.heap.size, 1, none⟩ = some (.int .i64 n) := hp3.cell (cell_at' (heap_alloc_new w _) 1 rfl) HNO.out; have HP3 := Lib.hid hp3; clear hp3 HB))
  go_end0
  exact ⟨rfl, (HP4.out.base (Frm.alloc _ _ _)).cast (by rw [List.nil_append])⟩
/- ### how far the bytes of a tree are -/
def KidsL.encTake : Nat → KidsL → List UInt8
  | 0, _ => []
  | _ + 1, .nil => []
  | n + 1, .cons key es sub rest => textB key ++ (encT es sub ++ rest.encTake n)
theorem encTake_succ : ∀ (n : Nat) (ks : KidsL) {key : ByteArray} {es : List Ent} {sub rest : KidsL}, ks.drop n = .cons key es sub rest → ks.encTake (n + 1) = ks.encTake n ++ (textB key ++ encT es sub)
  | 0, .cons _ _ _ _, _, _, _, _, h => by cases h; simp [KidsL.encTake]
  | 0, .nil, _, _, _, _, h => by cases h
  | n + 1, .nil, _, _, _, _, h => by cases h
  | n + 1, .cons _ _ _ r, _, _, _, _, h => by
    show textB _ ++ (encT _ _ ++ r.encTake (n + 1)) = (textB _ ++ (encT _ _ ++ r.encTake n)) ++ _
    rw [encTake_succ n r h]
    simp only [List.append_assoc]
theorem encTake_split : ∀ (n : Nat) (ks : KidsL), encK ks = ks.encTake n ++ encK (ks.drop n)
  | 0, _ => rfl
  | _ + 1, .nil => rfl
  | n + 1, .cons key es sub rest => by
    rw [encK_cons]
    show _ = (textB _ ++ (encT _ _ ++ rest.encTake n)) ++ encK (rest.drop n)
    rw [encTake_split n rest]
    simp only [List.append_assoc]
theorem encTake_all (ks : KidsL) : ks.encTake ks.len = encK ks := by
  have h := encTake_split ks.len ks
  rw [KidsL.drop_none (Nat.le_refl _)] at h
  rw [h]; simp [encK]
theorem encEs_snoc {es : List Ent} {k : Nat} (h : k < es.length) : encEs (es.take (k + 1)) = encEs (es.take k) ++ encE (es.getD k Ent.zero) := by
  rw [take_succ Ent.zero h]
  unfold encEs
  rw [List.flatMap_append]
  simp
theorem encEs_split (es : List Ent) (k : Nat) : encEs es = encEs (es.take k) ++ encEs (es.drop k) := by
  have h : encEs (es.take k ++ es.drop k) = encEs (es.take k) ++ encEs (es.drop k) := by unfold encEs; rw [List.flatMap_append]
  rwa [List.take_append_drop] at h
theorem encT_upE {es : List Ent} (ks : KidsL) {k : Nat} (h : k < es.length) : (numB es.length ++ encEs (es.take k)).length + (encE (es.getD k Ent.zero)).length ≤ (encT es ks).length := by
  have h1 := encEs_split es (k + 1)
  rw [encEs_snoc h] at h1
  unfold encT
  rw [h1]
  simp only [List.length_append]
  omega
theorem encT_upK (es : List Ent) {ks : KidsL} {k : Nat} {key : ByteArray} {es' : List Ent} {sub rest : KidsL} (h : ks.drop k = .cons key es' sub rest) :
    (numB es.length ++ (encEs es ++ (numB ks.len ++ ks.encTake k))).length + (textB key ++ encT es' sub).length ≤ (encT es ks).length := by
  have h1 := encTake_split k ks
  rw [h, encK_cons] at h1
  unfold encT
  rw [h1]
  unfold encT
  simp only [List.length_append]
  omega
theorem encT_upM (es : List Ent) (ks : KidsL) : (numB es.length ++ encEs es).length + (numB ks.len).length ≤ (encT es ks).length := by
  unfold encT
  simp only [List.length_append]
  omega
theorem encT_up0 (es : List Ent) (ks : KidsL) : (numB es.length).length ≤ (encT es ks).length := by
  unfold encT
  simp only [List.length_append]
  omega
theorem KidsL.Ok.at_ {k : Nat} {ks : KidsL} {key : ByteArray} {es : List Ent} {sub rest : KidsL} (h : ks.Ok) (hd : ks.drop k = .cons key es sub rest) : key.size ≤ 9223372036854775807 ∧ TrOk es sub := by
  have := h.drop k
  rw [hd] at this
  exact ⟨this.1, this.2.1, this.2.2.1, this.2.2.2.1⟩
theorem textB_size (s : ByteArray) : s.size ≤ (textB s).length := by
  have h : s.data.toList.length = s.size := Array.length_toList
  unfold textB
  rw [List.length_append]; omega
set_option maxHeartbeats 4000000 in
set_option maxRecDepth 1000000 in
theorem pput_go : ∀ (N : Nat) (Q : Nat → Prop) (es : List Ent) (ks : KidsL) (w : World) (ob : Nat) (v : Value) (bs : List UInt8) (ev kv : Value), sizeK ks < N → OutAt w ob v bs → TreeAt Q w ev kv es ks → (∀ b, OutS ob v b → ¬ Q b) → TrOk es ks → bs.length + (encT es ks).length ≤ 90000000 →
    Calls Tryz.prog 112 #[.pointer (some ⟨ob, 0, none⟩), .agg #[ev, kv]] w fun e w' => e = .returned (.tuple #[]) ∧ Put1 w ob v bs (encT es ks) w' := by
  intro N
  induction N with
  | zero => intros; exfalso; omega
  | succ N IHN =>
    intro Q es ks w ob v bs ev kv hN ho ht hq hok hl
    have IH := Lib.hid IHN; clear IHN
    have ht : TreeAt (fun b => Q b ∧ b < w.heap.size) w ev kv es ks := ht.turn fun b hb hQ => ⟨rfl, hQ, hb⟩
    obtain ⟨ae, ce, rfl⟩ := ht.ents.rd.sl
    obtain ⟨os, hkr, hfor⟩ := ht.kids
    obtain ⟨ak, ck, rfl⟩ := hkr.rd.sl
    have hwb : Frm NoS w (w.alloc (.cells #[.slice ae es.length ce, .slice ak ks.len ck] 35)) := Frm.alloc _ _ _
    have HQ := Lib.hid (show ∀ b, OutS ob v b → ¬ (Q b ∧ b < w.heap.size) from fun b hb hQ => hq b hb hQ.1); clear hq
    have HE := Lib.hid (ht.ents.keep hwb fun _ _ s => s.elim)
    have HKR := Lib.hid (hkr.keep hwb fun _ _ s => s.elim); clear hkr
    have HFOR := Lib.hid (hfor.keep hwb fun _ _ s => s.elim); clear hfor ht
    have HO := Lib.hid ho; clear ho
    have HNO := Lib.hid (show ¬ OutS ob v w.heap.size from fun h => by have := outS_lt HO.out _ h; omega)
    have HOK := Lib.hid hok; clear hok
    have HNN := Lib.hid hN; clear hN
    have HL := Lib.hid hl; clear hl
    have hnb : es.length ≤ 140737488351232 := HOK.out.es.len
    have hmb : ks.len ≤ 140737488351232 := HOK.out.len
    have HUE := Lib.hid (fun (k : Nat) (h : k < es.length) => encT_upE ks h)
    have HU0 := Lib.hid (encT_up0 es ks)
    have HUM := Lib.hid (encT_upM es ks)
    have HUK := Lib.hid (fun (k : Nat) (key : ByteArray) (es' : List Ent) (sub rest : KidsL) (h : ks.drop k = .cons key es' sub rest) => encT_upK es h)
    have HFIN := Lib.hid (show numB es.length ++ (encEs es ++ (numB ks.len ++ ks.encTake ks.len)) = encT es ks by rw [encTake_all]; rfl)
    have HTA := Lib.hid (show encEs (es.take es.length) = encEs es by rw [List.take_length])
    generalize hes : es.length = n at *
    have HN := Lib.hid hes; clear hes
    generalize hkl : ks.len = m at *
    have HM := Lib.hid hkl; clear hkl
    obtain ⟨WB, hWB⟩ : ∃ WB, WB = w.alloc (.cells #[.slice ae n ce, .slice ak m ck] 35) := ⟨_, rfl⟩
    have hb0 : WB.heap[w.heap.size]? = some (.cells #[.slice ae n ce, .slice ak m ck] 35 (0, 0)) := by rw [hWB]; exact heap_alloc_new w _
    have HB0 := Lib.hid hb0; clear hb0
    rw [← hWB] at hwb HE HKR HFOR
    have HWB := Lib.hid hwb; clear hwb
    have HBW := Lib.hid hWB; clear hWB
    have HB := Lib.hid (Put1.start (HO.out.keep0 HWB.out))
    go_enter Tryz.func112, Tryz.ntmps112
    go_wp2_with (go_at_call 95; rw [← HBW.out]; refine (putNum HB.out n ⟨by omega, by omega⟩ (by have := HL.out; simp only [List.length_nil]; omega)).mono ?_; rintro e w1 ⟨rfl, hp⟩; have HP := Lib.hid (hp.cast (List.nil_append _)); clear hp; have y0 : w1.cell? ⟨w.heap.size, 0, none⟩ = some (.slice ae n ce) := HP.out.cell (cell_at' HB0.out 0 rfl) HNO.out)
    go_loopw [16] (fun i ww => ∃ k : Nat, k ≤ n ∧ i = .int .i64 k ∧ Put1 WB ob v bs (numB n ++ encEs (es.take k)) ww) (fun i _ => n - (intOf i).toNat)
    case atStart => exact ⟨0, Nat.zero_le _, rfl, HP.out.cast (by simp [encEs])⟩
    case round =>
      clear HP y0
      obtain ⟨k, hk, rfl, hp⟩ := hrel
      have HP1 := Lib.hid hp; clear hp
      by_cases hlt : k < n
      · have hlk : k < es.length := by rw [HN.out]; exact hlt
        have hrd := HE.out.put HQ.out HP1.out
        rcases Rd.shape hrd with ⟨ad, he, h0⟩ | ⟨b, off, cc, he, hmax⟩
        · exfalso; omega
        · injection he with e1 e2 e3
          subst e1 e3
          clear e2
          obtain ⟨q0, q1, q2, q3⟩ := ent_at (es := es) hrd k hlk
          clear hrd
          have hft := HOK.out.es.fits _ (getD_mem Ent.zero hlk)
          have HST := Lib.hid (encEs_snoc hlk)
          have HUk := Lib.hid (HUE.out k hlt)
          obtain ⟨s, hgd⟩ : ∃ s, s = es.getD k Ent.zero := ⟨_, rfl⟩
          rw [← hgd] at HST q0 q1 q2 q3 hft HUk
          clear hgd
          have HFT := Lib.hid hft; clear hft
          obtain ⟨v', ho', hfr, hfm⟩ := HP1.out
          have HO1 := Lib.hid ho'; clear ho'
          have HFR := Lib.hid hfr; clear hfr
          have HFM := Lib.hid hfm; clear hfm
          have HN1 := Lib.hid (show ¬ OutS ob v' wr.heap.size from fun h => by have := outS_lt HO1.out _ h; omega)
          have HB1 := Lib.hid (Put1.start (HO1.out.keep0 (Frm.alloc NoS wr (.cells #[.int .i64 s.dc, .int .i64 s.n, .string s.s, .int .i64 s.k] 137))))
          have hbl : (bs ++ (numB n ++ encEs (es.take k))).length + (numB s.dc ++ (numB s.n ++ (textB s.s ++ numB s.k))).length ≤ 90000000 := by
            have h1 := HUk.out
            have h2 := HL.out
            unfold encE at h1
            simp only [List.length_append] at h1 h2 ⊢; omega
          simp only [List.length_append] at hbl
          have HSZ := Lib.hid (textB_size s.s)
          have HBL := Lib.hid hbl; clear hbl
          go_wp2_with (first
            | (go_at_call 154; refine (HB1.out.call fun v' ho _ _ => pputDot_go ob _ v' _ s.dc s.n ho HFT.out.1 HFT.out.2.1 (by have := HBL.out; simp only [List.length_append, List.length_nil]; omega)).mono ?_; rintro e w3 ⟨rfl, hp3⟩; have y2 : w3.cell? ⟨wr.heap.size, 2, none⟩ = some (.string s.s) := hp3.cell (cell_at' (heap_alloc_new wr _) 2 rfl) HN1.out; have y3 : w3.cell? ⟨wr.heap.size, 3, none⟩ = some (.int .i64 s.k) := hp3.cell (cell_at' (heap_alloc_new wr _) 3 rfl) HN1.out; have HP3 := Lib.hid hp3; clear hp3)
            | (go_at_call 116; refine (putText HP3.out s.s (by have := HBL.out; have := HSZ.out; simp only [List.length_append, List.length_nil]; omega)).mono ?_; rintro e w4 ⟨rfl, hp4⟩; have z3 : w4.cell? ⟨wr.heap.size, 3, none⟩ = some (.int .i64 s.k) := hp4.cell (cell_at' (heap_alloc_new wr _) 3 rfl) HN1.out; have HP4 := Lib.hid hp4; clear hp4 y2 y3)
            | (go_at_call 95; refine (putNum HP4.out s.k HFT.out.2.2.1 (by have := HBL.out; simp only [List.length_append, List.length_nil]; omega)).mono ?_; rintro e w5 ⟨rfl, hp5⟩; have HP5 := Lib.hid hp5; clear hp5 z3))
          go_roundw
          case rel => exact ⟨k + 1, by omega, by go_num, (Put1.trans HFR.out HFM.out (HP5.out.base (Frm.alloc _ _ _))).cast (by rw [HST.out]; unfold encE; simp only [List.append_assoc, List.nil_append])⟩
          case measure => simp [intOf]; omega
      · obtain rfl : n = k := by omega
        rw [HTA.out] at HP1
        clear hlt hk HUE HE
        have y1 : wr.cell? ⟨w.heap.size, 1, none⟩ = some (.slice ak m ck) := HP1.out.cell (cell_at' HB0.out 1 rfl) HNO.out
        go_wp2_with (go_at_call 95; refine (putNum HP1.out m ⟨by omega, by omega⟩ (by have := HL.out; have := HUM.out; omega)).mono ?_; rintro e w1 ⟨rfl, hp⟩; have HP := Lib.hid (hp.cast (List.append_assoc _ _ _)); clear hp; have y1 : w1.cell? ⟨w.heap.size, 1, none⟩ = some (.slice ak m ck) := HP.out.cell (cell_at' HB0.out 1 rfl) HNO.out)
        go_loopw [41] (fun i ww => ∃ k : Nat, k ≤ m ∧ i = .int .i64 k ∧ Put1 WB ob v bs (numB n ++ (encEs es ++ (numB m ++ ks.encTake k))) ww) (fun i _ => m - (intOf i).toNat)
        case atStart => exact ⟨0, Nat.zero_le _, rfl, HP.out.cast (by simp [KidsL.encTake])⟩
        case round =>
          clear HP HP1
          obtain ⟨k, hk, rfl, hp⟩ := hrel
          have HP1 := Lib.hid hp; clear hp
          by_cases hlt : k < m
          · obtain ⟨key, es', sub, rest, hdr⟩ := KidsL.drop_some (n := k) (ks := ks) (by rw [HM.out]; exact hlt)
            have hrd := HKR.out.put HQ.out HP1.out
            rcases Rd.shape hrd with ⟨ad, he, h0⟩ | ⟨b, off, cc, he, hmax⟩
            · exfalso; omega
            · injection he with e1 e2 e3
              subst e1 e3
              clear e2
              obtain ⟨v', ho', hfr, hfm⟩ := HP1.out
              obtain ⟨ev', kv', q0, q1, q2, hta⟩ := kid_at hrd (HFOR.out.keep hfm fun b _ hs => HQ.out b hs) hdr
              clear hrd
              obtain ⟨ae', ce', rfl⟩ := hta.ents.rd.sl
              obtain ⟨os', hkr', hfor'⟩ := hta.kids
              obtain ⟨ak', ck', rfl⟩ := hkr'.rd.sl
              clear hkr' hfor'
              have HTAK := Lib.hid hta; clear hta
              have HSS := Lib.hid (size_sub k hdr)
              have HKO := Lib.hid (HOK.out.ks.at_ hdr)
              have HST := Lib.hid (encTake_succ k ks hdr)
              have HUk := Lib.hid (HUK.out _ _ _ _ _ hdr)
              have HO1 := Lib.hid ho'; clear ho'
              have hsz : w.heap.size ≤ wr.heap.size := Nat.le_trans HWB.out.size hfm.size
              have HOB := Lib.hid (show ∀ b, OutS ob v' b → ¬ (Q b ∧ b < w.heap.size) from fun b hb hQ => HQ.out b (outS_fresh hfr b (Nat.lt_of_lt_of_le hQ.2 HWB.out.size) hb) hQ)
              have HFR := Lib.hid hfr; clear hfr
              have HFM := Lib.hid hfm; clear hfm
              have HN1 := Lib.hid (show ¬ OutS ob v' wr.heap.size from fun h => by have := outS_lt HO1.out _ h; omega)
              have hbl : (bs ++ (numB n ++ (encEs es ++ (numB m ++ ks.encTake k)))).length + (textB key ++ encT es' sub).length ≤ 90000000 := by
                have h1 := HUk.out
                have h2 := HL.out
                rw [@List.length_append _ bs _]
                omega
              rw [@List.length_append _ (textB key) _] at hbl
              have HSZ := Lib.hid (textB_size key)
              have HBL := Lib.hid hbl; clear hbl
              have HIH := Lib.hid (fun W v3 bs3 (o : OutAt W ob v3 bs3) (t : TreeAt (fun b => Q b ∧ b < w.heap.size) W (.slice ae' es'.length ce') (.slice ak' sub.len ck') es' sub) (q : ∀ b, OutS ob v3 b → ¬ (Q b ∧ b < w.heap.size)) (l : bs3.length + (encT es' sub).length ≤ 90000000) => IH.out _ es' sub W ob v3 bs3 _ _ (by have := HSS.out; have := HNN.out; omega) o t q HKO.out.2 l)
              generalize es'.length = n' at *
              generalize sub.len = m' at *
              have HB1 := Lib.hid (Put1.start (HO1.out.keep0 (Frm.alloc NoS wr (.cells #[.string key, .slice ae' n' ce', .slice ak' m' ck'] 139))))
              have HTA2 := Lib.hid (HTAK.out.keep0 (Frm.alloc NoS wr (.cells #[.string key, .slice ae' n' ce', .slice ak' m' ck'] 139)))
              clear y1
              go_wp2_with (first
                | (go_at_call 116; refine (putText HB1.out key (by have := HBL.out; have := HSZ.out; simp only [List.length_nil]; omega)).mono ?_; rintro e w4 ⟨rfl, hp4⟩; have z1 : w4.cell? ⟨wr.heap.size, 1, none⟩ = some (.slice ae' n' ce') := hp4.cell (cell_at' (heap_alloc_new wr _) 1 rfl) HN1.out; have z2 : w4.cell? ⟨wr.heap.size, 2, none⟩ = some (.slice ak' m' ck') := hp4.cell (cell_at' (heap_alloc_new wr _) 2 rfl) HN1.out; have HP4 := Lib.hid hp4; clear hp4)
                | (go_at_call 112; refine (HP4.out.call fun v3 ho3 hb3 hf3 => HIH.out _ v3 _ ho3 (HTA2.out.keep hf3 fun b _ hs => HOB.out b hs) (fun b hb hQ => HOB.out b (hb3 b (by simp only [World.size_alloc]; omega) hb) hQ) (by have := HBL.out; rw [List.length_append, List.nil_append]; omega)).mono ?_; rintro e w5 ⟨rfl, hp5⟩; have HP5 := Lib.hid hp5; clear hp5 z1 z2))
              go_roundw
              case rel => exact ⟨k + 1, by omega, by go_num, (Put1.trans HFR.out HFM.out (HP5.out.base (Frm.alloc _ _ _))).cast (by rw [HST.out]; simp only [List.append_assoc, List.nil_append])⟩
              case measure => simp [intOf]; omega
          · obtain rfl : m = k := by omega
            go_wp2
            go_end0
            exact ⟨rfl, (HP1.out.cast HFIN.out).base HWB.out⟩
end Go.Proofs.YtggfoihfenlckaaGreat