/- Words for the law BundleGets: Make. -/
import Derived.Test.YtafdclkpeomomaaGreatBundleGetsG21
set_option linter.unusedSimpArgs false
set_option linter.unusedVariables false
/- bundle: Make, where all may be: the walk. Printed by wip/makegen.py. -/
namespace Go.Proofs.YtafdclkpeomomaaGreat
open Go.RowKit

theorem res10 {w0 w : World} {b : Nat} {T : TypeId} {u0 u1 u2 u3 u4 u5 u6 u7 u8 u9 : Value} (h : w.heap[b]? = some (.cells #[u0, u1, u2, u3, u4, u5, u6, u7, u8, u9] T (0, 0))) (f : Frm NoS w0 w) (hb : w0.heap.size ≤ b) (x0 x1 x2 x3 x4 x5 x6 x7 x8 x9 : Value) :
    ((((((((((w.setCell ⟨b, 0, none⟩ (x0)).setCell ⟨b, 1, none⟩ (x1)).setCell ⟨b, 2, none⟩ (x2)).setCell ⟨b, 3, none⟩ (x3)).setCell ⟨b, 4, none⟩ (x4)).setCell ⟨b, 5, none⟩ (x5)).setCell ⟨b, 6, none⟩ (x6)).setCell ⟨b, 7, none⟩ (x7)).setCell ⟨b, 8, none⟩ (x8)).setCell ⟨b, 9, none⟩ (x9)).heap[b]? = some (.cells #[x0, x1, x2, x3, x4, x5, x6, x7, x8, x9] T (0, 0)) ∧ Frm NoS w0 ((((((((((w.setCell ⟨b, 0, none⟩ (x0)).setCell ⟨b, 1, none⟩ (x1)).setCell ⟨b, 2, none⟩ (x2)).setCell ⟨b, 3, none⟩ (x3)).setCell ⟨b, 4, none⟩ (x4)).setCell ⟨b, 5, none⟩ (x5)).setCell ⟨b, 6, none⟩ (x6)).setCell ⟨b, 7, none⟩ (x7)).setCell ⟨b, 8, none⟩ (x8)).setCell ⟨b, 9, none⟩ (x9)) ∧ ∀ k, k ≠ b → ((((((((((w.setCell ⟨b, 0, none⟩ (x0)).setCell ⟨b, 1, none⟩ (x1)).setCell ⟨b, 2, none⟩ (x2)).setCell ⟨b, 3, none⟩ (x3)).setCell ⟨b, 4, none⟩ (x4)).setCell ⟨b, 5, none⟩ (x5)).setCell ⟨b, 6, none⟩ (x6)).setCell ⟨b, 7, none⟩ (x7)).setCell ⟨b, 8, none⟩ (x8)).setCell ⟨b, 9, none⟩ (x9)).heap[k]? = w.heap[k]? := by
  have e0 : (w.setCell ⟨b, 0, none⟩ (x0)).heap[b]? = some (.cells #[x0, u1, u2, u3, u4, u5, u6, u7, u8, u9] T (0, 0)) := set_at' h 0 x0
  have f0 : Frm NoS w0 (w.setCell ⟨b, 0, none⟩ (x0)) := Frm.set1 (p := ⟨b, 0, none⟩) f (.inr hb)
  have e1 : ((w.setCell ⟨b, 0, none⟩ (x0)).setCell ⟨b, 1, none⟩ (x1)).heap[b]? = some (.cells #[x0, x1, u2, u3, u4, u5, u6, u7, u8, u9] T (0, 0)) := set_at' e0 1 x1
  have f1 : Frm NoS w0 ((w.setCell ⟨b, 0, none⟩ (x0)).setCell ⟨b, 1, none⟩ (x1)) := Frm.set1 (p := ⟨b, 1, none⟩) f0 (.inr hb)
  have e2 : (((w.setCell ⟨b, 0, none⟩ (x0)).setCell ⟨b, 1, none⟩ (x1)).setCell ⟨b, 2, none⟩ (x2)).heap[b]? = some (.cells #[x0, x1, x2, u3, u4, u5, u6, u7, u8, u9] T (0, 0)) := set_at' e1 2 x2
  have f2 : Frm NoS w0 (((w.setCell ⟨b, 0, none⟩ (x0)).setCell ⟨b, 1, none⟩ (x1)).setCell ⟨b, 2, none⟩ (x2)) := Frm.set1 (p := ⟨b, 2, none⟩) f1 (.inr hb)
  have e3 : ((((w.setCell ⟨b, 0, none⟩ (x0)).setCell ⟨b, 1, none⟩ (x1)).setCell ⟨b, 2, none⟩ (x2)).setCell ⟨b, 3, none⟩ (x3)).heap[b]? = some (.cells #[x0, x1, x2, x3, u4, u5, u6, u7, u8, u9] T (0, 0)) := set_at' e2 3 x3
  have f3 : Frm NoS w0 ((((w.setCell ⟨b, 0, none⟩ (x0)).setCell ⟨b, 1, none⟩ (x1)).setCell ⟨b, 2, none⟩ (x2)).setCell ⟨b, 3, none⟩ (x3)) := Frm.set1 (p := ⟨b, 3, none⟩) f2 (.inr hb)
  have e4 : (((((w.setCell ⟨b, 0, none⟩ (x0)).setCell ⟨b, 1, none⟩ (x1)).setCell ⟨b, 2, none⟩ (x2)).setCell ⟨b, 3, none⟩ (x3)).setCell ⟨b, 4, none⟩ (x4)).heap[b]? = some (.cells #[x0, x1, x2, x3, x4, u5, u6, u7, u8, u9] T (0, 0)) := set_at' e3 4 x4
  have f4 : Frm NoS w0 (((((w.setCell ⟨b, 0, none⟩ (x0)).setCell ⟨b, 1, none⟩ (x1)).setCell ⟨b, 2, none⟩ (x2)).setCell ⟨b, 3, none⟩ (x3)).setCell ⟨b, 4, none⟩ (x4)) := Frm.set1 (p := ⟨b, 4, none⟩) f3 (.inr hb)
  have e5 : ((((((w.setCell ⟨b, 0, none⟩ (x0)).setCell ⟨b, 1, none⟩ (x1)).setCell ⟨b, 2, none⟩ (x2)).setCell ⟨b, 3, none⟩ (x3)).setCell ⟨b, 4, none⟩ (x4)).setCell ⟨b, 5, none⟩ (x5)).heap[b]? = some (.cells #[x0, x1, x2, x3, x4, x5, u6, u7, u8, u9] T (0, 0)) := set_at' e4 5 x5
  have f5 : Frm NoS w0 ((((((w.setCell ⟨b, 0, none⟩ (x0)).setCell ⟨b, 1, none⟩ (x1)).setCell ⟨b, 2, none⟩ (x2)).setCell ⟨b, 3, none⟩ (x3)).setCell ⟨b, 4, none⟩ (x4)).setCell ⟨b, 5, none⟩ (x5)) := Frm.set1 (p := ⟨b, 5, none⟩) f4 (.inr hb)
  have e6 : (((((((w.setCell ⟨b, 0, none⟩ (x0)).setCell ⟨b, 1, none⟩ (x1)).setCell ⟨b, 2, none⟩ (x2)).setCell ⟨b, 3, none⟩ (x3)).setCell ⟨b, 4, none⟩ (x4)).setCell ⟨b, 5, none⟩ (x5)).setCell ⟨b, 6, none⟩ (x6)).heap[b]? = some (.cells #[x0, x1, x2, x3, x4, x5, x6, u7, u8, u9] T (0, 0)) := set_at' e5 6 x6
  have f6 : Frm NoS w0 (((((((w.setCell ⟨b, 0, none⟩ (x0)).setCell ⟨b, 1, none⟩ (x1)).setCell ⟨b, 2, none⟩ (x2)).setCell ⟨b, 3, none⟩ (x3)).setCell ⟨b, 4, none⟩ (x4)).setCell ⟨b, 5, none⟩ (x5)).setCell ⟨b, 6, none⟩ (x6)) := Frm.set1 (p := ⟨b, 6, none⟩) f5 (.inr hb)
  have e7 : ((((((((w.setCell ⟨b, 0, none⟩ (x0)).setCell ⟨b, 1, none⟩ (x1)).setCell ⟨b, 2, none⟩ (x2)).setCell ⟨b, 3, none⟩ (x3)).setCell ⟨b, 4, none⟩ (x4)).setCell ⟨b, 5, none⟩ (x5)).setCell ⟨b, 6, none⟩ (x6)).setCell ⟨b, 7, none⟩ (x7)).heap[b]? = some (.cells #[x0, x1, x2, x3, x4, x5, x6, x7, u8, u9] T (0, 0)) := set_at' e6 7 x7
  have f7 : Frm NoS w0 ((((((((w.setCell ⟨b, 0, none⟩ (x0)).setCell ⟨b, 1, none⟩ (x1)).setCell ⟨b, 2, none⟩ (x2)).setCell ⟨b, 3, none⟩ (x3)).setCell ⟨b, 4, none⟩ (x4)).setCell ⟨b, 5, none⟩ (x5)).setCell ⟨b, 6, none⟩ (x6)).setCell ⟨b, 7, none⟩ (x7)) := Frm.set1 (p := ⟨b, 7, none⟩) f6 (.inr hb)
  have e8 : (((((((((w.setCell ⟨b, 0, none⟩ (x0)).setCell ⟨b, 1, none⟩ (x1)).setCell ⟨b, 2, none⟩ (x2)).setCell ⟨b, 3, none⟩ (x3)).setCell ⟨b, 4, none⟩ (x4)).setCell ⟨b, 5, none⟩ (x5)).setCell ⟨b, 6, none⟩ (x6)).setCell ⟨b, 7, none⟩ (x7)).setCell ⟨b, 8, none⟩ (x8)).heap[b]? = some (.cells #[x0, x1, x2, x3, x4, x5, x6, x7, x8, u9] T (0, 0)) := set_at' e7 8 x8
  have f8 : Frm NoS w0 (((((((((w.setCell ⟨b, 0, none⟩ (x0)).setCell ⟨b, 1, none⟩ (x1)).setCell ⟨b, 2, none⟩ (x2)).setCell ⟨b, 3, none⟩ (x3)).setCell ⟨b, 4, none⟩ (x4)).setCell ⟨b, 5, none⟩ (x5)).setCell ⟨b, 6, none⟩ (x6)).setCell ⟨b, 7, none⟩ (x7)).setCell ⟨b, 8, none⟩ (x8)) := Frm.set1 (p := ⟨b, 8, none⟩) f7 (.inr hb)
  have e9 : ((((((((((w.setCell ⟨b, 0, none⟩ (x0)).setCell ⟨b, 1, none⟩ (x1)).setCell ⟨b, 2, none⟩ (x2)).setCell ⟨b, 3, none⟩ (x3)).setCell ⟨b, 4, none⟩ (x4)).setCell ⟨b, 5, none⟩ (x5)).setCell ⟨b, 6, none⟩ (x6)).setCell ⟨b, 7, none⟩ (x7)).setCell ⟨b, 8, none⟩ (x8)).setCell ⟨b, 9, none⟩ (x9)).heap[b]? = some (.cells #[x0, x1, x2, x3, x4, x5, x6, x7, x8, x9] T (0, 0)) := set_at' e8 9 x9
  have f9 : Frm NoS w0 ((((((((((w.setCell ⟨b, 0, none⟩ (x0)).setCell ⟨b, 1, none⟩ (x1)).setCell ⟨b, 2, none⟩ (x2)).setCell ⟨b, 3, none⟩ (x3)).setCell ⟨b, 4, none⟩ (x4)).setCell ⟨b, 5, none⟩ (x5)).setCell ⟨b, 6, none⟩ (x6)).setCell ⟨b, 7, none⟩ (x7)).setCell ⟨b, 8, none⟩ (x8)).setCell ⟨b, 9, none⟩ (x9)) := Frm.set1 (p := ⟨b, 9, none⟩) f8 (.inr hb)
  exact ⟨e9, f9, fun k hk => (((((((((set_else hk).trans (set_else hk)).trans (set_else hk)).trans (set_else hk)).trans (set_else hk)).trans (set_else hk)).trans (set_else hk)).trans (set_else hk)).trans (set_else hk)).trans (set_else hk)⟩
theorem three_blocks (w : World) (c0 c1 c2 : Array Value) (T0 T1 T2 : TypeId) (W : World) (f : Frm NoS (((w.alloc (.cells c0 T0)).alloc (.cells c1 T1)).alloc (.cells c2 T2)) W) :
    W.heap[w.heap.size]? = some (.cells c0 T0 (0, 0)) ∧ W.heap[w.heap.size + 1]? = some (.cells c1 T1 (0, 0)) ∧ W.heap[w.heap.size + 1 + 1]? = some (.cells c2 T2 (0, 0)) ∧ Frm NoS w W := by
  have h0 := heap_alloc_new w (.cells c0 T0)
  have h1 := heap_alloc_new (w.alloc (.cells c0 T0)) (.cells c1 T1)
  have h2 := heap_alloc_new ((w.alloc (.cells c0 T0)).alloc (.cells c1 T1)) (.cells c2 T2)
  have sz : ∀ (u : World) (o : Obj), (u.alloc o).heap.size = u.heap.size + 1 := fun u o => by simp
  simp only [sz] at h1 h2
  exact ⟨f.blk (((Frm.alloc NoS _ _).alloc1).blk h0 id) id, f.blk ((Frm.alloc NoS _ _).blk h1 id) id, f.blk h2 id, (((Frm.alloc NoS _ _).alloc1).alloc1).then1 f⟩
def MakePost (w : World) (dc af la v0 v1 v2 v3 : Int) (es : List Ent) (ks : KidsL) (c : CtxL) (e : Ending) (w' : World) : Prop :=
  ∃ ev kv cv c', e = .returned (.tuple #[.agg #[.int .i64 dc, .int .i64 af, .int .i64 la, .int .i64 v0, .int .i64 v1, .int .i64 v2, .int .i64 v3, ev, kv, cv], .int .i64 0]) ∧ CauAt (fun _ => True) w' ev kv cv es ks c' ∧ ByC 0 c [(dc, af + 1, la)] c' ∧ Frm NoS w w'
set_option maxHeartbeats 8000000 in
set_option maxRecDepth 1000000 in
theorem bMake_ok (Q : Nat → Prop) (es : List Ent) (ks : KidsL) (c : CtxL) (w : World) (dc af la v0 v1 v2 v3 : Int) (ev kv cv : Value) (h : CauAt Q w ev kv cv es ks c) (hok : CauOk es ks c)
    (hn : BunNums dc af la (vecF v0 v1 v2 v3)) (hc : CauRight es ks c) (hB : ∀ c', ByC 0 c [(dc, af + 1, la)] c' → BunRight dc af la (vecF v0 v1 v2 v3) es ks c' ∧ CauOk es ks c') :
    Calls Tryz.prog 62 #[.int .i64 dc, .int .i64 af, .int .i64 la, .agg #[.int .i64 v0, .int .i64 v1, .int .i64 v2, .int .i64 v3], .agg #[ev, kv, cv]] w (MakePost w dc af la v0 v1 v2 v3 es ks c) := by
  obtain ⟨a0, c0, a1, c1, a2, c2, rfl, rfl, rfl⟩ := h.shape
  have HCC := Lib.hid (fun W (f : Frm NoS w W) => caClone_ok Q es ks c W _ _ _ (h.keep0 f) hok hc)
  have HCR := Lib.hid (fun W (f : Frm NoS w W) => tf_true hc ▸ caRight_any Q es ks c W _ _ _ (h.keep0 f) hok)
  have HN := Lib.hid hn
  have HB := Lib.hid hB
  have HOK := Lib.hid hok
  have HC := Lib.hid hc
  have HNM := Lib.hid (fun W a0 a1 a2 n m k c0 c1 c2 => tf_true hn ▸ bnames_any W dc af la v0 v1 v2 v3 a0 a1 a2 n m k c0 c1 c2)
  have HOW := Lib.hid (fun W a0 a1 a2 n m k c0 c1 c2 => bown_ok W dc af la v0 v1 v2 v3 a0 a1 a2 n m k c0 c1 c2 hn)
  have HTB := Lib.hid (three_blocks w #[.int .i64 v0, .int .i64 v1, .int .i64 v2, .int .i64 v3] #[.slice a0 es.length c0, .slice a1 ks.len c1, .slice a2 c.length c2] #[.int .i64 0, .int .i64 0, .int .i64 0, .int .i64 0, .int .i64 0, .int .i64 0, .int .i64 0, .slice none 0 0, .slice none 0 0, .slice none 0 0] 49 29 52)
  have hS0 : ∀ W, Frm NoS (((w.alloc (.cells #[.int .i64 v0, .int .i64 v1, .int .i64 v2, .int .i64 v3] 49)).alloc (.cells #[.slice a0 es.length c0, .slice a1 ks.len c1, .slice a2 c.length c2] 29)).alloc (.cells #[.int .i64 0, .int .i64 0, .int .i64 0, .int .i64 0, .int .i64 0, .int .i64 0, .int .i64 0, .slice none 0 0, .slice none 0 0, .slice none 0 0] 52)) W → W.cell? ⟨w.heap.size, 0, none⟩ = some (.int .i64 v0) ∧ W.cell? ⟨w.heap.size, 1, none⟩ = some (.int .i64 v1) ∧ W.cell? ⟨w.heap.size, 2, none⟩ = some (.int .i64 v2) ∧ W.cell? ⟨w.heap.size, 3, none⟩ = some (.int .i64 v3) ∧ W.cell? ⟨w.heap.size + 1, 0, none⟩ = some (.slice a0 es.length c0) ∧ W.cell? ⟨w.heap.size + 1, 1, none⟩ = some (.slice a1 ks.len c1) ∧ W.cell? ⟨w.heap.size + 1, 2, none⟩ = some (.slice a2 c.length c2) := fun W f => by
    obtain ⟨g0, g1, -, -⟩ := HTB.out W f
    exact ⟨cell_at' g0 0 rfl, cell_at' g0 1 rfl, cell_at' g0 2 rfl, cell_at' g0 3 rfl, cell_at' g1 0 rfl, cell_at' g1 1 rfl, cell_at' g1 2 rfl⟩
  have HS0 := Lib.hid hS0; clear hS0
  clear h hok hn hc hB
  have hsz0 : (((w.alloc (.cells #[.int .i64 v0, .int .i64 v1, .int .i64 v2, .int .i64 v3] 49)).alloc (.cells #[.slice a0 es.length c0, .slice a1 ks.len c1, .slice a2 c.length c2] 29)).alloc (.cells #[.int .i64 0, .int .i64 0, .int .i64 0, .int .i64 0, .int .i64 0, .int .i64 0, .int .i64 0, .slice none 0 0, .slice none 0 0, .slice none 0 0] 52)).heap.size = w.heap.size + 1 + 1 + 1 := by simp
  have HSZ0 := Lib.hid hsz0; clear hsz0
  go_enter Tryz.func62, Tryz.ntmps62
  go_wp2_with fail
  have hW0 : Frm NoS (((w.alloc (.cells #[.int .i64 v0, .int .i64 v1, .int .i64 v2, .int .i64 v3] 49)).alloc (.cells #[.slice a0 es.length c0, .slice a1 ks.len c1, .slice a2 c.length c2] 29)).alloc (.cells #[.int .i64 0, .int .i64 0, .int .i64 0, .int .i64 0, .int .i64 0, .int .i64 0, .int .i64 0, .slice none 0 0, .slice none 0 0, .slice none 0 0] 52)) (((w.alloc (.cells #[.int .i64 v0, .int .i64 v1, .int .i64 v2, .int .i64 v3] 49)).alloc (.cells #[.slice a0 es.length c0, .slice a1 ks.len c1, .slice a2 c.length c2] 29)).alloc (.cells #[.int .i64 0, .int .i64 0, .int .i64 0, .int .i64 0, .int .i64 0, .int .i64 0, .int .i64 0, .slice none 0 0, .slice none 0 0, .slice none 0 0] 52)).drew := Frm.drew _ _
  have hS := HS0.out _ hW0
  have hFY := (HTB.out _ hW0).2.2.2
  have hr : w.heap.size + 1 + 1 < (((w.alloc (.cells #[.int .i64 v0, .int .i64 v1, .int .i64 v2, .int .i64 v3] 49)).alloc (.cells #[.slice a0 es.length c0, .slice a1 ks.len c1, .slice a2 c.length c2] 29)).alloc (.cells #[.int .i64 0, .int .i64 0, .int .i64 0, .int .i64 0, .int .i64 0, .int .i64 0, .int .i64 0, .slice none 0 0, .slice none 0 0, .slice none 0 0] 52)).drew.heap.size := by have : (((w.alloc (.cells #[.int .i64 v0, .int .i64 v1, .int .i64 v2, .int .i64 v3] 49)).alloc (.cells #[.slice a0 es.length c0, .slice a1 ks.len c1, .slice a2 c.length c2] 29)).alloc (.cells #[.int .i64 0, .int .i64 0, .int .i64 0, .int .i64 0, .int .i64 0, .int .i64 0, .int .i64 0, .slice none 0 0, .slice none 0 0, .slice none 0 0] 52)).drew.heap.size = _ := HSZ0.out; omega
  refine wp_region_G (S := fun w' => w'.cell? ⟨w.heap.size, 0, none⟩ = some (.int .i64 v0) ∧ w'.cell? ⟨w.heap.size, 1, none⟩ = some (.int .i64 v1) ∧ w'.cell? ⟨w.heap.size, 2, none⟩ = some (.int .i64 v2) ∧ w'.cell? ⟨w.heap.size, 3, none⟩ = some (.int .i64 v3) ∧ w'.cell? ⟨w.heap.size + 1, 0, none⟩ = some (.slice a0 es.length c0) ∧ w'.cell? ⟨w.heap.size + 1, 1, none⟩ = some (.slice a1 ks.len c1) ∧ w'.cell? ⟨w.heap.size + 1, 2, none⟩ = some (.slice a2 c.length c2)) 8 (by kernel_rfl) hS ?_
  clear hS
  intro hS
  clear HSZ0
  generalize hY0 : (((w.alloc (.cells #[.int .i64 v0, .int .i64 v1, .int .i64 v2, .int .i64 v3] 49)).alloc (.cells #[.slice a0 es.length c0, .slice a1 ks.len c1, .slice a2 c.length c2] 29)).alloc (.cells #[.int .i64 0, .int .i64 0, .int .i64 0, .int .i64 0, .int .i64 0, .int .i64 0, .int .i64 0, .slice none 0 0, .slice none 0 0, .slice none 0 0] 52)) = Z0 at *
  have HY0 := Lib.hid hY0; clear hY0
  generalize Z0.drew = Y at *
  refine take_opG 0 13 (v := ?_) rfl rfl (by kernel_rfl) (by kernel_rfl) (by decide) (by kernel_rfl) (by kernel_rfl) (fun _ _ _ h => h) (Or.inl ⟨by rfl, ?_⟩) (by assumption) ?_
  rotate_left 1
  · (intro w hSw; (try dsimp only at hSw); go_simp; (try with_reducible rfl))
  try simp only [Act.put, List.setIfInBounds_toArray, List.set_cons_zero, List.set_cons_succ]
  refine take_opG 1 14 (v := ?_) rfl rfl (by kernel_rfl) (by kernel_rfl) (by decide) (by kernel_rfl) (by kernel_rfl) (fun _ _ _ h => h) (Or.inl ⟨by rfl, ?_⟩) (by assumption) ?_
  rotate_left 1
  · (intro w hSw; (try dsimp only at hSw); go_simp; (try with_reducible rfl))
  try simp only [Act.put, List.setIfInBounds_toArray, List.set_cons_zero, List.set_cons_succ]
  refine take_opG 2 15 (v := ?_) rfl rfl (by kernel_rfl) (by kernel_rfl) (by decide) (by kernel_rfl) (by kernel_rfl) (fun _ _ _ h => h) (Or.inl ⟨by rfl, ?_⟩) (by assumption) ?_
  rotate_left 1
  · (intro w hSw; (try dsimp only at hSw); go_simp; (try with_reducible rfl))
  try simp only [Act.put, List.setIfInBounds_toArray, List.set_cons_zero, List.set_cons_succ]
  refine take_opG 3 16 (v := ?_) rfl rfl (by kernel_rfl) (by kernel_rfl) (by decide) (by kernel_rfl) (by kernel_rfl) (fun _ _ _ h => h) (Or.inl ⟨by rfl, ?_⟩) (by assumption) ?_
  rotate_left 1
  · (intro w hSw; (try dsimp only at hSw); go_simp; (try with_reducible rfl))
  try simp only [Act.put, List.setIfInBounds_toArray, List.set_cons_zero, List.set_cons_succ]
  refine take_opG 4 17 (v := ?_) rfl rfl (by kernel_rfl) (by kernel_rfl) (by decide) (by kernel_rfl) (by kernel_rfl) (fun _ _ _ h => h) (Or.inl ⟨by rfl, ?_⟩) (by assumption) ?_
  rotate_left 1
  · (intro w hSw; (try dsimp only at hSw); go_simp; (try with_reducible rfl))
  try simp only [Act.put, List.setIfInBounds_toArray, List.set_cons_zero, List.set_cons_succ]
  refine two_opG (i := 5) (j := 7) (by kernel_rfl) rfl rfl (fun K hK => ?_) (fun K hK => ?_)
  · go_simp
    refine (HCC.out _ hFY).mono ?_
    rintro e Y1 ⟨ev3, kv3, cv3, rfl, hta, hoc⟩
    obtain ⟨a3, d3, rfl⟩ := hta.ents.rd.sl
    obtain ⟨os3, hkr3, -⟩ := hta.kids
    obtain ⟨a4, d4, rfl⟩ := hkr3.rd.sl
    clear hkr3
    obtain ⟨a5, d5, rfl⟩ := hoc.shape
    have hf := hoc.frm
    have hszY : Y.heap.size ≤ Y1.heap.size := hf.size
    have hS : Y1.cell? ⟨w.heap.size, 0, none⟩ = some (.int .i64 v0) ∧ Y1.cell? ⟨w.heap.size, 1, none⟩ = some (.int .i64 v1) ∧ Y1.cell? ⟨w.heap.size, 2, none⟩ = some (.int .i64 v2) ∧ Y1.cell? ⟨w.heap.size, 3, none⟩ = some (.int .i64 v3) ∧ Y1.cell? ⟨w.heap.size + 1, 0, none⟩ = some (.slice a0 es.length c0) ∧ Y1.cell? ⟨w.heap.size + 1, 1, none⟩ = some (.slice a1 ks.len c1) ∧ Y1.cell? ⟨w.heap.size + 1, 2, none⟩ = some (.slice a2 c.length c2) := ⟨hf.cell' hS.1 id, hf.cell' hS.2.1 id, hf.cell' hS.2.2.1 id, hf.cell' hS.2.2.2.1 id, hf.cell' hS.2.2.2.2.1 id, hf.cell' hS.2.2.2.2.2.1 id, hf.cell' hS.2.2.2.2.2.2 id⟩
    have hW0 := hW0.then1 hf
    have hFY := hFY.then1 hf
    have hr0 := hr
    have hr : w.heap.size + 1 + 1 < Y1.heap.size := by omega
    (try have hM := hf.blk hM id)
    (try have hTA : TreeAt (fun b => b ≠ mb ∧ b ≠ w.heap.size + 1 + 1) Y1 (.slice a3 es.length d3) (.slice a4 ks.len d4) es ks := hta.turn fun b hb hQ => ⟨rfl, by omega, by omega⟩)
    (try have hCX : RdQ (fun b => b ≠ mb ∧ b ≠ w.heap.size + 1 + 1) Y1 (.slice a5 c.length d5) c.length (spC c) := hoc.rdq.turn fun b hb hQ => ⟨rfl, by omega, by omega⟩)
    refine hK.out _ _ hS ?_
    clear hK K hf
    generalize Y1 = Y at *
    try simp only [Act.put, List.setIfInBounds_toArray, List.set_cons_zero, List.set_cons_succ]
    refine take_opG 6 19 (v := ?_) rfl rfl (by kernel_rfl) (by kernel_rfl) (by decide) (by kernel_rfl) (by kernel_rfl) (fun _ _ _ h => h) (Or.inl ⟨by rfl, ?_⟩) (by assumption) ?_
    rotate_left 1
    · (intro w hSw; (try dsimp only at hSw); go_simp; (try with_reducible rfl))
    try simp only [Act.put, List.setIfInBounds_toArray, List.set_cons_zero, List.set_cons_succ]
    refine one_opG (i := 7) (by kernel_rfl) rfl (fun K hK => ?_)
    go_simp
    have hf : Frm NoS Y (Y.alloc (.cells #[.int .i64 0, .int .i64 0, .int .i64 0, .int .i64 0, .int .i64 0, .int .i64 0, .int .i64 0, .slice none 0 0, .slice none 0 0, .slice none 0 0] 52)) := Frm.alloc _ _ _
    have hM := heap_alloc_new Y (.cells #[.int .i64 0, .int .i64 0, .int .i64 0, .int .i64 0, .int .i64 0, .int .i64 0, .int .i64 0, .slice none 0 0, .slice none 0 0, .slice none 0 0] 52)
    have hS : (Y.alloc (.cells #[.int .i64 0, .int .i64 0, .int .i64 0, .int .i64 0, .int .i64 0, .int .i64 0, .int .i64 0, .slice none 0 0, .slice none 0 0, .slice none 0 0] 52)).cell? ⟨w.heap.size, 0, none⟩ = some (.int .i64 v0) ∧ (Y.alloc (.cells #[.int .i64 0, .int .i64 0, .int .i64 0, .int .i64 0, .int .i64 0, .int .i64 0, .int .i64 0, .slice none 0 0, .slice none 0 0, .slice none 0 0] 52)).cell? ⟨w.heap.size, 1, none⟩ = some (.int .i64 v1) ∧ (Y.alloc (.cells #[.int .i64 0, .int .i64 0, .int .i64 0, .int .i64 0, .int .i64 0, .int .i64 0, .int .i64 0, .slice none 0 0, .slice none 0 0, .slice none 0 0] 52)).cell? ⟨w.heap.size, 2, none⟩ = some (.int .i64 v2) ∧ (Y.alloc (.cells #[.int .i64 0, .int .i64 0, .int .i64 0, .int .i64 0, .int .i64 0, .int .i64 0, .int .i64 0, .slice none 0 0, .slice none 0 0, .slice none 0 0] 52)).cell? ⟨w.heap.size, 3, none⟩ = some (.int .i64 v3) ∧ (Y.alloc (.cells #[.int .i64 0, .int .i64 0, .int .i64 0, .int .i64 0, .int .i64 0, .int .i64 0, .int .i64 0, .slice none 0 0, .slice none 0 0, .slice none 0 0] 52)).cell? ⟨w.heap.size + 1, 0, none⟩ = some (.slice a0 es.length c0) ∧ (Y.alloc (.cells #[.int .i64 0, .int .i64 0, .int .i64 0, .int .i64 0, .int .i64 0, .int .i64 0, .int .i64 0, .slice none 0 0, .slice none 0 0, .slice none 0 0] 52)).cell? ⟨w.heap.size + 1, 1, none⟩ = some (.slice a1 ks.len c1) ∧ (Y.alloc (.cells #[.int .i64 0, .int .i64 0, .int .i64 0, .int .i64 0, .int .i64 0, .int .i64 0, .int .i64 0, .slice none 0 0, .slice none 0 0, .slice none 0 0] 52)).cell? ⟨w.heap.size + 1, 2, none⟩ = some (.slice a2 c.length c2) := ⟨hf.cell' hS.1 id, hf.cell' hS.2.1 id, hf.cell' hS.2.2.1 id, hf.cell' hS.2.2.2.1 id, hf.cell' hS.2.2.2.2.1 id, hf.cell' hS.2.2.2.2.2.1 id, hf.cell' hS.2.2.2.2.2.2 id⟩
    have hW0 := hW0.then1 hf
    have hFY := hFY.then1 hf
    have hsa : (Y.alloc (.cells #[.int .i64 0, .int .i64 0, .int .i64 0, .int .i64 0, .int .i64 0, .int .i64 0, .int .i64 0, .slice none 0 0, .slice none 0 0, .slice none 0 0] 52)).heap.size = Y.heap.size + 1 := by simp
    obtain ⟨mb, hmb⟩ : ∃ mb, Y.heap.size = mb := ⟨_, rfl⟩
    have hrm : w.heap.size + 1 + 1 < mb := by omega
    (try have hTA : TreeAt (fun b => b ≠ mb ∧ b ≠ w.heap.size + 1 + 1) (Y.alloc (.cells #[.int .i64 0, .int .i64 0, .int .i64 0, .int .i64 0, .int .i64 0, .int .i64 0, .int .i64 0, .slice none 0 0, .slice none 0 0, .slice none 0 0] 52)) (.slice a3 es.length d3) (.slice a4 ks.len d4) es ks := hta.turn fun b hb hQ => ⟨Below.heap_alloc _ _ _ hb, by omega, by omega⟩)
    (try have hCX : RdQ (fun b => b ≠ mb ∧ b ≠ w.heap.size + 1 + 1) (Y.alloc (.cells #[.int .i64 0, .int .i64 0, .int .i64 0, .int .i64 0, .int .i64 0, .int .i64 0, .int .i64 0, .slice none 0 0, .slice none 0 0, .slice none 0 0] 52)) (.slice a5 c.length d5) c.length (spC c) := hoc.rdq.turn fun b hb hQ => ⟨Below.heap_alloc _ _ _ hb, by omega, by omega⟩)
    have hml : mb < (Y.alloc (.cells #[.int .i64 0, .int .i64 0, .int .i64 0, .int .i64 0, .int .i64 0, .int .i64 0, .int .i64 0, .slice none 0 0, .slice none 0 0, .slice none 0 0] 52)).heap.size := by omega
    have hr : w.heap.size + 1 + 1 < (Y.alloc (.cells #[.int .i64 0, .int .i64 0, .int .i64 0, .int .i64 0, .int .i64 0, .int .i64 0, .int .i64 0, .slice none 0 0, .slice none 0 0, .slice none 0 0] 52)).heap.size := by omega
    rw [hmb] at hM ⊢
    clear hsa hmb
    refine hK.out _ _ hS ?_
    clear hK K hf
    generalize Y.alloc (.cells #[.int .i64 0, .int .i64 0, .int .i64 0, .int .i64 0, .int .i64 0, .int .i64 0, .int .i64 0, .slice none 0 0, .slice none 0 0, .slice none 0 0] 52) = Y at *
    try simp only [Act.put, List.setIfInBounds_toArray, List.set_cons_zero, List.set_cons_succ]
    refine last_opG (by kernel_rfl) (by kernel_rfl) rfl (fun K hK => ?_)
    have HR := Lib.hid (res10 hM hFY (by omega) (.int .i64 dc) (.int .i64 af) (.int .i64 la) (.int .i64 v0) (.int .i64 v1) (.int .i64 v2) (.int .i64 v3) (.slice a3 es.length d3) (.slice a4 ks.len d4) (.slice a5 c.length d5))
    have z0 := cell_at' hM 0 rfl
    have g0 := free_at' hM 0
    have z1 := cell_at' hM 1 rfl
    have g1 := free_at' hM 1
    have z2 := cell_at' hM 2 rfl
    have g2 := free_at' hM 2
    have z3 := cell_at' hM 3 rfl
    have g3 := free_at' hM 3
    have z4 := cell_at' hM 4 rfl
    have g4 := free_at' hM 4
    have z5 := cell_at' hM 5 rfl
    have g5 := free_at' hM 5
    have z6 := cell_at' hM 6 rfl
    have g6 := free_at' hM 6
    have z7 := cell_at' hM 7 rfl
    have g7 := free_at' hM 7
    have z8 := cell_at' hM 8 rfl
    have g8 := free_at' hM 8
    have z9 := cell_at' hM 9 rfl
    have g9 := free_at' hM 9
    have HTA := Lib.hid (hTA.turn (Q' := fun b => b ≠ mb ∧ b ≠ w.heap.size + 1 + 1) fun b hb hQ => ⟨HR.out.2.2 b hQ.1, hQ⟩)
    have HCX := Lib.hid (hCX.turn (Q' := fun b => b ≠ mb ∧ b ≠ w.heap.size + 1 + 1) fun b hb hQ => ⟨HR.out.2.2 b hQ.1, hQ⟩)
    have hz0 : Z0.heap.size ≤ mb := by rw [← HY0.out]; simp; omega
    have HW0 := Lib.hid (res10 hM hW0 hz0 (.int .i64 dc) (.int .i64 af) (.int .i64 la) (.int .i64 v0) (.int .i64 v1) (.int .i64 v2) (.int .i64 v3) (.slice a3 es.length d3) (.slice a4 ks.len d4) (.slice a5 c.length d5)).2.1
    have HZM := Lib.hid hz0
    have HRM := Lib.hid hrm
    clear hS hM hTA hCX hW0 hFY hr hz0 hrm
    (try clear hr0)
    (try clear hszY)
    clear hta hoc
    go_simp
    refine hK.out _ _ ?_
    clear hK K z0 g0 z1 g1 z2 g2 z3 g3 z4 g4 z5 g5 z6 g6 z7 g7 z8 g8 z9 g9
    generalize ((((((((((Y.setCell ⟨mb, 0, none⟩ (.int .i64 dc)).setCell ⟨mb, 1, none⟩ (.int .i64 af)).setCell ⟨mb, 2, none⟩ (.int .i64 la)).setCell ⟨mb, 3, none⟩ (.int .i64 v0)).setCell ⟨mb, 4, none⟩ (.int .i64 v1)).setCell ⟨mb, 5, none⟩ (.int .i64 v2)).setCell ⟨mb, 6, none⟩ (.int .i64 v3)).setCell ⟨mb, 7, none⟩ (.slice a3 es.length d3)).setCell ⟨mb, 8, none⟩ (.slice a4 ks.len d4)).setCell ⟨mb, 9, none⟩ (.slice a5 c.length d5)) = X at *
    obtain ⟨hXM, hXF, -⟩ := HR.out
    have HXM := Lib.hid hXM
    have HXF := Lib.hid hXF
    have y0 := cell_at' hXM 0 rfl
    have y1 := cell_at' hXM 1 rfl
    have y2 := cell_at' hXM 2 rfl
    have y3 := cell_at' hXM 3 rfl
    have y4 := cell_at' hXM 4 rfl
    have y5 := cell_at' hXM 5 rfl
    have y6 := cell_at' hXM 6 rfl
    have y7 := cell_at' hXM 7 rfl
    have y8 := cell_at' hXM 8 rfl
    have y9 := cell_at' hXM 9 rfl
    clear hXM hXF HR
    go_wp2_with (first
      | (go_at_call 110; go_loud (refine (HNM.out _ _ _ _ _ _ _ _ _ _).mono ?_); rintro e w1 ⟨rfl, hw1⟩; obtain ⟨-, -, -, -, b0, b1, b2⟩ := HS0.out w1 (HW0.out.then1 hw1); have HW1 := Lib.hid hw1; clear hw1)
      | (go_at_call 52; go_loud (refine (HCR.out _ (HXF.out.then1 HW1.out)).mono ?_); rintro e w2 ⟨rfl, hw2⟩; have HW2 := Lib.hid (HW1.out.then1 hw2); clear hw2))
    clear b0 b1 b2 y0 y1 y2 y3 y4 y5 y6 y7 y8 y9
    have hfx := HW2.out.then1 (Frm.drew NoS w2)
    have hM := hfx.blk HXM.out id
    refine wp_region_G (S := fun w' => w'.cell? ⟨mb, 0, none⟩ = some (.int .i64 dc) ∧ w'.cell? ⟨mb, 1, none⟩ = some (.int .i64 af) ∧ w'.cell? ⟨mb, 2, none⟩ = some (.int .i64 la) ∧ w'.cell? ⟨mb, 3, none⟩ = some (.int .i64 v0) ∧ w'.cell? ⟨mb, 4, none⟩ = some (.int .i64 v1) ∧ w'.cell? ⟨mb, 5, none⟩ = some (.int .i64 v2) ∧ w'.cell? ⟨mb, 6, none⟩ = some (.int .i64 v3) ∧ w'.cell? ⟨mb, 7, none⟩ = some (.slice a3 es.length d3) ∧ w'.cell? ⟨mb, 8, none⟩ = some (.slice a4 ks.len d4) ∧ w'.cell? ⟨mb, 9, none⟩ = some (.slice a5 c.length d5)) 8 (by kernel_rfl) ⟨cell_at' hM 0 rfl, cell_at' hM 1 rfl, cell_at' hM 2 rfl, cell_at' hM 3 rfl, cell_at' hM 4 rfl, cell_at' hM 5 rfl, cell_at' hM 6 rfl, cell_at' hM 7 rfl, cell_at' hM 8 rfl, cell_at' hM 9 rfl⟩ ?_
    intro hS
    have HTA2 := Lib.hid (HTA.out.keep0 hfx)
    have HCX2 := Lib.hid (HCX.out.rd.keep0 hfx)
    have HF2 := Lib.hid (HXF.out.then1 hfx)
    have HZ2 := Lib.hid (HW0.out.then1 hfx)
    have HM2 := Lib.hid hM
    clear hM hfx
    generalize w2.drew = Y2 at *
    refine take_opW 0 29 (v := ?_) rfl rfl (by kernel_rfl) (by kernel_rfl) (by kernel_rfl) (by kernel_rfl) (fun _ _ _ h => h) (Or.inl ⟨by rfl, ?_⟩) (by assumption) ?_
    rotate_left 1
    · (intro w hSw; (try dsimp only at hSw); go_simp; (try with_reducible rfl))
    try simp only [Act.put, List.setIfInBounds_toArray, List.set_cons_zero, List.set_cons_succ]
    refine take_opW 1 30 (v := ?_) rfl rfl (by kernel_rfl) (by kernel_rfl) (by kernel_rfl) (by kernel_rfl) (fun _ _ _ h => h) (Or.inl ⟨by rfl, ?_⟩) (by assumption) ?_
    rotate_left 1
    · (intro w hSw; (try dsimp only at hSw); go_simp; (try with_reducible rfl))
    try simp only [Act.put, List.setIfInBounds_toArray, List.set_cons_zero, List.set_cons_succ]
    refine take_opW 2 31 (v := ?_) rfl rfl (by kernel_rfl) (by kernel_rfl) (by kernel_rfl) (by kernel_rfl) (fun _ _ _ h => h) (Or.inl ⟨by rfl, ?_⟩) (by assumption) ?_
    rotate_left 1
    · (intro w hSw; (try dsimp only at hSw); go_simp; (try with_reducible rfl))
    try simp only [Act.put, List.setIfInBounds_toArray, List.set_cons_zero, List.set_cons_succ]
    refine take_opW 3 32 (v := ?_) rfl rfl (by kernel_rfl) (by kernel_rfl) (by kernel_rfl) (by kernel_rfl) (fun _ _ _ h => h) (Or.inl ⟨by rfl, ?_⟩) (by assumption) ?_
    rotate_left 1
    · (intro w hSw; (try dsimp only at hSw); go_simp; (try with_reducible rfl))
    try simp only [Act.put, List.setIfInBounds_toArray, List.set_cons_zero, List.set_cons_succ]
    refine one_opG (i := 4) (by kernel_rfl) rfl (fun K hK => ?_)
    go_simp
    refine (HOW.out _ _ _ _ _ _ _ _ _ _).mono ?_
    rintro e Y3 ⟨v3', rfl, hc3, hf3⟩
    obtain ⟨b3a, b3c, rfl⟩ : ∃ a c, v3' = .slice a 1 c := Rd.sl hc3
    have hS : Y3.cell? ⟨mb, 0, none⟩ = some (.int .i64 dc) ∧ Y3.cell? ⟨mb, 1, none⟩ = some (.int .i64 af) ∧ Y3.cell? ⟨mb, 2, none⟩ = some (.int .i64 la) ∧ Y3.cell? ⟨mb, 3, none⟩ = some (.int .i64 v0) ∧ Y3.cell? ⟨mb, 4, none⟩ = some (.int .i64 v1) ∧ Y3.cell? ⟨mb, 5, none⟩ = some (.int .i64 v2) ∧ Y3.cell? ⟨mb, 6, none⟩ = some (.int .i64 v3) ∧ Y3.cell? ⟨mb, 7, none⟩ = some (.slice a3 es.length d3) ∧ Y3.cell? ⟨mb, 8, none⟩ = some (.slice a4 ks.len d4) ∧ Y3.cell? ⟨mb, 9, none⟩ = some (.slice a5 c.length d5) := ⟨hf3.cell' hS.1 id, hf3.cell' hS.2.1 id, hf3.cell' hS.2.2.1 id, hf3.cell' hS.2.2.2.1 id, hf3.cell' hS.2.2.2.2.1 id, hf3.cell' hS.2.2.2.2.2.1 id, hf3.cell' hS.2.2.2.2.2.2.1 id, hf3.cell' hS.2.2.2.2.2.2.2.1 id, hf3.cell' hS.2.2.2.2.2.2.2.2.1 id, hf3.cell' hS.2.2.2.2.2.2.2.2.2 id⟩
    refine hK.out _ _ hS ?_
    clear hK K
    have HTA3 := Lib.hid (HTA2.out.keep0 hf3)
    have HCX3 := Lib.hid (HCX2.out.keep0 hf3)
    have HF3 := Lib.hid (HF2.out.then1 hf3)
    have HZ3 := Lib.hid (HZ2.out.then1 hf3)
    have HM3 := Lib.hid (hf3.blk HM2.out id)
    have HC3 := Lib.hid hc3
    clear hf3 hc3
    try simp only [Act.put, List.setIfInBounds_toArray, List.set_cons_zero, List.set_cons_succ]
    refine one_opG (i := 5) (by kernel_rfl) rfl (fun K hK => ?_)
    go_simp
    refine (cUnion_ok _ _ _ c [(dc, af + 1, la)] HCX3.out HC3.out HOK.out.fits HN.out.own_right.fits HC.out.ctx HN.out.own_right (by have := HOK.out.len; omega) (by simp)).mono ?_
    rintro e Y4 ⟨v4', c', rfl, ho4, hby, -⟩
    obtain ⟨a6, d6, rfl⟩ := ho4.shape
    have hf4 := ho4.frm
    have hS : Y4.cell? ⟨mb, 0, none⟩ = some (.int .i64 dc) ∧ Y4.cell? ⟨mb, 1, none⟩ = some (.int .i64 af) ∧ Y4.cell? ⟨mb, 2, none⟩ = some (.int .i64 la) ∧ Y4.cell? ⟨mb, 3, none⟩ = some (.int .i64 v0) ∧ Y4.cell? ⟨mb, 4, none⟩ = some (.int .i64 v1) ∧ Y4.cell? ⟨mb, 5, none⟩ = some (.int .i64 v2) ∧ Y4.cell? ⟨mb, 6, none⟩ = some (.int .i64 v3) ∧ Y4.cell? ⟨mb, 7, none⟩ = some (.slice a3 es.length d3) ∧ Y4.cell? ⟨mb, 8, none⟩ = some (.slice a4 ks.len d4) ∧ Y4.cell? ⟨mb, 9, none⟩ = some (.slice a5 c.length d5) := ⟨hf4.cell' hS.1 id, hf4.cell' hS.2.1 id, hf4.cell' hS.2.2.1 id, hf4.cell' hS.2.2.2.1 id, hf4.cell' hS.2.2.2.2.1 id, hf4.cell' hS.2.2.2.2.2.1 id, hf4.cell' hS.2.2.2.2.2.2.1 id, hf4.cell' hS.2.2.2.2.2.2.2.1 id, hf4.cell' hS.2.2.2.2.2.2.2.2.1 id, hf4.cell' hS.2.2.2.2.2.2.2.2.2 id⟩
    refine hK.out _ _ hS ?_
    clear hK K
    have HTA4 := Lib.hid (HTA3.out.keep0 hf4)
    have HF4 := Lib.hid (HF3.out.then1 hf4)
    have HZ4 := Lib.hid (HZ3.out.then1 hf4)
    have HM4 := Lib.hid (hf4.blk HM3.out id)
    have hm3 := lt_of_block HM3.out
    have hrm := HRM.out
    have HCX4 := Lib.hid (ho4.rdq.turn (Q' := fun b => b ≠ mb ∧ b ≠ w.heap.size + 1 + 1) fun b hb hQ => ⟨rfl, by omega, by omega⟩)
    have HBY := Lib.hid hby
    clear hf4 ho4 hby hm3 hrm
    try simp only [Act.put, List.setIfInBounds_toArray, List.set_cons_zero, List.set_cons_succ]
    refine one_opG (i := 6) (by kernel_rfl) rfl (fun K hK => ?_)
    go_simp
    refine hK.out _ _ hS ?_
    clear hK K
    try simp only [Act.put, List.setIfInBounds_toArray, List.set_cons_zero, List.set_cons_succ]
    refine take_opW 7 36 (v := ?_) rfl rfl (by kernel_rfl) (by kernel_rfl) (by kernel_rfl) (by kernel_rfl) (fun _ _ _ h => h) (Or.inl ⟨by rfl, ?_⟩) (by assumption) ?_
    rotate_left 1
    · (intro w hSw; (try dsimp only at hSw); go_simp; (try with_reducible rfl))
    try simp only [Act.put, List.setIfInBounds_toArray, List.set_cons_zero, List.set_cons_succ]
    refine last_opG (by kernel_rfl) (by kernel_rfl) rfl (fun K hK => ?_)
    have hM := HM4.out
    have hz9 := cell_at' hM 9 rfl
    have hg9 := free_at' hM 9
    have hM5 : (Y4.setCell ⟨mb, 9, none⟩ (.slice a6 c'.length d6)).heap[mb]? = some (.cells #[.int .i64 dc, .int .i64 af, .int .i64 la, .int .i64 v0, .int .i64 v1, .int .i64 v2, .int .i64 v3, .slice a3 es.length d3, .slice a4 ks.len d4, .slice a6 c'.length d6] 52 (0, 0)) := set_at' hM 9 _
    have HM5 := Lib.hid hM5
    have HF5 := Lib.hid (HF4.out.set1 (p := ⟨mb, 9, none⟩) (u := .slice a6 c'.length d6) (.inr (by have := HRM.out; show w.heap.size ≤ mb; omega)))
    have HZ5 := Lib.hid (HZ4.out.set1 (p := ⟨mb, 9, none⟩) (u := .slice a6 c'.length d6) (.inr HZM.out))
    have HTA5 := Lib.hid (HTA4.out.turn (Q' := fun b => b ≠ mb ∧ b ≠ w.heap.size + 1 + 1) (w' := Y4.setCell ⟨mb, 9, none⟩ (.slice a6 c'.length d6)) fun b hb hQ => ⟨set_else hQ.1, hQ⟩)
    have HCX5 := Lib.hid (HCX4.out.turn (Q' := fun b => b ≠ mb ∧ b ≠ w.heap.size + 1 + 1) (w' := Y4.setCell ⟨mb, 9, none⟩ (.slice a6 c'.length d6)) fun b hb hQ => ⟨set_else hQ.1, hQ⟩)
    clear hS hM hM5
    go_simp
    refine hK.out _ _ ?_
    clear hK K hz9 hg9
    generalize Y4.setCell ⟨mb, 9, none⟩ (.slice a6 c'.length d6) = X2 at *
    have y0 := cell_at' HM5.out 0 rfl
    have y1 := cell_at' HM5.out 1 rfl
    have y2 := cell_at' HM5.out 2 rfl
    have y3 := cell_at' HM5.out 3 rfl
    have y4 := cell_at' HM5.out 4 rfl
    have y5 := cell_at' HM5.out 5 rfl
    have y6 := cell_at' HM5.out 6 rfl
    have y7 := cell_at' HM5.out 7 rfl
    have y8 := cell_at' HM5.out 8 rfl
    have y9 := cell_at' HM5.out 9 rfl
    have HBR := Lib.hid (HB.out c' HBY.out)
    go_wp2_with (go_at_call 64; go_loud (refine (bRight_any (fun b => b ≠ mb ∧ b ≠ w.heap.size + 1 + 1) es ks c' _ dc af la v0 v1 v2 v3 _ _ _ ⟨HTA5.out, HCX5.out.rd⟩ HBR.out.2).mono ?_); rintro e w3 ⟨rfl, hw3⟩; rw [tf_true HBR.out.1]; clear y0 y1 y2 y3 y4 y5 y6 y7 y8 y9; have hM6 := hw3.blk HM5.out id; have hR6 := (HTB.out w3 (HZ5.out.then1 hw3)).2.2.1; have y0 := cell_at' hM6 0 rfl; have z0 := cell_at' hR6 0 rfl; have g0 := free_at' hR6 0; have y1 := cell_at' hM6 1 rfl; have z1 := cell_at' hR6 1 rfl; have g1 := free_at' hR6 1; have y2 := cell_at' hM6 2 rfl; have z2 := cell_at' hR6 2 rfl; have g2 := free_at' hR6 2; have y3 := cell_at' hM6 3 rfl; have z3 := cell_at' hR6 3 rfl; have g3 := free_at' hR6 3; have y4 := cell_at' hM6 4 rfl; have z4 := cell_at' hR6 4 rfl; have g4 := free_at' hR6 4; have y5 := cell_at' hM6 5 rfl; have z5 := cell_at' hR6 5 rfl; have g5 := free_at' hR6 5; have y6 := cell_at' hM6 6 rfl; have z6 := cell_at' hR6 6 rfl; have g6 := free_at' hR6 6; have y7 := cell_at' hM6 7 rfl; have z7 := cell_at' hR6 7 rfl; have g7 := free_at' hR6 7; have y8 := cell_at' hM6 8 rfl; have z8 := cell_at' hR6 8 rfl; have g8 := free_at' hR6 8; have y9 := cell_at' hM6 9 rfl; have z9 := cell_at' hR6 9 rfl; have g9 := free_at' hR6 9; have HR6 := Lib.hid (res10 hR6 (HF5.out.then1 hw3) (by show w.heap.size ≤ _; omega) (.int .i64 dc) (.int .i64 af) (.int .i64 la) (.int .i64 v0) (.int .i64 v1) (.int .i64 v2) (.int .i64 v3) (.slice a3 es.length d3) (.slice a4 ks.len d4) (.slice a6 c'.length d6)); have HTA6 := Lib.hid ((HTA5.out.keep0 hw3).turn (Q' := fun _ => True) fun b hb hQ => ⟨HR6.out.2.2 b hQ.2, trivial⟩); have HCX6 := Lib.hid ((HCX5.out.keep (S := NoS) hw3 (fun _ _ h => h.elim)).turn (Q' := fun _ => True) fun b hb hQ => ⟨HR6.out.2.2 b hQ.2, trivial⟩); clear hw3 hM6 hR6)
    clear y0 z0 g0 y1 z1 g1 y2 z2 g2 y3 z3 g3 y4 z4 g4 y5 z5 g5 y6 z6 g6 y7 z7 g7 y8 z8 g8 y9 z9 g9
    generalize ((((((((((w3.setCell ⟨w.heap.size + 1 + 1, 0, none⟩ (.int .i64 dc)).setCell ⟨w.heap.size + 1 + 1, 1, none⟩ (.int .i64 af)).setCell ⟨w.heap.size + 1 + 1, 2, none⟩ (.int .i64 la)).setCell ⟨w.heap.size + 1 + 1, 3, none⟩ (.int .i64 v0)).setCell ⟨w.heap.size + 1 + 1, 4, none⟩ (.int .i64 v1)).setCell ⟨w.heap.size + 1 + 1, 5, none⟩ (.int .i64 v2)).setCell ⟨w.heap.size + 1 + 1, 6, none⟩ (.int .i64 v3)).setCell ⟨w.heap.size + 1 + 1, 7, none⟩ (.slice a3 es.length d3)).setCell ⟨w.heap.size + 1 + 1, 8, none⟩ (.slice a4 ks.len d4)).setCell ⟨w.heap.size + 1 + 1, 9, none⟩ (.slice a6 c'.length d6)) = X3 at *
    have y0 := cell_at' HR6.out.1 0 rfl
    have y1 := cell_at' HR6.out.1 1 rfl
    have y2 := cell_at' HR6.out.1 2 rfl
    have y3 := cell_at' HR6.out.1 3 rfl
    have y4 := cell_at' HR6.out.1 4 rfl
    have y5 := cell_at' HR6.out.1 5 rfl
    have y6 := cell_at' HR6.out.1 6 rfl
    have y7 := cell_at' HR6.out.1 7 rfl
    have y8 := cell_at' HR6.out.1 8 rfl
    have y9 := cell_at' HR6.out.1 9 rfl
    exact bodyPost_ret (v := .tuple #[.agg #[.int .i64 dc, .int .i64 af, .int .i64 la, .int .i64 v0, .int .i64 v1, .int .i64 v2, .int .i64 v3, .slice a3 es.length d3, .slice a4 ks.len d4, .slice a6 c'.length d6], .int .i64 0]) (by simp [results, Tryz.results62, go_sem, y0, y1, y2, y3, y4, y5, y6, y7, y8, y9]) rfl ⟨_, _, _, c', rfl, ⟨HTA6.out, HCX6.out.rd⟩, HBY.out, HR6.out.2.1⟩
  · go_simp
    have hf : Frm NoS Y (Y.alloc (.cells #[.int .i64 0, .int .i64 0, .int .i64 0, .int .i64 0, .int .i64 0, .int .i64 0, .int .i64 0, .slice none 0 0, .slice none 0 0, .slice none 0 0] 52)) := Frm.alloc _ _ _
    have hM := heap_alloc_new Y (.cells #[.int .i64 0, .int .i64 0, .int .i64 0, .int .i64 0, .int .i64 0, .int .i64 0, .int .i64 0, .slice none 0 0, .slice none 0 0, .slice none 0 0] 52)
    have hS : (Y.alloc (.cells #[.int .i64 0, .int .i64 0, .int .i64 0, .int .i64 0, .int .i64 0, .int .i64 0, .int .i64 0, .slice none 0 0, .slice none 0 0, .slice none 0 0] 52)).cell? ⟨w.heap.size, 0, none⟩ = some (.int .i64 v0) ∧ (Y.alloc (.cells #[.int .i64 0, .int .i64 0, .int .i64 0, .int .i64 0, .int .i64 0, .int .i64 0, .int .i64 0, .slice none 0 0, .slice none 0 0, .slice none 0 0] 52)).cell? ⟨w.heap.size, 1, none⟩ = some (.int .i64 v1) ∧ (Y.alloc (.cells #[.int .i64 0, .int .i64 0, .int .i64 0, .int .i64 0, .int .i64 0, .int .i64 0, .int .i64 0, .slice none 0 0, .slice none 0 0, .slice none 0 0] 52)).cell? ⟨w.heap.size, 2, none⟩ = some (.int .i64 v2) ∧ (Y.alloc (.cells #[.int .i64 0, .int .i64 0, .int .i64 0, .int .i64 0, .int .i64 0, .int .i64 0, .int .i64 0, .slice none 0 0, .slice none 0 0, .slice none 0 0] 52)).cell? ⟨w.heap.size, 3, none⟩ = some (.int .i64 v3) ∧ (Y.alloc (.cells #[.int .i64 0, .int .i64 0, .int .i64 0, .int .i64 0, .int .i64 0, .int .i64 0, .int .i64 0, .slice none 0 0, .slice none 0 0, .slice none 0 0] 52)).cell? ⟨w.heap.size + 1, 0, none⟩ = some (.slice a0 es.length c0) ∧ (Y.alloc (.cells #[.int .i64 0, .int .i64 0, .int .i64 0, .int .i64 0, .int .i64 0, .int .i64 0, .int .i64 0, .slice none 0 0, .slice none 0 0, .slice none 0 0] 52)).cell? ⟨w.heap.size + 1, 1, none⟩ = some (.slice a1 ks.len c1) ∧ (Y.alloc (.cells #[.int .i64 0, .int .i64 0, .int .i64 0, .int .i64 0, .int .i64 0, .int .i64 0, .int .i64 0, .slice none 0 0, .slice none 0 0, .slice none 0 0] 52)).cell? ⟨w.heap.size + 1, 2, none⟩ = some (.slice a2 c.length c2) := ⟨hf.cell' hS.1 id, hf.cell' hS.2.1 id, hf.cell' hS.2.2.1 id, hf.cell' hS.2.2.2.1 id, hf.cell' hS.2.2.2.2.1 id, hf.cell' hS.2.2.2.2.2.1 id, hf.cell' hS.2.2.2.2.2.2 id⟩
    have hW0 := hW0.then1 hf
    have hFY := hFY.then1 hf
    have hsa : (Y.alloc (.cells #[.int .i64 0, .int .i64 0, .int .i64 0, .int .i64 0, .int .i64 0, .int .i64 0, .int .i64 0, .slice none 0 0, .slice none 0 0, .slice none 0 0] 52)).heap.size = Y.heap.size + 1 := by simp
    obtain ⟨mb, hmb⟩ : ∃ mb, Y.heap.size = mb := ⟨_, rfl⟩
    have hrm : w.heap.size + 1 + 1 < mb := by omega
    (try have hTA : TreeAt (fun b => b ≠ mb ∧ b ≠ w.heap.size + 1 + 1) (Y.alloc (.cells #[.int .i64 0, .int .i64 0, .int .i64 0, .int .i64 0, .int .i64 0, .int .i64 0, .int .i64 0, .slice none 0 0, .slice none 0 0, .slice none 0 0] 52)) (.slice a3 es.length d3) (.slice a4 ks.len d4) es ks := hta.turn fun b hb hQ => ⟨Below.heap_alloc _ _ _ hb, by omega, by omega⟩)
    (try have hCX : RdQ (fun b => b ≠ mb ∧ b ≠ w.heap.size + 1 + 1) (Y.alloc (.cells #[.int .i64 0, .int .i64 0, .int .i64 0, .int .i64 0, .int .i64 0, .int .i64 0, .int .i64 0, .slice none 0 0, .slice none 0 0, .slice none 0 0] 52)) (.slice a5 c.length d5) c.length (spC c) := hoc.rdq.turn fun b hb hQ => ⟨Below.heap_alloc _ _ _ hb, by omega, by omega⟩)
    have hml : mb < (Y.alloc (.cells #[.int .i64 0, .int .i64 0, .int .i64 0, .int .i64 0, .int .i64 0, .int .i64 0, .int .i64 0, .slice none 0 0, .slice none 0 0, .slice none 0 0] 52)).heap.size := by omega
    have hr : w.heap.size + 1 + 1 < (Y.alloc (.cells #[.int .i64 0, .int .i64 0, .int .i64 0, .int .i64 0, .int .i64 0, .int .i64 0, .int .i64 0, .slice none 0 0, .slice none 0 0, .slice none 0 0] 52)).heap.size := by omega
    rw [hmb] at hM ⊢
    clear hsa hmb
    refine hK.out _ _ hS ?_
    clear hK K hf
    generalize Y.alloc (.cells #[.int .i64 0, .int .i64 0, .int .i64 0, .int .i64 0, .int .i64 0, .int .i64 0, .int .i64 0, .slice none 0 0, .slice none 0 0, .slice none 0 0] 52) = Y at *
    try simp only [Act.put, List.setIfInBounds_toArray, List.set_cons_zero, List.set_cons_succ]
    refine one_opG (i := 5) (by kernel_rfl) rfl (fun K hK => ?_)
    go_simp
    refine (HCC.out _ hFY).mono ?_
    rintro e Y1 ⟨ev3, kv3, cv3, rfl, hta, hoc⟩
    obtain ⟨a3, d3, rfl⟩ := hta.ents.rd.sl
    obtain ⟨os3, hkr3, -⟩ := hta.kids
    obtain ⟨a4, d4, rfl⟩ := hkr3.rd.sl
    clear hkr3
    obtain ⟨a5, d5, rfl⟩ := hoc.shape
    have hf := hoc.frm
    have hszY : Y.heap.size ≤ Y1.heap.size := hf.size
    have hS : Y1.cell? ⟨w.heap.size, 0, none⟩ = some (.int .i64 v0) ∧ Y1.cell? ⟨w.heap.size, 1, none⟩ = some (.int .i64 v1) ∧ Y1.cell? ⟨w.heap.size, 2, none⟩ = some (.int .i64 v2) ∧ Y1.cell? ⟨w.heap.size, 3, none⟩ = some (.int .i64 v3) ∧ Y1.cell? ⟨w.heap.size + 1, 0, none⟩ = some (.slice a0 es.length c0) ∧ Y1.cell? ⟨w.heap.size + 1, 1, none⟩ = some (.slice a1 ks.len c1) ∧ Y1.cell? ⟨w.heap.size + 1, 2, none⟩ = some (.slice a2 c.length c2) := ⟨hf.cell' hS.1 id, hf.cell' hS.2.1 id, hf.cell' hS.2.2.1 id, hf.cell' hS.2.2.2.1 id, hf.cell' hS.2.2.2.2.1 id, hf.cell' hS.2.2.2.2.2.1 id, hf.cell' hS.2.2.2.2.2.2 id⟩
    have hW0 := hW0.then1 hf
    have hFY := hFY.then1 hf
    have hr0 := hr
    have hr : w.heap.size + 1 + 1 < Y1.heap.size := by omega
    (try have hM := hf.blk hM id)
    (try have hTA : TreeAt (fun b => b ≠ mb ∧ b ≠ w.heap.size + 1 + 1) Y1 (.slice a3 es.length d3) (.slice a4 ks.len d4) es ks := hta.turn fun b hb hQ => ⟨rfl, by omega, by omega⟩)
    (try have hCX : RdQ (fun b => b ≠ mb ∧ b ≠ w.heap.size + 1 + 1) Y1 (.slice a5 c.length d5) c.length (spC c) := hoc.rdq.turn fun b hb hQ => ⟨rfl, by omega, by omega⟩)
    refine hK.out _ _ hS ?_
    clear hK K hf
    generalize Y1 = Y at *
    try simp only [Act.put, List.setIfInBounds_toArray, List.set_cons_zero, List.set_cons_succ]
    refine take_opG 6 19 (v := ?_) rfl rfl (by kernel_rfl) (by kernel_rfl) (by decide) (by kernel_rfl) (by kernel_rfl) (fun _ _ _ h => h) (Or.inl ⟨by rfl, ?_⟩) (by assumption) ?_
    rotate_left 1
    · (intro w hSw; (try dsimp only at hSw); go_simp; (try with_reducible rfl))
    try simp only [Act.put, List.setIfInBounds_toArray, List.set_cons_zero, List.set_cons_succ]
    refine last_opG (by kernel_rfl) (by kernel_rfl) rfl (fun K hK => ?_)
    have HR := Lib.hid (res10 hM hFY (by omega) (.int .i64 dc) (.int .i64 af) (.int .i64 la) (.int .i64 v0) (.int .i64 v1) (.int .i64 v2) (.int .i64 v3) (.slice a3 es.length d3) (.slice a4 ks.len d4) (.slice a5 c.length d5))
    have z0 := cell_at' hM 0 rfl
    have g0 := free_at' hM 0
    have z1 := cell_at' hM 1 rfl
    have g1 := free_at' hM 1
    have z2 := cell_at' hM 2 rfl
    have g2 := free_at' hM 2
    have z3 := cell_at' hM 3 rfl
    have g3 := free_at' hM 3
    have z4 := cell_at' hM 4 rfl
    have g4 := free_at' hM 4
    have z5 := cell_at' hM 5 rfl
    have g5 := free_at' hM 5
    have z6 := cell_at' hM 6 rfl
    have g6 := free_at' hM 6
    have z7 := cell_at' hM 7 rfl
    have g7 := free_at' hM 7
    have z8 := cell_at' hM 8 rfl
    have g8 := free_at' hM 8
    have z9 := cell_at' hM 9 rfl
    have g9 := free_at' hM 9
    have HTA := Lib.hid (hTA.turn (Q' := fun b => b ≠ mb ∧ b ≠ w.heap.size + 1 + 1) fun b hb hQ => ⟨HR.out.2.2 b hQ.1, hQ⟩)
    have HCX := Lib.hid (hCX.turn (Q' := fun b => b ≠ mb ∧ b ≠ w.heap.size + 1 + 1) fun b hb hQ => ⟨HR.out.2.2 b hQ.1, hQ⟩)
    have hz0 : Z0.heap.size ≤ mb := by rw [← HY0.out]; simp; omega
    have HW0 := Lib.hid (res10 hM hW0 hz0 (.int .i64 dc) (.int .i64 af) (.int .i64 la) (.int .i64 v0) (.int .i64 v1) (.int .i64 v2) (.int .i64 v3) (.slice a3 es.length d3) (.slice a4 ks.len d4) (.slice a5 c.length d5)).2.1
    have HZM := Lib.hid hz0
    have HRM := Lib.hid hrm
    clear hS hM hTA hCX hW0 hFY hr hz0 hrm
    (try clear hr0)
    (try clear hszY)
    clear hta hoc
    go_simp
    refine hK.out _ _ ?_
    clear hK K z0 g0 z1 g1 z2 g2 z3 g3 z4 g4 z5 g5 z6 g6 z7 g7 z8 g8 z9 g9
    generalize ((((((((((Y.setCell ⟨mb, 0, none⟩ (.int .i64 dc)).setCell ⟨mb, 1, none⟩ (.int .i64 af)).setCell ⟨mb, 2, none⟩ (.int .i64 la)).setCell ⟨mb, 3, none⟩ (.int .i64 v0)).setCell ⟨mb, 4, none⟩ (.int .i64 v1)).setCell ⟨mb, 5, none⟩ (.int .i64 v2)).setCell ⟨mb, 6, none⟩ (.int .i64 v3)).setCell ⟨mb, 7, none⟩ (.slice a3 es.length d3)).setCell ⟨mb, 8, none⟩ (.slice a4 ks.len d4)).setCell ⟨mb, 9, none⟩ (.slice a5 c.length d5)) = X at *
    obtain ⟨hXM, hXF, -⟩ := HR.out
    have HXM := Lib.hid hXM
    have HXF := Lib.hid hXF
    have y0 := cell_at' hXM 0 rfl
    have y1 := cell_at' hXM 1 rfl
    have y2 := cell_at' hXM 2 rfl
    have y3 := cell_at' hXM 3 rfl
    have y4 := cell_at' hXM 4 rfl
    have y5 := cell_at' hXM 5 rfl
    have y6 := cell_at' hXM 6 rfl
    have y7 := cell_at' hXM 7 rfl
    have y8 := cell_at' hXM 8 rfl
    have y9 := cell_at' hXM 9 rfl
    clear hXM hXF HR
    go_wp2_with (first
      | (go_at_call 110; go_loud (refine (HNM.out _ _ _ _ _ _ _ _ _ _).mono ?_); rintro e w1 ⟨rfl, hw1⟩; obtain ⟨-, -, -, -, b0, b1, b2⟩ := HS0.out w1 (HW0.out.then1 hw1); have HW1 := Lib.hid hw1; clear hw1)
      | (go_at_call 52; go_loud (refine (HCR.out _ (HXF.out.then1 HW1.out)).mono ?_); rintro e w2 ⟨rfl, hw2⟩; have HW2 := Lib.hid (HW1.out.then1 hw2); clear hw2))
    clear b0 b1 b2 y0 y1 y2 y3 y4 y5 y6 y7 y8 y9
    have hfx := HW2.out.then1 (Frm.drew NoS w2)
    have hM := hfx.blk HXM.out id
    refine wp_region_G (S := fun w' => w'.cell? ⟨mb, 0, none⟩ = some (.int .i64 dc) ∧ w'.cell? ⟨mb, 1, none⟩ = some (.int .i64 af) ∧ w'.cell? ⟨mb, 2, none⟩ = some (.int .i64 la) ∧ w'.cell? ⟨mb, 3, none⟩ = some (.int .i64 v0) ∧ w'.cell? ⟨mb, 4, none⟩ = some (.int .i64 v1) ∧ w'.cell? ⟨mb, 5, none⟩ = some (.int .i64 v2) ∧ w'.cell? ⟨mb, 6, none⟩ = some (.int .i64 v3) ∧ w'.cell? ⟨mb, 7, none⟩ = some (.slice a3 es.length d3) ∧ w'.cell? ⟨mb, 8, none⟩ = some (.slice a4 ks.len d4) ∧ w'.cell? ⟨mb, 9, none⟩ = some (.slice a5 c.length d5)) 8 (by kernel_rfl) ⟨cell_at' hM 0 rfl, cell_at' hM 1 rfl, cell_at' hM 2 rfl, cell_at' hM 3 rfl, cell_at' hM 4 rfl, cell_at' hM 5 rfl, cell_at' hM 6 rfl, cell_at' hM 7 rfl, cell_at' hM 8 rfl, cell_at' hM 9 rfl⟩ ?_
    intro hS
    have HTA2 := Lib.hid (HTA.out.keep0 hfx)
    have HCX2 := Lib.hid (HCX.out.rd.keep0 hfx)
    have HF2 := Lib.hid (HXF.out.then1 hfx)
    have HZ2 := Lib.hid (HW0.out.then1 hfx)
    have HM2 := Lib.hid hM
    clear hM hfx
    generalize w2.drew = Y2 at *
    refine take_opW 0 29 (v := ?_) rfl rfl (by kernel_rfl) (by kernel_rfl) (by kernel_rfl) (by kernel_rfl) (fun _ _ _ h => h) (Or.inl ⟨by rfl, ?_⟩) (by assumption) ?_
    rotate_left 1
    · (intro w hSw; (try dsimp only at hSw); go_simp; (try with_reducible rfl))
    try simp only [Act.put, List.setIfInBounds_toArray, List.set_cons_zero, List.set_cons_succ]
    refine take_opW 1 30 (v := ?_) rfl rfl (by kernel_rfl) (by kernel_rfl) (by kernel_rfl) (by kernel_rfl) (fun _ _ _ h => h) (Or.inl ⟨by rfl, ?_⟩) (by assumption) ?_
    rotate_left 1
    · (intro w hSw; (try dsimp only at hSw); go_simp; (try with_reducible rfl))
    try simp only [Act.put, List.setIfInBounds_toArray, List.set_cons_zero, List.set_cons_succ]
    refine take_opW 2 31 (v := ?_) rfl rfl (by kernel_rfl) (by kernel_rfl) (by kernel_rfl) (by kernel_rfl) (fun _ _ _ h => h) (Or.inl ⟨by rfl, ?_⟩) (by assumption) ?_
    rotate_left 1
    · (intro w hSw; (try dsimp only at hSw); go_simp; (try with_reducible rfl))
    try simp only [Act.put, List.setIfInBounds_toArray, List.set_cons_zero, List.set_cons_succ]
    refine take_opW 3 32 (v := ?_) rfl rfl (by kernel_rfl) (by kernel_rfl) (by kernel_rfl) (by kernel_rfl) (fun _ _ _ h => h) (Or.inl ⟨by rfl, ?_⟩) (by assumption) ?_
    rotate_left 1
    · (intro w hSw; (try dsimp only at hSw); go_simp; (try with_reducible rfl))
    try simp only [Act.put, List.setIfInBounds_toArray, List.set_cons_zero, List.set_cons_succ]
    refine one_opG (i := 4) (by kernel_rfl) rfl (fun K hK => ?_)
    go_simp
    refine (HOW.out _ _ _ _ _ _ _ _ _ _).mono ?_
    rintro e Y3 ⟨v3', rfl, hc3, hf3⟩
    obtain ⟨b3a, b3c, rfl⟩ : ∃ a c, v3' = .slice a 1 c := Rd.sl hc3
    have hS : Y3.cell? ⟨mb, 0, none⟩ = some (.int .i64 dc) ∧ Y3.cell? ⟨mb, 1, none⟩ = some (.int .i64 af) ∧ Y3.cell? ⟨mb, 2, none⟩ = some (.int .i64 la) ∧ Y3.cell? ⟨mb, 3, none⟩ = some (.int .i64 v0) ∧ Y3.cell? ⟨mb, 4, none⟩ = some (.int .i64 v1) ∧ Y3.cell? ⟨mb, 5, none⟩ = some (.int .i64 v2) ∧ Y3.cell? ⟨mb, 6, none⟩ = some (.int .i64 v3) ∧ Y3.cell? ⟨mb, 7, none⟩ = some (.slice a3 es.length d3) ∧ Y3.cell? ⟨mb, 8, none⟩ = some (.slice a4 ks.len d4) ∧ Y3.cell? ⟨mb, 9, none⟩ = some (.slice a5 c.length d5) := ⟨hf3.cell' hS.1 id, hf3.cell' hS.2.1 id, hf3.cell' hS.2.2.1 id, hf3.cell' hS.2.2.2.1 id, hf3.cell' hS.2.2.2.2.1 id, hf3.cell' hS.2.2.2.2.2.1 id, hf3.cell' hS.2.2.2.2.2.2.1 id, hf3.cell' hS.2.2.2.2.2.2.2.1 id, hf3.cell' hS.2.2.2.2.2.2.2.2.1 id, hf3.cell' hS.2.2.2.2.2.2.2.2.2 id⟩
    refine hK.out _ _ hS ?_
    clear hK K
    have HTA3 := Lib.hid (HTA2.out.keep0 hf3)
    have HCX3 := Lib.hid (HCX2.out.keep0 hf3)
    have HF3 := Lib.hid (HF2.out.then1 hf3)
    have HZ3 := Lib.hid (HZ2.out.then1 hf3)
    have HM3 := Lib.hid (hf3.blk HM2.out id)
    have HC3 := Lib.hid hc3
    clear hf3 hc3
    try simp only [Act.put, List.setIfInBounds_toArray, List.set_cons_zero, List.set_cons_succ]
    refine one_opG (i := 5) (by kernel_rfl) rfl (fun K hK => ?_)
    go_simp
    refine (cUnion_ok _ _ _ c [(dc, af + 1, la)] HCX3.out HC3.out HOK.out.fits HN.out.own_right.fits HC.out.ctx HN.out.own_right (by have := HOK.out.len; omega) (by simp)).mono ?_
    rintro e Y4 ⟨v4', c', rfl, ho4, hby, -⟩
    obtain ⟨a6, d6, rfl⟩ := ho4.shape
    have hf4 := ho4.frm
    have hS : Y4.cell? ⟨mb, 0, none⟩ = some (.int .i64 dc) ∧ Y4.cell? ⟨mb, 1, none⟩ = some (.int .i64 af) ∧ Y4.cell? ⟨mb, 2, none⟩ = some (.int .i64 la) ∧ Y4.cell? ⟨mb, 3, none⟩ = some (.int .i64 v0) ∧ Y4.cell? ⟨mb, 4, none⟩ = some (.int .i64 v1) ∧ Y4.cell? ⟨mb, 5, none⟩ = some (.int .i64 v2) ∧ Y4.cell? ⟨mb, 6, none⟩ = some (.int .i64 v3) ∧ Y4.cell? ⟨mb, 7, none⟩ = some (.slice a3 es.length d3) ∧ Y4.cell? ⟨mb, 8, none⟩ = some (.slice a4 ks.len d4) ∧ Y4.cell? ⟨mb, 9, none⟩ = some (.slice a5 c.length d5) := ⟨hf4.cell' hS.1 id, hf4.cell' hS.2.1 id, hf4.cell' hS.2.2.1 id, hf4.cell' hS.2.2.2.1 id, hf4.cell' hS.2.2.2.2.1 id, hf4.cell' hS.2.2.2.2.2.1 id, hf4.cell' hS.2.2.2.2.2.2.1 id, hf4.cell' hS.2.2.2.2.2.2.2.1 id, hf4.cell' hS.2.2.2.2.2.2.2.2.1 id, hf4.cell' hS.2.2.2.2.2.2.2.2.2 id⟩
    refine hK.out _ _ hS ?_
    clear hK K
    have HTA4 := Lib.hid (HTA3.out.keep0 hf4)
    have HF4 := Lib.hid (HF3.out.then1 hf4)
    have HZ4 := Lib.hid (HZ3.out.then1 hf4)
    have HM4 := Lib.hid (hf4.blk HM3.out id)
    have hm3 := lt_of_block HM3.out
    have hrm := HRM.out
    have HCX4 := Lib.hid (ho4.rdq.turn (Q' := fun b => b ≠ mb ∧ b ≠ w.heap.size + 1 + 1) fun b hb hQ => ⟨rfl, by omega, by omega⟩)
    have HBY := Lib.hid hby
    clear hf4 ho4 hby hm3 hrm
    try simp only [Act.put, List.setIfInBounds_toArray, List.set_cons_zero, List.set_cons_succ]
    refine one_opG (i := 6) (by kernel_rfl) rfl (fun K hK => ?_)
    go_simp
    refine hK.out _ _ hS ?_
    clear hK K
    try simp only [Act.put, List.setIfInBounds_toArray, List.set_cons_zero, List.set_cons_succ]
    refine take_opW 7 36 (v := ?_) rfl rfl (by kernel_rfl) (by kernel_rfl) (by kernel_rfl) (by kernel_rfl) (fun _ _ _ h => h) (Or.inl ⟨by rfl, ?_⟩) (by assumption) ?_
    rotate_left 1
    · (intro w hSw; (try dsimp only at hSw); go_simp; (try with_reducible rfl))
    try simp only [Act.put, List.setIfInBounds_toArray, List.set_cons_zero, List.set_cons_succ]
    refine last_opG (by kernel_rfl) (by kernel_rfl) rfl (fun K hK => ?_)
    have hM := HM4.out
    have hz9 := cell_at' hM 9 rfl
    have hg9 := free_at' hM 9
    have hM5 : (Y4.setCell ⟨mb, 9, none⟩ (.slice a6 c'.length d6)).heap[mb]? = some (.cells #[.int .i64 dc, .int .i64 af, .int .i64 la, .int .i64 v0, .int .i64 v1, .int .i64 v2, .int .i64 v3, .slice a3 es.length d3, .slice a4 ks.len d4, .slice a6 c'.length d6] 52 (0, 0)) := set_at' hM 9 _
    have HM5 := Lib.hid hM5
    have HF5 := Lib.hid (HF4.out.set1 (p := ⟨mb, 9, none⟩) (u := .slice a6 c'.length d6) (.inr (by have := HRM.out; show w.heap.size ≤ mb; omega)))
    have HZ5 := Lib.hid (HZ4.out.set1 (p := ⟨mb, 9, none⟩) (u := .slice a6 c'.length d6) (.inr HZM.out))
    have HTA5 := Lib.hid (HTA4.out.turn (Q' := fun b => b ≠ mb ∧ b ≠ w.heap.size + 1 + 1) (w' := Y4.setCell ⟨mb, 9, none⟩ (.slice a6 c'.length d6)) fun b hb hQ => ⟨set_else hQ.1, hQ⟩)
    have HCX5 := Lib.hid (HCX4.out.turn (Q' := fun b => b ≠ mb ∧ b ≠ w.heap.size + 1 + 1) (w' := Y4.setCell ⟨mb, 9, none⟩ (.slice a6 c'.length d6)) fun b hb hQ => ⟨set_else hQ.1, hQ⟩)
    clear hS hM hM5
    go_simp
    refine hK.out _ _ ?_
    clear hK K hz9 hg9
    generalize Y4.setCell ⟨mb, 9, none⟩ (.slice a6 c'.length d6) = X2 at *
    have y0 := cell_at' HM5.out 0 rfl
    have y1 := cell_at' HM5.out 1 rfl
    have y2 := cell_at' HM5.out 2 rfl
    have y3 := cell_at' HM5.out 3 rfl
    have y4 := cell_at' HM5.out 4 rfl
    have y5 := cell_at' HM5.out 5 rfl
    have y6 := cell_at' HM5.out 6 rfl
    have y7 := cell_at' HM5.out 7 rfl
    have y8 := cell_at' HM5.out 8 rfl
    have y9 := cell_at' HM5.out 9 rfl
    have HBR := Lib.hid (HB.out c' HBY.out)
    go_wp2_with (go_at_call 64; go_loud (refine (bRight_any (fun b => b ≠ mb ∧ b ≠ w.heap.size + 1 + 1) es ks c' _ dc af la v0 v1 v2 v3 _ _ _ ⟨HTA5.out, HCX5.out.rd⟩ HBR.out.2).mono ?_); rintro e w3 ⟨rfl, hw3⟩; rw [tf_true HBR.out.1]; clear y0 y1 y2 y3 y4 y5 y6 y7 y8 y9; have hM6 := hw3.blk HM5.out id; have hR6 := (HTB.out w3 (HZ5.out.then1 hw3)).2.2.1; have y0 := cell_at' hM6 0 rfl; have z0 := cell_at' hR6 0 rfl; have g0 := free_at' hR6 0; have y1 := cell_at' hM6 1 rfl; have z1 := cell_at' hR6 1 rfl; have g1 := free_at' hR6 1; have y2 := cell_at' hM6 2 rfl; have z2 := cell_at' hR6 2 rfl; have g2 := free_at' hR6 2; have y3 := cell_at' hM6 3 rfl; have z3 := cell_at' hR6 3 rfl; have g3 := free_at' hR6 3; have y4 := cell_at' hM6 4 rfl; have z4 := cell_at' hR6 4 rfl; have g4 := free_at' hR6 4; have y5 := cell_at' hM6 5 rfl; have z5 := cell_at' hR6 5 rfl; have g5 := free_at' hR6 5; have y6 := cell_at' hM6 6 rfl; have z6 := cell_at' hR6 6 rfl; have g6 := free_at' hR6 6; have y7 := cell_at' hM6 7 rfl; have z7 := cell_at' hR6 7 rfl; have g7 := free_at' hR6 7; have y8 := cell_at' hM6 8 rfl; have z8 := cell_at' hR6 8 rfl; have g8 := free_at' hR6 8; have y9 := cell_at' hM6 9 rfl; have z9 := cell_at' hR6 9 rfl; have g9 := free_at' hR6 9; have HR6 := Lib.hid (res10 hR6 (HF5.out.then1 hw3) (by show w.heap.size ≤ _; omega) (.int .i64 dc) (.int .i64 af) (.int .i64 la) (.int .i64 v0) (.int .i64 v1) (.int .i64 v2) (.int .i64 v3) (.slice a3 es.length d3) (.slice a4 ks.len d4) (.slice a6 c'.length d6)); have HTA6 := Lib.hid ((HTA5.out.keep0 hw3).turn (Q' := fun _ => True) fun b hb hQ => ⟨HR6.out.2.2 b hQ.2, trivial⟩); have HCX6 := Lib.hid ((HCX5.out.keep (S := NoS) hw3 (fun _ _ h => h.elim)).turn (Q' := fun _ => True) fun b hb hQ => ⟨HR6.out.2.2 b hQ.2, trivial⟩); clear hw3 hM6 hR6)
    clear y0 z0 g0 y1 z1 g1 y2 z2 g2 y3 z3 g3 y4 z4 g4 y5 z5 g5 y6 z6 g6 y7 z7 g7 y8 z8 g8 y9 z9 g9
    generalize ((((((((((w3.setCell ⟨w.heap.size + 1 + 1, 0, none⟩ (.int .i64 dc)).setCell ⟨w.heap.size + 1 + 1, 1, none⟩ (.int .i64 af)).setCell ⟨w.heap.size + 1 + 1, 2, none⟩ (.int .i64 la)).setCell ⟨w.heap.size + 1 + 1, 3, none⟩ (.int .i64 v0)).setCell ⟨w.heap.size + 1 + 1, 4, none⟩ (.int .i64 v1)).setCell ⟨w.heap.size + 1 + 1, 5, none⟩ (.int .i64 v2)).setCell ⟨w.heap.size + 1 + 1, 6, none⟩ (.int .i64 v3)).setCell ⟨w.heap.size + 1 + 1, 7, none⟩ (.slice a3 es.length d3)).setCell ⟨w.heap.size + 1 + 1, 8, none⟩ (.slice a4 ks.len d4)).setCell ⟨w.heap.size + 1 + 1, 9, none⟩ (.slice a6 c'.length d6)) = X3 at *
    have y0 := cell_at' HR6.out.1 0 rfl
    have y1 := cell_at' HR6.out.1 1 rfl
    have y2 := cell_at' HR6.out.1 2 rfl
    have y3 := cell_at' HR6.out.1 3 rfl
    have y4 := cell_at' HR6.out.1 4 rfl
    have y5 := cell_at' HR6.out.1 5 rfl
    have y6 := cell_at' HR6.out.1 6 rfl
    have y7 := cell_at' HR6.out.1 7 rfl
    have y8 := cell_at' HR6.out.1 8 rfl
    have y9 := cell_at' HR6.out.1 9 rfl
    exact bodyPost_ret (v := .tuple #[.agg #[.int .i64 dc, .int .i64 af, .int .i64 la, .int .i64 v0, .int .i64 v1, .int .i64 v2, .int .i64 v3, .slice a3 es.length d3, .slice a4 ks.len d4, .slice a6 c'.length d6], .int .i64 0]) (by simp [results, Tryz.results62, go_sem, y0, y1, y2, y3, y4, y5, y6, y7, y8, y9]) rfl ⟨_, _, _, c', rfl, ⟨HTA6.out, HCX6.out.rd⟩, HBY.out, HR6.out.2.1⟩
end Go.Proofs.YtafdclkpeomomaaGreat
