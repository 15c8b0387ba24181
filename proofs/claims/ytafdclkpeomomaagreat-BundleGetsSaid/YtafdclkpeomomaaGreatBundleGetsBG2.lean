/- Words for the law BundleGets: BundleGets, Trod, OpenB. -/
import Derived.Test.YtafdclkpeomomaaGreatBundleGetsBG1
import Derived.Test.YtafdclkpeomomaaGreatBundleGetsG1
import Derived.Deep.Strs
import Derived.ChangeArms
import Derived.Test.YtafdclkpeomomaaGreatBundleGetsG6
set_option linter.unusedSimpArgs false
set_option linter.unusedVariables false
/- The law BundleGets: its walk. Printed by wip/bgetslaw.py. -/
namespace Go.Proofs.YtafdclkpeomomaaGreat
open Go.RowKit

theorem BunRes.ok {st s : Option (List UInt8)} {b : BunD} (h : BunRes st b s) (hl : (leftOf st).length ≤ 6000) : CauOk b.es b.ks b.c := by
  rcases h with ⟨r, rfl, hr, rfl⟩ | ⟨rfl, rfl, _⟩
  · have h1 := CauRes.make r (BunRight.cau hr)
    refine h1.ok ?_
    have hl : (b.enc ++ r).length ≤ 6000 := hl
    unfold BunD.enc encB at hl
    simp only [List.length_append] at hl
    show (encX b.es b.ks b.c ++ r).length ≤ 6000
    rw [List.length_append]; omega
  · exact nilOk
set_option maxHeartbeats 16000000 in
set_option maxRecDepth 1000000 in
theorem bundleGets_walk (w : World) (v : Value) (hv : ∃ bs : List UInt8, Rd w v bs.length (bV bs)) : Calls Tryz.prog 6 #[v] w fun e w' => e = .returned (.bool true) ∧ Frm (fun _ => False) w w' := by
  obtain ⟨bs, hb⟩ := hv
  have HA := Lib.hid awake22_any
  obtain ⟨a0, c0, rfl⟩ := rd_shape hb
  by_cases hlen : bs.length ≤ 1000
  rotate_left 1
  · have hl2 : ¬ (bs.length : Int) ≤ 1000 := by omega
    clear hb hlen
    generalize bs.length = n at *
    go_enter Tryz.func6, Tryz.ntmps6
    go_wp2_with (go_at_call 20; first | (refine (HA.out _).mono ?_; rintro e w20 ⟨rfl, hw20⟩; have HW20 := Lib.hid (HW1.out.then1 hw20); clear hw20) | (go_loud (refine (HA.out _).mono ?_); rintro e w1 ⟨rfl, hw1⟩; have HW1 := Lib.hid hw1; clear hw1))
    go_ret
    exact ⟨rfl, HW20.out⟩
  obtain ⟨b, s, hc⟩ := BunRes.total (some bs)
  have hok := hc.ok (show bs.length ≤ 6000 by omega)
  have HN := Lib.hid (fun W (f : Frm NoS w W) => newin (.slice a0 bs.length c0) bs W (hb.keep0 f) (by omega))
  have HGT := Lib.hid (fun ib W (hi : InSt W ib (some bs)) => bunGet_at ib (some bs) s b W hc hi (show bs.length ≤ 6000 by omega))
  have HTO := Lib.hid (fun W (f : Frm NoS w W) => r22To_at (w0 := w) (st := some bs) W ((rin_start hb).keep0 f) f.size hc (show bs.length ≤ 6000 by omega))
  unfold BunTk at HGT
  unfold ToBunPost at HTO
  have HSM0 := Lib.hid (fun W ev kv cv ev' kv' cv' (h : CauAt (fun _ => True) W ev kv cv b.es b.ks b.c) (h' : CauAt (fun _ => True) W ev' kv' cv' b.es b.ks b.c) => r22Same_any (fun _ => True) (fun _ => True) b.es b.ks b.c b.es b.ks b.c W b.dc b.af b.la b.v0 b.v1 b.v2 b.v3 b.dc b.af b.la b.v0 b.v1 b.v2 b.v3 _ _ _ _ _ _ h hok h' hok)
  have HLO := Lib.hid (fun ib W (h : InSt W ib s) => left_go ib s W h)
  have HBO := Lib.hid (fun ib W (h : InSt W ib s) => bad_go ib s W h)
  clear hb hc hok
  obtain ⟨dc, af, la, v0, v1, v2, v3, es, ks, c⟩ := b
  simp only at HGT HTO HSM0
  have hl2 : (bs.length : Int) ≤ 1000 := by omega
  generalize bs.length = nb at *
  generalize s.isNone = bd at *
  generalize (leftOf s).length = L at *
  have hSM : ∀ W ev kv cv ev' kv' cv', CauAt (fun _ => True) W ev kv cv es ks c → CauAt (fun _ => True) W ev' kv' cv' es ks c → Calls Tryz.prog 24 #[.agg #[.int .i64 dc, .int .i64 af, .int .i64 la, .int .i64 v0, .int .i64 v1, .int .i64 v2, .int .i64 v3, ev, kv, cv], .agg #[.int .i64 dc, .int .i64 af, .int .i64 la, .int .i64 v0, .int .i64 v1, .int .i64 v2, .int .i64 v3, ev', kv', cv']] W fun e w' => e = .returned (.bool true) ∧ Frm NoS W w' := fun W ev kv cv ev' kv' cv' h h' => (HSM0.out W ev kv cv ev' kv' cv' h h').mono fun e w' ⟨he, hf⟩ => ⟨by rw [he, tf_true ⟨rfl, rfl, rfl, ⟨rfl, rfl, rfl, rfl⟩, ⟨rfl, rfl⟩, rfl⟩], hf⟩
  have HSM := Lib.hid hSM; clear hSM HSM0
  go_enter Tryz.func6, Tryz.ntmps6
  go_wp2_with (first
    | (go_at_call 20; go_loud (refine (HA.out _).mono ?_); rintro e w1 ⟨rfl, hw1⟩; have HW1 := Lib.hid hw1; clear hw1)
    | (go_at_call 21; go_loud (refine (HN.out _ HW1.out).mono ?_); rintro e w2 ⟨ib, rfl, hi2, hib, hf2⟩; have HI2 := Lib.hid hi2; have HIB := Lib.hid (show w.heap.size ≤ ib from Nat.le_trans HW1.out.size hib); have HW2 := Lib.hid (show Frm NoS w w2 from HW1.out.then1 hf2); clear hi2 hib hf2)
    | (go_at_call 22; go_loud (refine (HGT.out _ _ HI2.out).mono ?_); rintro e w3 ⟨ev, kv, cv, rfl, hta, hrc, hi3, hf3⟩
       have hx3 : CauAt (fun _ => True) w3 ev kv cv es ks c := ⟨hta.turn fun b _ _ => ⟨rfl, trivial⟩, hrc.at_⟩
       obtain ⟨g0, g3, g1, g4, g2, g5, rfl, rfl, rfl⟩ := hx3.shape
       have HX3 := Lib.hid hx3
       have HI3 := Lib.hid hi3
       have HW3 := Lib.hid (show Frm NoS w w3 from HW2.out.trans hf3 fun i hi hs => by have hs : i = ib := hs; have := HIB.out; omega)
       have HB3 := Lib.hid (heap_alloc_new w3 (.cells #[.int .i64 dc, .int .i64 af, .int .i64 la, .int .i64 v0, .int .i64 v1, .int .i64 v2, .int .i64 v3, .slice g0 es.length g3, .slice g1 ks.len g4, .slice g2 c.length g5] 51))
       clear hx3 hta hrc hi3 hf3)
    | (go_at_call 23; go_loud (refine (HTO.out _ (HW3.out.alloc1)).mono ?_); rintro e w4 ⟨ev, kv, cv, a4, l4, rfl, hta, hrc, hr4, hf4⟩
       have hx4 : CauAt (fun _ => True) w4 ev kv cv es ks c := ⟨hta.turn fun b _ _ => ⟨rfl, trivial⟩, hrc.at_⟩
       obtain ⟨h0, h3, h1, h4, h2, h5, rfl, rfl, rfl⟩ := hx4.shape
       have HX4 := Lib.hid hx4
       have HX34 := Lib.hid ((HX3.out.keep0 (Frm.alloc NoS _ _)).keep0 hf4)
       have HI4 := Lib.hid ((HI3.out.keep (Frm.alloc NoS _ _) fun _ _ => id).keep hf4 fun _ _ => id)
       have HW4 := Lib.hid ((HW3.out.alloc1).then1 hf4)
       have HB4 := Lib.hid (hf4.blk HB3.out id)
       clear hx4 hta hrc hr4 hf4))
  generalize es.length = n at *
  generalize ks.len = m at *
  generalize c.length = k at *
  have hal : ∃ WA, WA = (w4.alloc (.cells #[.int .i64 dc, .int .i64 af, .int .i64 la, .int .i64 v0, .int .i64 v1, .int .i64 v2, .int .i64 v3, .slice h0 n h3, .slice h1 m h4, .slice h2 k h5] 51)).alloc (.cells #[.slice a4 L l4, .bool bd] 42) := ⟨_, rfl⟩
  obtain ⟨WA, hWA⟩ := hal
  have f45 : Frm NoS w4 WA := by rw [hWA]; exact (Frm.alloc NoS _ _).alloc1
  have b5 : WA.heap[w4.heap.size]? = some (.cells #[.int .i64 dc, .int .i64 af, .int .i64 la, .int .i64 v0, .int .i64 v1, .int .i64 v2, .int .i64 v3, .slice h0 n h3, .slice h1 m h4, .slice h2 k h5] 51 (0, 0)) := by rw [hWA]; exact (Frm.alloc NoS _ _).blk (heap_alloc_new w4 _) id
  have b6 : WA.heap[w4.heap.size + 1]? = some (.cells #[.slice a4 L l4, .bool bd] 42 (0, 0)) := by
    rw [hWA]
    have := heap_alloc_new (w4.alloc (.cells #[.int .i64 dc, .int .i64 af, .int .i64 la, .int .i64 v0, .int .i64 v1, .int .i64 v2, .int .i64 v3, .slice h0 n h3, .slice h1 m h4, .slice h2 k h5] 51)) (.cells #[.slice a4 L l4, .bool bd] 42)
    rw [show (w4.alloc (.cells #[.int .i64 dc, .int .i64 af, .int .i64 la, .int .i64 v0, .int .i64 v1, .int .i64 v2, .int .i64 v3, .slice h0 n h3, .slice h1 m h4, .slice h2 k h5] 51)).heap.size = w4.heap.size + 1 by simp] at this
    exact this
  have b4 := f45.blk HB4.out id
  rw [← hWA]
  clear hWA
  have HF5 := Lib.hid f45; clear f45
  have HB5 := Lib.hid b5; clear b5
  have HB6 := Lib.hid b6; clear b6
  have HB44 := Lib.hid b4; clear b4
  have HSS := Lib.hid (fun W (f : Frm NoS WA W) => (⟨f, ⟨cell_at' (f.blk HB44.out id) 0 rfl, cell_at' (f.blk HB44.out id) 1 rfl, cell_at' (f.blk HB44.out id) 2 rfl, cell_at' (f.blk HB44.out id) 3 rfl, cell_at' (f.blk HB44.out id) 4 rfl, cell_at' (f.blk HB44.out id) 5 rfl, cell_at' (f.blk HB44.out id) 6 rfl, cell_at' (f.blk HB44.out id) 7 rfl, cell_at' (f.blk HB44.out id) 8 rfl, cell_at' (f.blk HB44.out id) 9 rfl⟩, ⟨cell_at' (f.blk HB5.out id) 0 rfl, cell_at' (f.blk HB5.out id) 1 rfl, cell_at' (f.blk HB5.out id) 2 rfl, cell_at' (f.blk HB5.out id) 3 rfl, cell_at' (f.blk HB5.out id) 4 rfl, cell_at' (f.blk HB5.out id) 5 rfl, cell_at' (f.blk HB5.out id) 6 rfl, cell_at' (f.blk HB5.out id) 7 rfl, cell_at' (f.blk HB5.out id) 8 rfl, cell_at' (f.blk HB5.out id) 9 rfl⟩, cell_at' (f.blk HB6.out id) 0 rfl, cell_at' (f.blk HB6.out id) 1 rfl⟩ :
    Frm NoS WA W ∧ (W.cell? ⟨w3.heap.size, 0, none⟩ = some (.int .i64 dc) ∧ W.cell? ⟨w3.heap.size, 1, none⟩ = some (.int .i64 af) ∧ W.cell? ⟨w3.heap.size, 2, none⟩ = some (.int .i64 la) ∧ W.cell? ⟨w3.heap.size, 3, none⟩ = some (.int .i64 v0) ∧ W.cell? ⟨w3.heap.size, 4, none⟩ = some (.int .i64 v1) ∧ W.cell? ⟨w3.heap.size, 5, none⟩ = some (.int .i64 v2) ∧ W.cell? ⟨w3.heap.size, 6, none⟩ = some (.int .i64 v3) ∧ W.cell? ⟨w3.heap.size, 7, none⟩ = some (.slice g0 n g3) ∧ W.cell? ⟨w3.heap.size, 8, none⟩ = some (.slice g1 m g4) ∧ W.cell? ⟨w3.heap.size, 9, none⟩ = some (.slice g2 k g5)) ∧ (W.cell? ⟨w4.heap.size, 0, none⟩ = some (.int .i64 dc) ∧ W.cell? ⟨w4.heap.size, 1, none⟩ = some (.int .i64 af) ∧ W.cell? ⟨w4.heap.size, 2, none⟩ = some (.int .i64 la) ∧ W.cell? ⟨w4.heap.size, 3, none⟩ = some (.int .i64 v0) ∧ W.cell? ⟨w4.heap.size, 4, none⟩ = some (.int .i64 v1) ∧ W.cell? ⟨w4.heap.size, 5, none⟩ = some (.int .i64 v2) ∧ W.cell? ⟨w4.heap.size, 6, none⟩ = some (.int .i64 v3) ∧ W.cell? ⟨w4.heap.size, 7, none⟩ = some (.slice h0 n h3) ∧ W.cell? ⟨w4.heap.size, 8, none⟩ = some (.slice h1 m h4) ∧ W.cell? ⟨w4.heap.size, 9, none⟩ = some (.slice h2 k h5)) ∧ W.cell? ⟨w4.heap.size + 1, 0, none⟩ = some (.slice a4 L l4) ∧ W.cell? ⟨w4.heap.size + 1, 1, none⟩ = some (.bool bd)))
  refine wp_region_G (S := fun W => Frm NoS WA W ∧ (W.cell? ⟨w3.heap.size, 0, none⟩ = some (.int .i64 dc) ∧ W.cell? ⟨w3.heap.size, 1, none⟩ = some (.int .i64 af) ∧ W.cell? ⟨w3.heap.size, 2, none⟩ = some (.int .i64 la) ∧ W.cell? ⟨w3.heap.size, 3, none⟩ = some (.int .i64 v0) ∧ W.cell? ⟨w3.heap.size, 4, none⟩ = some (.int .i64 v1) ∧ W.cell? ⟨w3.heap.size, 5, none⟩ = some (.int .i64 v2) ∧ W.cell? ⟨w3.heap.size, 6, none⟩ = some (.int .i64 v3) ∧ W.cell? ⟨w3.heap.size, 7, none⟩ = some (.slice g0 n g3) ∧ W.cell? ⟨w3.heap.size, 8, none⟩ = some (.slice g1 m g4) ∧ W.cell? ⟨w3.heap.size, 9, none⟩ = some (.slice g2 k g5)) ∧ (W.cell? ⟨w4.heap.size, 0, none⟩ = some (.int .i64 dc) ∧ W.cell? ⟨w4.heap.size, 1, none⟩ = some (.int .i64 af) ∧ W.cell? ⟨w4.heap.size, 2, none⟩ = some (.int .i64 la) ∧ W.cell? ⟨w4.heap.size, 3, none⟩ = some (.int .i64 v0) ∧ W.cell? ⟨w4.heap.size, 4, none⟩ = some (.int .i64 v1) ∧ W.cell? ⟨w4.heap.size, 5, none⟩ = some (.int .i64 v2) ∧ W.cell? ⟨w4.heap.size, 6, none⟩ = some (.int .i64 v3) ∧ W.cell? ⟨w4.heap.size, 7, none⟩ = some (.slice h0 n h3) ∧ W.cell? ⟨w4.heap.size, 8, none⟩ = some (.slice h1 m h4) ∧ W.cell? ⟨w4.heap.size, 9, none⟩ = some (.slice h2 k h5)) ∧ W.cell? ⟨w4.heap.size + 1, 0, none⟩ = some (.slice a4 L l4) ∧ W.cell? ⟨w4.heap.size + 1, 1, none⟩ = some (.bool bd)) 18 (by kernel_rfl) (HSS.out _ (Frm.drew _ _)) ?_
  intro hS
  generalize WA.drew = Y0 at *
  refine take_opG 0 25 (v := ?_) rfl rfl (by kernel_rfl) (by kernel_rfl) (by decide) (by kernel_rfl) (by kernel_rfl) (fun _ _ _ h => h) (Or.inl ⟨by rfl, ?_⟩) (by assumption) ?_
  rotate_left 1
  · (intro w hSw; (try dsimp only at hSw); go_simp; (try with_reducible rfl))
  try simp only [Act.put, List.setIfInBounds_toArray, List.set_cons_zero, List.set_cons_succ]
  refine take_opG 1 26 (v := ?_) rfl rfl (by kernel_rfl) (by kernel_rfl) (by decide) (by kernel_rfl) (by kernel_rfl) (fun _ _ _ h => h) (Or.inl ⟨by rfl, ?_⟩) (by assumption) ?_
  rotate_left 1
  · (intro w hSw; (try dsimp only at hSw); go_simp; (try with_reducible rfl))
  try simp only [Act.put, List.setIfInBounds_toArray, List.set_cons_zero, List.set_cons_succ]
  refine one_opG (i := 2) (by kernel_rfl) rfl (fun K hK => ?_)
  go_simp
  refine (HSM.out _ _ _ _ _ _ _ (HX34.out.keep0 (HF5.out.then1 hS.1)) (HX4.out.keep0 (HF5.out.then1 hS.1))).mono ?_
  rintro e1 Y1 ⟨rfl, hf1⟩
  have hS1 := HSS.out Y1 (hS.1.then1 hf1)
  refine hK.out _ _ hS1 ?_
  clear hK K hS hf1
  have hS := hS1
  clear hS1
  try simp only [Act.put, List.setIfInBounds_toArray, List.set_cons_zero, List.set_cons_succ]
  refine take_opG 3 28 (v := ?_) rfl rfl (by kernel_rfl) (by kernel_rfl) (by decide) (by kernel_rfl) (by kernel_rfl) (fun _ _ _ h => h) (Or.inl ⟨by rfl, ?_⟩) (by assumption) ?_
  rotate_left 1
  · (intro w hSw; (try dsimp only at hSw); go_simp; (try with_reducible rfl))
  try simp only [Act.put, List.setIfInBounds_toArray, List.set_cons_zero, List.set_cons_succ]
  refine take_opG 4 29 (v := ?_) rfl rfl (by kernel_rfl) (by kernel_rfl) (by decide) (by kernel_rfl) (by kernel_rfl) (fun _ _ _ h => h) (Or.inl ⟨by rfl, ?_⟩) (by assumption) ?_
  rotate_left 1
  · (intro w hSw; (try dsimp only at hSw); go_simp; (try with_reducible rfl))
  try simp only [Act.put, List.setIfInBounds_toArray, List.set_cons_zero, List.set_cons_succ]
  refine take_opG 6 31 (v := ?_) rfl rfl (by kernel_rfl) (by kernel_rfl) (by decide) (by kernel_rfl) (by kernel_rfl) (fun _ _ _ h => h) (Or.inl ⟨by rfl, ?_⟩) (by assumption) ?_
  rotate_left 1
  · (intro w hSw; (try dsimp only at hSw); go_simp; (try with_reducible rfl))
  try simp only [Act.put, List.setIfInBounds_toArray, List.set_cons_zero, List.set_cons_succ]
  refine take_opG 7 32 (v := ?_) rfl rfl (by kernel_rfl) (by kernel_rfl) (by decide) (by kernel_rfl) (by kernel_rfl) (fun _ _ _ h => h) (Or.inl ⟨by rfl, ?_⟩) (by assumption) ?_
  rotate_left 1
  · (intro w hSw; (try dsimp only at hSw); go_simp; (try with_reducible rfl))
  try simp only [Act.put, List.setIfInBounds_toArray, List.set_cons_zero, List.set_cons_succ]
  refine one_opG (i := 5) (by kernel_rfl) rfl (fun K hK => ?_)
  go_simp
  refine (HBO.out ib _ (HI4.out.keep (HF5.out.then1 hS.1) fun _ _ => id)).mono ?_
  rintro e1 Y2 ⟨rfl, rfl⟩
  refine hK.out _ _ hS ?_
  clear hK K
  try simp only [Act.put, List.setIfInBounds_toArray, List.set_cons_zero, List.set_cons_succ]
  refine take_opG 8 33 (v := ?_) rfl rfl (by kernel_rfl) (by kernel_rfl) (by decide) (by kernel_rfl) (by kernel_rfl) (fun _ _ _ h => h) (Or.inl ⟨by rfl, ?_⟩) (by assumption) ?_
  rotate_left 1
  · (intro w hSw; (try dsimp only at hSw); go_simp; (try with_reducible rfl))
  try simp only [Act.put, List.setIfInBounds_toArray, List.set_cons_zero, List.set_cons_succ]
  refine take_opG 9 34 (v := ?_) rfl rfl (by kernel_rfl) (by kernel_rfl) (by decide) (by kernel_rfl) (by kernel_rfl) (fun _ _ _ h => h) (Or.inl ⟨by rfl, ?_⟩) (by assumption) ?_
  rotate_left 1
  · (intro w hSw; (try dsimp only at hSw); go_simp; (try with_reducible rfl))
  try simp only [Act.put, List.setIfInBounds_toArray, List.set_cons_zero, List.set_cons_succ]
  refine take_opG 10 35 (v := ?_) rfl rfl (by kernel_rfl) (by kernel_rfl) (by decide) (by kernel_rfl) (by kernel_rfl) (fun _ _ _ h => h) (Or.inl ⟨by rfl, ?_⟩) (by assumption) ?_
  rotate_left 1
  · (intro w hSw; (try dsimp only at hSw); go_simp; (try with_reducible rfl))
  try simp only [Act.put, List.setIfInBounds_toArray, List.set_cons_zero, List.set_cons_succ]
  refine take_opG 11 36 (v := ?_) rfl rfl (by kernel_rfl) (by kernel_rfl) (by decide) (by kernel_rfl) (by kernel_rfl) (fun _ _ _ h => h) (Or.inl ⟨by rfl, ?_⟩) (by assumption) ?_
  rotate_left 1
  · (intro w hSw; (try dsimp only at hSw); go_simp; (try with_reducible rfl))
  try simp only [Act.put, List.setIfInBounds_toArray, List.set_cons_zero, List.set_cons_succ]
  refine take_opG 13 38 (v := ?_) rfl rfl (by kernel_rfl) (by kernel_rfl) (by decide) (by kernel_rfl) (by kernel_rfl) (fun _ _ _ h => h) (Or.inl ⟨by rfl, ?_⟩) (by assumption) ?_
  rotate_left 1
  · (intro w hSw; (try dsimp only at hSw); go_simp; (try with_reducible rfl))
  try simp only [Act.put, List.setIfInBounds_toArray, List.set_cons_zero, List.set_cons_succ]
  refine take_opG 14 39 (v := ?_) rfl rfl (by kernel_rfl) (by kernel_rfl) (by decide) (by kernel_rfl) (by kernel_rfl) (fun _ _ _ h => h) (Or.inl ⟨by rfl, ?_⟩) (by assumption) ?_
  rotate_left 1
  · (intro w hSw; (try dsimp only at hSw); go_simp; (try with_reducible rfl))
  try simp only [Act.put, List.setIfInBounds_toArray, List.set_cons_zero, List.set_cons_succ]
  refine take_opG 15 40 (v := ?_) rfl rfl (by kernel_rfl) (by kernel_rfl) (by decide) (by kernel_rfl) (by kernel_rfl) (fun _ _ _ h => h) (Or.inl ⟨by rfl, ?_⟩) (by assumption) ?_
  rotate_left 1
  · (intro w hSw; (try dsimp only at hSw); go_simp; (try with_reducible rfl))
  try simp only [Act.put, List.setIfInBounds_toArray, List.set_cons_zero, List.set_cons_succ]
  refine one_opG (i := 12) (by kernel_rfl) rfl (fun K hK => ?_)
  go_simp
  refine (HLO.out ib _ (HI4.out.keep (HF5.out.then1 hS.1) fun _ _ => id)).mono ?_
  rintro e1 Y3 ⟨rfl, rfl⟩
  refine hK.out _ _ hS ?_
  clear hK K
  try simp only [Act.put, List.setIfInBounds_toArray, List.set_cons_zero, List.set_cons_succ]
  refine take_opG 16 41 (v := ?_) rfl rfl (by kernel_rfl) (by kernel_rfl) (by decide) (by kernel_rfl) (by kernel_rfl) (fun _ _ _ h => h) (Or.inl ⟨by rfl, ?_⟩) (by assumption) ?_
  rotate_left 1
  · (intro w hSw; (try dsimp only at hSw); go_simp; (try with_reducible rfl))
  try simp only [Act.put, List.setIfInBounds_toArray, List.set_cons_zero, List.set_cons_succ]
  refine take_opG 17 42 (v := ?_) rfl rfl (by kernel_rfl) (by kernel_rfl) (by decide) (by kernel_rfl) (by kernel_rfl) (fun _ _ _ h => h) (Or.inl ⟨by rfl, ?_⟩) (by assumption) ?_
  rotate_left 1
  · (intro w hSw; (try dsimp only at hSw); go_simp; (try with_reducible rfl))
  try simp only [Act.put, List.setIfInBounds_toArray, List.set_cons_zero, List.set_cons_succ]
  refine last_opG (by kernel_rfl) (by kernel_rfl) rfl (fun K hK => ?_)
  go_simp
  refine hK.out _ _ ?_
  clear hK K
  go_wp2
  go_ret
  exact ⟨by first | rfl | simp, (HW4.out.then1 HF5.out).then1 hS.1⟩
end Go.Proofs.YtafdclkpeomomaaGreat

/- Opening what came in: slices of whatever elements, told cell by cell. -/
namespace Go.Proofs.YtafdclkpeomomaaGreat
open Go.RowKit

theorem list_of_lt {α : Type} [Inhabited α] {n : Nat} {p : Nat → α → Prop} (h : ∀ i, i < n → ∃ x, p i x) : ∃ l : List α, l.length = n ∧ ∀ i, i < n → ∀ d, p i (l.getD i d) := by
  obtain ⟨f, hf⟩ := Go.Deep.choose_lt h
  refine ⟨(List.range n).map f, by simp, fun i hi d => ?_⟩
  have : ((List.range n).map f).getD i d = f i := by simp [List.getD, hi]
  rw [this]
  exact hf i hi

section
variable {H : Type} {enc : TypeId × Value → H} {P : Program} {w : World} {base : Nat} {sp : Nat → Bool} {held : Bool}
/-- A slice that is read, spare and all: empty without capacity, or behind an address without a spot; each element's cells, and its own reading. -/
theorem open_arr {t e sz : Nat} {a0 : Option Addr} {len cap : Nat} {d : DataW H × List MemPlace} {fuel : Nat} (ht : P.underlying t = some (.slice e)) (hsz : P.cellsOf e = sz) (hpos : 0 < sz) (hsp : ∀ b, sp b = true)
    (h : DataW.trod enc P w base sp held fuel t [.slice a0 len cap] = some d) :
    (len = 0 ∧ cap = 0) ∨ ∃ b off, a0 = some ⟨b, off, none⟩ ∧ len ≤ cap ∧ cap ≤ maxLen ∧
      ∃ n, ∀ k, k < len → ∃ cs : List Value, cs.length = sz ∧ (∀ j u, cs[j]? = some u → w.cell? ⟨b, off + k * sz + j, none⟩ = some u) ∧ ∃ y, DataW.trod enc P w base sp held n e cs = some y := by
  rcases Go.Deep.open_slice ht h with ⟨hcs, _⟩ | ⟨a, len', cap', m, n, D, Pl, hcs, _, hl, hm, hmm, _, hel⟩
  · left
    simp only [List.cons.injEq, Value.slice.injEq, and_true] at hcs
    exact ⟨hcs.2.1, hcs.2.2⟩
  · simp only [List.cons.injEq, Value.slice.injEq, and_true] at hcs
    obtain ⟨rfl, rfl, rfl⟩ := hcs
    rw [hsp] at hmm
    simp only [if_true] at hmm
    subst hmm
    subst hsz
    rcases Nat.eq_zero_or_pos m with h0 | h0
    · left; omega
    · right
      obtain ⟨b, off, spot⟩ := a
      have hspot : spot = none := by
        obtain ⟨cs', hc, _⟩ := hel 0 h0
        obtain ⟨_, hlen, hcells⟩ := World.cells?_some hc
        have h00 : cs'[0]? = some (cs'[0]'(by omega)) := List.getElem?_eq_getElem _
        have := hcells 0 (by omega)
        rw [h00] at this
        have hs := World.cell?_spot this
        simpa [Addr.add] using hs
      subst hspot
      refine ⟨b, off, rfl, hl, hm, n, fun k hk => ?_⟩
      obtain ⟨cs', hc, ht'⟩ := hel k (by omega)
      obtain ⟨_, hlen, hcells⟩ := World.cells?_some hc
      refine ⟨cs', hlen, fun j u hu => ?_, _, ht'⟩
      have hj : j < P.cellsOf e := by rw [← hlen]; exact (List.getElem?_eq_some_iff.1 hu).1
      have := hcells j hj
      rw [addr_add, addr_add] at this
      rw [this, hu]
end
end Go.Proofs.YtafdclkpeomomaaGreat

/- What came in: bytes. -/
namespace Go.Proofs.YtafdclkpeomomaaGreat
open Go.RowKit Go.WideShapes

theorem Tryz.cells_u8 : Tryz.prog.cellsOf 5 = 1 := by kernel_rfl
set_option maxRecDepth 100000 in
theorem open_bytes {H : Type} {enc : TypeId × Value → H} {w : World} {base : Nat} {v : Value} {d : DataW H} {ps : List MemPlace} (hv : Value.okWide Tryz.prog w .any base 32 v) (h : DataW.Trod enc Tryz.prog w 0 (fun _ => true) true 32 v d ps) :
    ∃ bs : List UInt8, Rd w v bs.length (bV bs) := by
  obtain ⟨a0, len, cap, rfl⟩ := okWide_slice Tryz.underlying32 hv
  obtain ⟨fuel, hf⟩ := h
  rcases open_arr Tryz.underlying32 Tryz.cells_u8 (by omega) (fun _ => rfl) hf with ⟨rfl, rfl⟩ | ⟨b, off, rfl, h1, h2, n, hel⟩
  · exact ⟨[], .inl ⟨a0, rfl, rfl, rfl⟩⟩
  · have hx : ∀ k, k < len → ∃ c : UInt8, w.cell? ⟨b, off + k, none⟩ = some (.int .u8 (c.toNat : Int)) := fun k hk => by
      obtain ⟨cs, hl, hc, y, hy⟩ := hel k hk
      obtain ⟨x, rfl, _, hw⟩ := DataW.trod_int Tryz.underlying5 hy
      have hb : 0 ≤ x ∧ x ≤ 255 := by
        simp only [Lit.wf, IntKind.min, IntKind.max, IntKind.signed, IntKind.bits] at hw
        simpa using hw
      refine ⟨UInt8.ofNat x.toNat, ?_⟩
      have h0 := hc 0 _ rfl
      simp only [Nat.mul_one, Nat.add_zero] at h0
      rw [h0]
      congr 2
      have : (UInt8.ofNat x.toNat).toNat = x.toNat := by simp; omega
      rw [this]; omega
    obtain ⟨l, hl, hlp⟩ := list_of_lt hx
    refine ⟨l, .inr ⟨b, off, cap, by rw [hl], by omega, h2, fun j u hu => ?_⟩⟩
    have hj : j < l.length := by simpa using (List.getElem?_eq_some_iff.1 hu).1
    rw [hlp j (by omega) default]
    rw [← hu]
    simp [bV, List.getD, hj]

end Go.Proofs.YtafdclkpeomomaaGreat
