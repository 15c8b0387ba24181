/- Words for the law PackGets: PackGets. -/
import Derived.Test.YtggfoihfenlckaaGreatPackGetsG25
import Derived.Test.YtggfoihfenlckaaGreatPackGetsG26
set_option linter.unusedSimpArgs false
set_option linter.unusedVariables false
/- The law PackGets: its walk. Printed by wip/packgetsgen.py. -/
namespace Go.Proofs.YtggfoihfenlckaaGreat
open Go.RowKit
theorem u8_at {w : World} {b off c n : Nat} {l : List UInt8} (h : Rd w (.slice (some ⟨b, off, none⟩) n c) n (bV l)) (k : Nat) (hk : k < l.length) : w.cell? ⟨b, off + k, none⟩ = some (.int .u8 (l.getD k 0).toNat) :=
  h.cell k _ (by unfold bV; rw [List.getElem?_map, List.getElem?_eq_getElem hk, getD_at 0 hk]; rfl)
theorem bad_f (ib : Nat) (st : Option (List UInt8)) (w : World) (h : InSt w ib st) : Calls Tryz.prog 17 #[.pointer (some ⟨ib, 0, none⟩)] w fun e w' => e = .returned (.bool st.isNone) ∧ Frm NoS w w' := (bad_go ib st w h).mono fun _ _ ⟨he, hw⟩ => ⟨he, hw ▸ Frm.refl _ _⟩
theorem left_f (ib : Nat) (st : Option (List UInt8)) (w : World) (h : InSt w ib st) : Calls Tryz.prog 18 #[.pointer (some ⟨ib, 0, none⟩)] w fun e w' => e = .returned (.int .i64 (leftOf st).length) ∧ Frm NoS w w' := (left_go ib st w h).mono fun _ _ ⟨he, hw⟩ => ⟨he, hw ▸ Frm.refl _ _⟩
theorem done_f (ib : Nat) (st : Option (List UInt8)) (w : World) (h : InSt w ib st) : Calls Tryz.prog 19 #[.pointer (some ⟨ib, 0, none⟩)] w fun e w' => e = .returned (.bool (doneOf st)) ∧ Frm NoS w w' := (done_go ib st w h).mono fun _ _ ⟨he, hw⟩ => ⟨he, hw ▸ Frm.refl _ _⟩
/-- Both Ins while things are taken. -/
structure GL (w0 W : World) (ib wb : Nat) (st : Option (List UInt8)) : Prop where
  ins : InSt W ib st
  blk : ∃ a l, RIn w0 W (.slice a (leftOf st).length l) st ∧ W.heap[wb]? = some (.cells #[.slice a (leftOf st).length l, .bool st.isNone] 51 (0, 0))
  frm : Frm NoS w0 W
  hib : w0.heap.size ≤ ib
  hwb : ib < wb
  left : (leftOf st).length ≤ 1000
theorem GL.keep0 {w0 W W' : World} {ib wb : Nat} {st : Option (List UInt8)} (h : GL w0 W ib wb st) (f : Frm NoS W W') : GL w0 W' ib wb st := by
  obtain ⟨a, l, h1, h2⟩ := h.blk
  exact ⟨h.ins.keep f fun _ _ => id, ⟨a, l, h1.keep0 f, f.blk h2 id⟩, h.frm.then1 f, h.hib, h.hwb, h.left⟩
/-- Behind a step: the program's In is further, the reference's next one in a block of its own. -/
structure GN (w0 W : World) (ib wb nb : Nat) (st : Option (List UInt8)) : Prop where
  ins : InSt W ib st
  box : ∃ v b, W.heap[wb]? = some (.cells #[v, .bool b] 51 (0, 0))
  blk : ∃ a l, RIn w0 W (.slice a (leftOf st).length l) st ∧ W.heap[nb]? = some (.cells #[.slice a (leftOf st).length l, .bool st.isNone] 51 (0, 0))
  frm : Frm NoS w0 W
  hib : w0.heap.size ≤ ib
  hwb : ib < wb
  hnb : wb < nb
  left : (leftOf st).length ≤ 1000
theorem GN.keep0 {w0 W W' : World} {ib wb nb : Nat} {st : Option (List UInt8)} (h : GN w0 W ib wb nb st) (f : Frm NoS W W') : GN w0 W' ib wb nb st := by
  obtain ⟨a, l, h1, h2⟩ := h.blk
  obtain ⟨v, b, h3⟩ := h.box
  exact ⟨h.ins.keep f fun _ _ => id, ⟨v, b, f.blk h3 id⟩, ⟨a, l, h1.keep0 f, f.blk h2 id⟩, h.frm.then1 f, h.hib, h.hwb, h.hnb, h.left⟩
/-- The call ahead of the next one's block. -/
theorem GL.stepA {w0 W W4 : World} {ib wb : Nat} {st st' : Option (List UInt8)} {a : Option Addr} {l L : Nat} {b : Bool} (h : GL w0 W ib wb st) (f : Frm (Only ib) W W4) (hi : InSt W4 ib st') (hr : RIn w0 W4 (.slice a L l) st') (hL : (leftOf st').length = L) (hb : st'.isNone = b) (hle : (leftOf st').length ≤ (leftOf st).length) :
    GN w0 (W4.alloc (.cells #[.slice a L l, .bool b] 51)) ib wb W4.heap.size st' := by
  subst hL hb
  obtain ⟨a0, l0, h1, h2⟩ := h.blk
  have hw := h.hwb
  have h0 := h.hib
  have hl := h.left
  have h3 := f.blk h2 fun e => by have e : wb = ib := e; omega
  have fa := Frm.alloc NoS W4 (.cells #[.slice a (leftOf st').length l, .bool st'.isNone] 51)
  exact ⟨hi.keep fa fun _ _ => id, ⟨_, _, fa.blk h3 id⟩, ⟨a, l, hr.keep0 fa, heap_alloc_new W4 _⟩, (h.frm.trans f fun i hi' e => by have e : i = ib := e; omega).then1 fa, h0, hw, lt_of_block h3, by omega⟩
/-- The next one's block ahead of the call. -/
theorem GL.stepB {w0 W W4 : World} {ib wb : Nat} {st st' : Option (List UInt8)} {a : Option Addr} {l L : Nat} {b : Bool} (h : GL w0 W ib wb st) (f : Frm (Only ib) (W.alloc (.cells #[.slice none 0 0, .bool false] 51)) W4) (hi : InSt W4 ib st') (hr : RIn w0 W4 (.slice a L l) st') (hL : (leftOf st').length = L) (hb : st'.isNone = b) (hle : (leftOf st').length ≤ (leftOf st).length) :
    GN w0 ((W4.setCell ⟨W.heap.size, 0, none⟩ (.slice a L l)).setCell ⟨W.heap.size, 1, none⟩ (.bool b)) ib wb W.heap.size st' := by
  subst hL hb
  obtain ⟨a0, l0, h1, h2⟩ := h.blk
  have hw := h.hwb
  have h0 := h.hib
  have hl := h.left
  have hlb := lt_of_block h2
  have fa := Frm.alloc NoS W (.cells #[.slice none 0 0, .bool false] 51)
  have h3 := f.blk (fa.blk h2 id) fun e => by have e : wb = ib := e; omega
  have h4 := f.blk (heap_alloc_new W (.cells #[.slice none 0 0, .bool false] 51)) fun e => by have e : W.heap.size = ib := e; omega
  have f2 := two_set W4 W.heap.size (.slice a (leftOf st').length l) (.bool st'.isNone)
  have h0w := h.frm.size
  refine ⟨hi.keep f2 fun k hk e => ?_, ⟨_, _, f2.blk h3 fun e => ?_⟩, ⟨a, l, hr.keep f2 fun k hk e => ?_, set_at' (set_at' h4 0 _) 1 _⟩, ((h.frm.then1 fa).trans f fun i hi' e => ?_).trans f2 fun i hi' e => ?_, h0, hw, hlb, by omega⟩
  · have e : k = W.heap.size := e; omega
  · have e : wb = W.heap.size := e; omega
  · have e : k = W.heap.size := e; omega
  · have e : i = ib := e; omega
  · have e : i = W.heap.size := e; omega
/-- The next one is the one. -/
theorem GN.move {w0 W : World} {ib wb nb : Nat} {st : Option (List UInt8)} (h : GN w0 W ib wb nb st) {a : Option Addr} {l L : Nat} {b : Bool} (hL : (leftOf st).length = L) (hb : st.isNone = b) (hbk : W.heap[nb]? = some (.cells #[.slice a L l, .bool b] 51 (0, 0))) :
    GL w0 ((W.setCell ⟨wb, 0, none⟩ (.slice a L l)).setCell ⟨wb, 1, none⟩ (.bool b)) ib wb st := by
  subst hL hb
  obtain ⟨a1, l1, h1, h2⟩ := h.blk
  obtain ⟨v, b, h3⟩ := h.box
  have hw := h.hwb
  have h0 := h.hib
  have hn := h.hnb
  rw [h2] at hbk
  obtain ⟨rfl, rfl⟩ : a1 = a ∧ l1 = l := by simpa using hbk
  have f2 := two_set W wb (.slice a1 (leftOf st).length l1) (.bool st.isNone)
  refine ⟨h.ins.keep f2 fun k hk e => ?_, ⟨a1, l1, h1.keep f2 fun k hk e => ?_, set_at' (set_at' h3 0 _) 1 _⟩, h.frm.trans f2 fun i hi' e => ?_, h0, hw, h.left⟩
  · have e : k = wb := e; omega
  · have e : k = wb := e; omega
  · have e : i = wb := e; omega
set_option maxHeartbeats 8000000 in
set_option maxRecDepth 1000000 in
theorem packGets_walk (w : World) (vb : Value) (hvb : ∃ bs : List UInt8, Rd w vb bs.length (bV bs)) (vk : Value) (hvk : ∃ ks : List UInt8, Rd w vk ks.length (bV ks)) : Calls Tryz.prog 4 #[vb, vk] w fun e w' => e = .returned (.bool true) ∧ Frm (fun _ => False) w w' := by
  obtain ⟨bs, hb⟩ := hvb
  obtain ⟨ks, hk⟩ := hvk
  have HA := Lib.hid awake16_any
  obtain ⟨a0, c0, rfl⟩ := rd_shape hb
  obtain ⟨a1, c1, rfl⟩ := rd_shape hk
  by_cases hlen : bs.length ≤ 1000
  rotate_left 1
  · have hl2 : ¬ (bs.length : Int) ≤ 1000 := by omega
    clear hb hk hlen
    generalize bs.length = n at *
    generalize ks.length = m at *
    go_enter Tryz.func4, Tryz.ntmps4
    go_wp2_with (go_at_call 11; first | (have q9 := HW1; go_loud (refine (HA.out _).mono ?_); rintro e w20 ⟨rfl, hw20⟩; clear q9; have HW20 := Lib.hid (HW1.out.then1 hw20); clear hw20) | (go_loud (refine (HA.out _).mono ?_); rintro e w1 ⟨rfl, hw1⟩; have HW1 := Lib.hid hw1; clear hw1))
    go_ret
    exact ⟨rfl, HW20.out⟩
  by_cases hlk : ks.length ≤ 20
  rotate_left 1
  · have hl1 : (bs.length : Int) ≤ 1000 := by omega
    have hl2 : ¬ (ks.length : Int) ≤ 20 := by omega
    clear hb hk hlen hlk
    generalize bs.length = n at *
    generalize ks.length = m at *
    go_enter Tryz.func4, Tryz.ntmps4
    go_wp2_with (go_at_call 11; first | (have q9 := HW1; go_loud (refine (HA.out _).mono ?_); rintro e w20 ⟨rfl, hw20⟩; clear q9; have HW20 := Lib.hid (HW1.out.then1 hw20); clear hw20) | (go_loud (refine (HA.out _).mono ?_); rintro e w1 ⟨rfl, hw1⟩; have HW1 := Lib.hid hw1; clear hw1))
    go_ret
    exact ⟨rfl, HW20.out⟩
  have hl1 : (bs.length : Int) ≤ 1000 := by omega
  have hl2 : (ks.length : Int) ≤ 20 := by omega
  have HN := Lib.hid (fun W (f : Frm NoS w W) => newin (.slice a0 bs.length c0) bs W (hb.keep0 f) (by omega))
  have HR := Lib.hid (rin_start hb)
  have HK := Lib.hid hk; clear hk
  have HLN := Lib.hid hlen
  clear hb
  generalize hn : bs.length = n at *
  have HBN := Lib.hid hn; clear hn
  generalize hm : ks.length = m at *
  have HM := Lib.hid hm; clear hm
  go_enter Tryz.func4, Tryz.ntmps4
  go_wp2_with (first
    | (go_at_call 11; go_loud (refine (HA.out _).mono ?_); rintro e w1 ⟨rfl, hw1⟩; have HW1 := Lib.hid hw1; clear hw1)
    | (go_at_call 15; go_loud (refine (HN.out _ HW1.out).mono ?_); rintro e w2 ⟨ib, rfl, hst, hib, hf2⟩; have hgl : GL w (w2.alloc (.cells #[.slice a0 n c0, .bool false] 51)) ib w2.heap.size (some bs) := ⟨hst.keep (Frm.alloc NoS _ _) fun _ _ => id, ⟨a0, c0, by rw [show (leftOf (some bs)).length = n from HBN.out]; exact HR.out.keep0 ((HW1.out.then1 hf2).then1 (Frm.alloc NoS _ _)), by rw [show (leftOf (some bs)).length = n from HBN.out]; exact heap_alloc_new w2 _⟩, (HW1.out.then1 hf2).then1 (Frm.alloc NoS _ _), Nat.le_trans HW1.out.size hib, hst.lt, by rw [show (leftOf (some bs)).length = n from HBN.out]; exact HLN.out⟩; have HGL := Lib.hid hgl; clear hgl hst hib hf2))
  generalize hwb : w2.heap.size = wb at *
  clear hwb
  go_loopw [29] (fun i W => ∃ (k : Nat) (st : Option (List UInt8)), k ≤ m ∧ i = .int .i64 k ∧ GL w W ib wb st) (fun i _ => m - (intOf i).toNat)
  case atStart => exact ⟨0, some bs, Nat.zero_le _, rfl, HGL.out⟩
  case round =>
    clear HGL
    obtain ⟨k, st, hk, rfl, hgl⟩ := hrel
    by_cases hlt : k < m
    · have hkl : k < ks.length := by rw [HM.out]; exact hlt
      rcases Rd.shape HK.out with ⟨ad, he, hz⟩ | ⟨b, off, cc, he, hmax⟩
      · exfalso; omega
      injection he with e1 e2 e3
      subst e1 e3
      clear e2 hmax
      have q0 := hgl.frm.cell' (u8_at HK.out k hkl) id
      generalize ks.getD k 0 = kd at *
      obtain ⟨a2, l2, hr2, hb2⟩ := hgl.blk
      have y0 : wr.cell? ⟨wb, 0, none⟩ = some (.slice a2 (leftOf st).length l2) := cell_at' hb2 0 rfl
      have y1 : wr.cell? ⟨wb, 1, none⟩ = some (.bool st.isNone) := cell_at' hb2 1 rfl
      have HG := Lib.hid (fun W (f : Frm NoS wr W) => get16_any w W (st := st) kd.toNat ib (.slice a2 (leftOf st).length l2) (hgl.keep0 f).hib (hgl.keep0 f).ins (hr2.keep0 f) (by have := hgl.left; omega))
      unfold Get16Post at HG
      have HGL := Lib.hid hgl
      clear hgl hr2 hb2
      generalize hls : (leftOf st).length = L at *
      generalize hbs : st.isNone = bb at *
      have HLS := Lib.hid hls; clear hls
      have HBS := Lib.hid hbs; clear hbs
      go_wp2_with fail
      refine wp_region_G (S := fun w' => w'.cell? ⟨wb, 0, none⟩ = some (.slice a2 L l2) ∧ w'.cell? ⟨wb, 1, none⟩ = some (.bool bb) ∧ w'.cell? ⟨b, off + k, none⟩ = some (.int .u8 kd.toNat)) 12 (by kernel_rfl) ⟨(Frm.drew NoS _).cell' y0 id, (Frm.drew NoS _).cell' y1 id, (Frm.drew NoS _).cell' q0 id⟩ ?_
      intro hS
      have HFD := Lib.hid (Frm.drew NoS wr)
      have HGLD := Lib.hid (HGL.out.keep0 (Frm.drew NoS wr))
      have hbw := World.block_lt_of_cell? _ _ (u8_at HK.out k hkl)
      have hyz := World.block_lt_of_cell? _ _ y0
      generalize wr.drew = Y0 at *
      have hwy := HFD.out.size
      have HNW := Lib.hid (show ¬ Only ib wb from fun e => by have e : wb = ib := e; have := HGLD.out.hwb; omega)
      have HNB := Lib.hid (show ¬ Only ib b from fun e => by have e : b = ib := e; have := HGLD.out.hib; have h : b < w.heap.size := hbw; omega)
      have HNY := Lib.hid (show ¬ Only ib Y0.heap.size from fun e => by have e : Y0.heap.size = ib := e; have := HGLD.out.hwb; have h : wb < wr.heap.size := hyz; omega)
      have HNX := Lib.hid (show ¬ Only Y0.heap.size wb from fun e => by have e : wb = Y0.heap.size := e; have h : wb < wr.heap.size := hyz; omega)
      have HNZ := Lib.hid (show ¬ Only Y0.heap.size b from fun e => by have e : b = Y0.heap.size := e; have := HGLD.out.hib; have := HGLD.out.hwb; have h : b < w.heap.size := hbw; have h2 : wb < wr.heap.size := hyz; omega)
      clear y0 y1 q0 hbw hyz hwy
      refine take_opG 0 33 (v := ?_) rfl rfl (by kernel_rfl) (by kernel_rfl) (by decide) (by kernel_rfl) (by kernel_rfl) (fun _ _ _ h => h) (Or.inl ⟨by rfl, ?_⟩) (by assumption) ?_
      rotate_left 1
      · (intro w hSw; (try dsimp only at hSw); go_simp; (try with_reducible rfl))
      try simp only [Act.put, List.setIfInBounds_toArray, List.set_cons_zero, List.set_cons_succ]
      refine take_opG 1 34 (v := ?_) rfl rfl (by kernel_rfl) (by kernel_rfl) (by decide) (by kernel_rfl) (by kernel_rfl) (fun _ _ _ h => h) (Or.inl ⟨by rfl, ?_⟩) (by assumption) ?_
      rotate_left 1
      · (intro w hSw; (try dsimp only at hSw); go_simp; (try with_reducible rfl))
      try simp only [Act.put, List.setIfInBounds_toArray, List.set_cons_zero, List.set_cons_succ]
      refine take_opG 2 35 (v := ?_) rfl rfl (by kernel_rfl) (by kernel_rfl) (by decide) (by kernel_rfl) (by kernel_rfl) (fun _ _ _ h => h) (Or.inl ⟨by rfl, ?_⟩) (by assumption) ?_
      rotate_left 1
      · (intro w hSw; (try dsimp only at hSw); go_simp; (try with_reducible rfl))
      try simp only [Act.put, List.setIfInBounds_toArray, List.set_cons_zero, List.set_cons_succ]
      refine take_opG 3 36 (v := ?_) rfl rfl (by kernel_rfl) (by kernel_rfl) (by decide) (by kernel_rfl) (by kernel_rfl) (fun _ _ _ h => h) (Or.inl ⟨by rfl, ?_⟩) (by assumption) ?_
      rotate_left 1
      · (intro w hSw; (try dsimp only at hSw); go_simp; (try with_reducible rfl))
      try simp only [Act.put, List.setIfInBounds_toArray, List.set_cons_zero, List.set_cons_succ]
      refine take_opG 4 37 (v := ?_) rfl rfl (by kernel_rfl) (by kernel_rfl) (by decide) (by kernel_rfl) (by kernel_rfl) (fun _ _ _ h => h) (Or.inl ⟨by rfl, ?_⟩) (by assumption) ?_
      rotate_left 1
      · (intro w hSw; (try dsimp only at hSw); go_simp; (try with_reducible rfl))
      try simp only [Act.put, List.setIfInBounds_toArray, List.set_cons_zero, List.set_cons_succ]
      refine take_opG 5 38 (v := ?_) rfl rfl (by kernel_rfl) (by kernel_rfl) (by decide) (by kernel_rfl) (by kernel_rfl) (fun _ _ _ h => h) (Or.inl ⟨by rfl, ?_⟩) (by assumption) ?_
      rotate_left 1
      · (intro w hSw; (try dsimp only at hSw); go_simp; (try with_reducible rfl))
      try simp only [Act.put, List.setIfInBounds_toArray, List.set_cons_zero, List.set_cons_succ]
      refine two_opG (i := 6) (j := 10) (by kernel_rfl) rfl rfl (fun K hK => ?_) (fun K hK => ?_)
      · go_simp
        first
          | (have q9 := HALB
             clear q9
             refine (HG.out _ (HFD.out.then1 (Frm.alloc NoS Y0 (.cells #[.slice none 0 0, .bool false] 51)))).mono ?_
             rintro e4 W4 ⟨st', a4, l4, rfl, hi4, hr4, hf4, hle4⟩
             generalize hL4 : (leftOf st').length = L4 at *
             generalize hb4 : st'.isNone = b4 at *
             have HGN := Lib.hid (GL.stepB HGLD.out hf4 hi4 hr4 hL4 hb4 (by rw [HLS.out, hL4]; exact hle4))
             have hS4 := (⟨hf4.cell' hSB.1 HNW.out, hf4.cell' hSB.2.1 HNW.out, hf4.cell' hSB.2.2 HNB.out⟩ : (W4.cell? ⟨wb, 0, none⟩ = some (.slice a2 L l2) ∧ W4.cell? ⟨wb, 1, none⟩ = some (.bool bb) ∧ W4.cell? ⟨b, off + k, none⟩ = some (.int .u8 kd.toNat)))
             have x0 := cell_at' (hf4.blk (heap_alloc_new Y0 (.cells #[.slice none 0 0, .bool false] 51)) HNY.out) 0 rfl
             have x1 := cell_at' (hf4.blk (heap_alloc_new Y0 (.cells #[.slice none 0 0, .bool false] 51)) HNY.out) 1 rfl
             have x2 := free_at' (hf4.blk (heap_alloc_new Y0 (.cells #[.slice none 0 0, .bool false] 51)) HNY.out) 0
             have x3 := free_at' (hf4.blk (heap_alloc_new Y0 (.cells #[.slice none 0 0, .bool false] 51)) HNY.out) 1
             have x4 := lt_of_block (hf4.blk (heap_alloc_new Y0 (.cells #[.slice none 0 0, .bool false] 51)) HNY.out)
             have HB4 := Lib.hid (hf4.blk (heap_alloc_new Y0 (.cells #[.slice none 0 0, .bool false] 51)) HNY.out)
             have HLE4 := Lib.hid hL4
             have HBE4 := Lib.hid hb4
             clear hi4 hr4 hf4 hle4 hL4 hb4
             refine hK.out _ _ hS4 ?_
             clear hK K)
          | (refine (HG.out Y0 HFD.out).mono ?_
             rintro e4 W4 ⟨st', a4, l4, rfl, hi4, hr4, hf4, hle4⟩
             generalize hL4 : (leftOf st').length = L4 at *
             generalize hb4 : st'.isNone = b4 at *
             have HGN := Lib.hid (GL.stepA HGLD.out hf4 hi4 hr4 hL4 hb4 (by rw [HLS.out, hL4]; exact hle4))
             have hS4 := (⟨hf4.cell' hS.1 HNW.out, hf4.cell' hS.2.1 HNW.out, hf4.cell' hS.2.2 HNB.out⟩ : (W4.cell? ⟨wb, 0, none⟩ = some (.slice a2 L l2) ∧ W4.cell? ⟨wb, 1, none⟩ = some (.bool bb) ∧ W4.cell? ⟨b, off + k, none⟩ = some (.int .u8 kd.toNat)))
             have HI4 := Lib.hid True.intro
             have HLE4 := Lib.hid hL4
             have HBE4 := Lib.hid hb4
             clear hi4 hr4 hf4 hle4 hL4 hb4
             refine hK.out _ _ hS4 ?_
             clear hK K)
        try simp only [Act.put, List.setIfInBounds_toArray, List.set_cons_zero, List.set_cons_succ]
        refine take_opG 7 32 (v := ?_) rfl rfl (by kernel_rfl) (by kernel_rfl) (by decide) (by kernel_rfl) (by kernel_rfl) (fun _ _ _ h => h) (Or.inl ⟨by rfl, ?_⟩) (by assumption) ?_
        rotate_left 1
        · (intro w hSw; (try dsimp only at hSw); go_simp; (try with_reducible rfl))
        try simp only [Act.put, List.setIfInBounds_toArray, List.set_cons_zero, List.set_cons_succ]
        refine take_opG 8 40 (v := ?_) rfl rfl (by kernel_rfl) (by kernel_rfl) (by decide) (by kernel_rfl) (by kernel_rfl) (fun _ _ _ h => h) (Or.inl ⟨by rfl, ?_⟩) (by assumption) ?_
        rotate_left 1
        · (intro w hSw; (try dsimp only at hSw); go_simp; (try with_reducible rfl))
        try simp only [Act.put, List.setIfInBounds_toArray, List.set_cons_zero, List.set_cons_succ]
        refine take_opG 9 41 (v := ?_) rfl rfl (by kernel_rfl) (by kernel_rfl) (by decide) (by kernel_rfl) (by kernel_rfl) (fun _ _ _ h => h) (Or.inl ⟨by rfl, ?_⟩) (by assumption) ?_
        rotate_left 1
        · (intro w hSw; (try dsimp only at hSw); go_simp; (try with_reducible rfl))
        try simp only [Act.put, List.setIfInBounds_toArray, List.set_cons_zero, List.set_cons_succ]
        refine one_opG (i := 10) (by kernel_rfl) rfl (fun K hK => ?_)
        go_simp
        first
          | (have q9 := HI4
             clear q9
             have hS10 := (⟨(Frm.alloc NoS W4 (.cells #[.slice none 0 0, .bool false] 51)).cell' hS4.1 id, (Frm.alloc NoS W4 (.cells #[.slice none 0 0, .bool false] 51)).cell' hS4.2.1 id, (Frm.alloc NoS W4 (.cells #[.slice none 0 0, .bool false] 51)).cell' hS4.2.2 id⟩ : ((W4.alloc (.cells #[.slice none 0 0, .bool false] 51)).cell? ⟨wb, 0, none⟩ = some (.slice a2 L l2) ∧ (W4.alloc (.cells #[.slice none 0 0, .bool false] 51)).cell? ⟨wb, 1, none⟩ = some (.bool bb) ∧ (W4.alloc (.cells #[.slice none 0 0, .bool false] 51)).cell? ⟨b, off + k, none⟩ = some (.int .u8 kd.toNat)))
             refine hK.out _ _ hS10 ?_
             clear hK K)
          | (have hSB := (⟨(Frm.alloc NoS Y0 (.cells #[.slice none 0 0, .bool false] 51)).cell' hS.1 id, (Frm.alloc NoS Y0 (.cells #[.slice none 0 0, .bool false] 51)).cell' hS.2.1 id, (Frm.alloc NoS Y0 (.cells #[.slice none 0 0, .bool false] 51)).cell' hS.2.2 id⟩ : ((Y0.alloc (.cells #[.slice none 0 0, .bool false] 51)).cell? ⟨wb, 0, none⟩ = some (.slice a2 L l2) ∧ (Y0.alloc (.cells #[.slice none 0 0, .bool false] 51)).cell? ⟨wb, 1, none⟩ = some (.bool bb) ∧ (Y0.alloc (.cells #[.slice none 0 0, .bool false] 51)).cell? ⟨b, off + k, none⟩ = some (.int .u8 kd.toNat)))
             have HALB := Lib.hid True.intro
             refine hK.out _ _ hSB ?_
             clear hK K)
        try simp only [Act.put, List.setIfInBounds_toArray, List.set_cons_zero, List.set_cons_succ]
        refine one_opG (i := 11) (by kernel_rfl) rfl (fun K hK => ?_)
        go_simp
        first
          | (have q9 := HI4
             clear q9
             have hS11 := (⟨(Frm.alloc NoS W4 (.cells #[.slice a4 L4 l4, .bool b4] 51)).cell' hS4.1 id, (Frm.alloc NoS W4 (.cells #[.slice a4 L4 l4, .bool b4] 51)).cell' hS4.2.1 id, (Frm.alloc NoS W4 (.cells #[.slice a4 L4 l4, .bool b4] 51)).cell' hS4.2.2 id⟩ : ((W4.alloc (.cells #[.slice a4 L4 l4, .bool b4] 51)).cell? ⟨wb, 0, none⟩ = some (.slice a2 L l2) ∧ (W4.alloc (.cells #[.slice a4 L4 l4, .bool b4] 51)).cell? ⟨wb, 1, none⟩ = some (.bool bb) ∧ (W4.alloc (.cells #[.slice a4 L4 l4, .bool b4] 51)).cell? ⟨b, off + k, none⟩ = some (.int .u8 kd.toNat)))
             refine hK.out _ _ hS11 ?_
             clear hK K)
          | (have hS11 := (⟨(two_set W4 Y0.heap.size (.slice a4 L4 l4) (.bool b4)).cell' hS4.1 HNX.out, (two_set W4 Y0.heap.size (.slice a4 L4 l4) (.bool b4)).cell' hS4.2.1 HNX.out, (two_set W4 Y0.heap.size (.slice a4 L4 l4) (.bool b4)).cell' hS4.2.2 HNZ.out⟩ : (((W4.setCell ⟨Y0.heap.size, 0, none⟩ (.slice a4 L4 l4)).setCell ⟨Y0.heap.size, 1, none⟩ (.bool b4)).cell? ⟨wb, 0, none⟩ = some (.slice a2 L l2) ∧ ((W4.setCell ⟨Y0.heap.size, 0, none⟩ (.slice a4 L4 l4)).setCell ⟨Y0.heap.size, 1, none⟩ (.bool b4)).cell? ⟨wb, 1, none⟩ = some (.bool bb) ∧ ((W4.setCell ⟨Y0.heap.size, 0, none⟩ (.slice a4 L4 l4)).setCell ⟨Y0.heap.size, 1, none⟩ (.bool b4)).cell? ⟨b, off + k, none⟩ = some (.int .u8 kd.toNat)))
             refine hK.out _ _ hS11 ?_
             clear hK K)
        try simp only [Act.put, List.setIfInBounds_toArray, List.set_cons_zero, List.set_cons_succ]
        refine last_opG (by kernel_rfl) (by kernel_rfl) rfl (fun K hK => ?_)
        go_simp
        refine hK.out _ _ ?_
        clear hK K
        first
          | (have q9 := HI4
             clear q9
             have HBK := Lib.hid (heap_alloc_new W4 (.cells #[.slice a4 L4 l4, .bool b4] 51))
             generalize W4.heap.size = nb at *
             generalize W4.alloc (.cells #[.slice a4 L4 l4, .bool b4] 51) = WN at *)
          | (have HBK := Lib.hid (set_at' (set_at' HB4.out 0 (.slice a4 L4 l4)) 1 (.bool b4))
             generalize Y0.heap.size = nb at *
             generalize (W4.setCell ⟨nb, 0, none⟩ (.slice a4 L4 l4)).setCell ⟨nb, 1, none⟩ (.bool b4) = WN at *)
        have hnl := HGN.out.left
        obtain ⟨a5, l5, hr5, hb5⟩ := HGN.out.blk
        have HL4 := HLE4.out
        clear HL4
        obtain ⟨v6, bo6, hb6⟩ := HGN.out.box
        have hdn := rdone
        have HRD := Lib.hid (fun W (f : Frm NoS WN W) => rdone W _ _ st' (hr5.keep0 f).rst)
        have HBD := Lib.hid (fun W (f : Frm NoS WN W) => bad_f ib st' W (HGN.out.ins.keep f fun _ _ => id))
        have HLF := Lib.hid (fun W (f : Frm NoS WN W) => left_f ib st' W (HGN.out.ins.keep f fun _ _ => id))
        have HDN := Lib.hid (fun W (f : Frm NoS WN W) => done_f ib st' W (HGN.out.ins.keep f fun _ _ => id))
        have HB5 := Lib.hid hb5
        have HB6 := Lib.hid hb6
        clear hr5 hb5 hb6 hdn
        generalize hls' : (leftOf st').length = L' at *
        generalize hbs' : st'.isNone = bb' at *
        generalize doneOf st' = dd at *
        have HLS' := Lib.hid hls'; clear hls'
        have HBS' := Lib.hid hbs'; clear hbs'
        go_wp2_with fail
        obtain ⟨α, hne, KK, hK1, hK0, hK2⟩ := worlds WN
        have k0 := fun s => (hK1 s).cell' (cell_at' HB5.out 0 rfl) id
        have k1 := fun s => (hK1 s).cell' (cell_at' HB5.out 1 rfl) id
        refine wp_region_new KK (by kernel_rfl) (by kernel_rfl) hK0 ?_
        repeat (go_big_quiet_step ((first | (go_at_call 20; exact Calls.in_class hK2 (HRD.out _ (hK1 _))) | (go_at_call 17; exact Calls.in_class hK2 (HBD.out _ (hK1 _))) | (go_at_call 18; exact Calls.in_class hK2 (HLF.out _ (hK1 _))) | (go_at_call 19; exact Calls.in_class hK2 (HDN.out _ (hK1 _))))))
        refine wpQuiet_nil ?_
        intro w' hw'
        obtain ⟨s1, rfl⟩ := hw'
        have HW2 := Lib.hid (hK1 s1)
        clear k0 k1 hK0 hK2 hK1
        generalize KK s1 = w9 at *
        have HGM := Lib.hid ((HGN.out.keep0 HW2.out).move HLS'.out HBS'.out (HW2.out.blk HB5.out id))
        have z5 := HW2.out.blk HB5.out id
        have z6 := HW2.out.blk HB6.out id
        have y0 := cell_at' z5 0 rfl
        have y1 := cell_at' z5 1 rfl
        have y2 := cell_at' z6 0 rfl
        have y3 := cell_at' z6 1 rfl
        have y4 := free_at' z6 0
        have y5 := free_at' z6 1
        have y6 := lt_of_block z6
        clear z5 z6
        go_wp2
        go_roundw
        case rel => exact ⟨k + 1, st', by omega, by go_num, HGM.out⟩
        case measure => simp [intOf]; omega
      · go_simp
        first
          | (have q9 := HI4
             clear q9
             have hS10 := (⟨(Frm.alloc NoS W4 (.cells #[.slice none 0 0, .bool false] 51)).cell' hS4.1 id, (Frm.alloc NoS W4 (.cells #[.slice none 0 0, .bool false] 51)).cell' hS4.2.1 id, (Frm.alloc NoS W4 (.cells #[.slice none 0 0, .bool false] 51)).cell' hS4.2.2 id⟩ : ((W4.alloc (.cells #[.slice none 0 0, .bool false] 51)).cell? ⟨wb, 0, none⟩ = some (.slice a2 L l2) ∧ (W4.alloc (.cells #[.slice none 0 0, .bool false] 51)).cell? ⟨wb, 1, none⟩ = some (.bool bb) ∧ (W4.alloc (.cells #[.slice none 0 0, .bool false] 51)).cell? ⟨b, off + k, none⟩ = some (.int .u8 kd.toNat)))
             refine hK.out _ _ hS10 ?_
             clear hK K)
          | (have hSB := (⟨(Frm.alloc NoS Y0 (.cells #[.slice none 0 0, .bool false] 51)).cell' hS.1 id, (Frm.alloc NoS Y0 (.cells #[.slice none 0 0, .bool false] 51)).cell' hS.2.1 id, (Frm.alloc NoS Y0 (.cells #[.slice none 0 0, .bool false] 51)).cell' hS.2.2 id⟩ : ((Y0.alloc (.cells #[.slice none 0 0, .bool false] 51)).cell? ⟨wb, 0, none⟩ = some (.slice a2 L l2) ∧ (Y0.alloc (.cells #[.slice none 0 0, .bool false] 51)).cell? ⟨wb, 1, none⟩ = some (.bool bb) ∧ (Y0.alloc (.cells #[.slice none 0 0, .bool false] 51)).cell? ⟨b, off + k, none⟩ = some (.int .u8 kd.toNat)))
             have HALB := Lib.hid True.intro
             refine hK.out _ _ hSB ?_
             clear hK K)
        try simp only [Act.put, List.setIfInBounds_toArray, List.set_cons_zero, List.set_cons_succ]
        refine one_opG (i := 6) (by kernel_rfl) rfl (fun K hK => ?_)
        go_simp
        first
          | (have q9 := HALB
             clear q9
             refine (HG.out _ (HFD.out.then1 (Frm.alloc NoS Y0 (.cells #[.slice none 0 0, .bool false] 51)))).mono ?_
             rintro e4 W4 ⟨st', a4, l4, rfl, hi4, hr4, hf4, hle4⟩
             generalize hL4 : (leftOf st').length = L4 at *
             generalize hb4 : st'.isNone = b4 at *
             have HGN := Lib.hid (GL.stepB HGLD.out hf4 hi4 hr4 hL4 hb4 (by rw [HLS.out, hL4]; exact hle4))
             have hS4 := (⟨hf4.cell' hSB.1 HNW.out, hf4.cell' hSB.2.1 HNW.out, hf4.cell' hSB.2.2 HNB.out⟩ : (W4.cell? ⟨wb, 0, none⟩ = some (.slice a2 L l2) ∧ W4.cell? ⟨wb, 1, none⟩ = some (.bool bb) ∧ W4.cell? ⟨b, off + k, none⟩ = some (.int .u8 kd.toNat)))
             have x0 := cell_at' (hf4.blk (heap_alloc_new Y0 (.cells #[.slice none 0 0, .bool false] 51)) HNY.out) 0 rfl
             have x1 := cell_at' (hf4.blk (heap_alloc_new Y0 (.cells #[.slice none 0 0, .bool false] 51)) HNY.out) 1 rfl
             have x2 := free_at' (hf4.blk (heap_alloc_new Y0 (.cells #[.slice none 0 0, .bool false] 51)) HNY.out) 0
             have x3 := free_at' (hf4.blk (heap_alloc_new Y0 (.cells #[.slice none 0 0, .bool false] 51)) HNY.out) 1
             have x4 := lt_of_block (hf4.blk (heap_alloc_new Y0 (.cells #[.slice none 0 0, .bool false] 51)) HNY.out)
             have HB4 := Lib.hid (hf4.blk (heap_alloc_new Y0 (.cells #[.slice none 0 0, .bool false] 51)) HNY.out)
             have HLE4 := Lib.hid hL4
             have HBE4 := Lib.hid hb4
             clear hi4 hr4 hf4 hle4 hL4 hb4
             refine hK.out _ _ hS4 ?_
             clear hK K)
          | (refine (HG.out Y0 HFD.out).mono ?_
             rintro e4 W4 ⟨st', a4, l4, rfl, hi4, hr4, hf4, hle4⟩
             generalize hL4 : (leftOf st').length = L4 at *
             generalize hb4 : st'.isNone = b4 at *
             have HGN := Lib.hid (GL.stepA HGLD.out hf4 hi4 hr4 hL4 hb4 (by rw [HLS.out, hL4]; exact hle4))
             have hS4 := (⟨hf4.cell' hS.1 HNW.out, hf4.cell' hS.2.1 HNW.out, hf4.cell' hS.2.2 HNB.out⟩ : (W4.cell? ⟨wb, 0, none⟩ = some (.slice a2 L l2) ∧ W4.cell? ⟨wb, 1, none⟩ = some (.bool bb) ∧ W4.cell? ⟨b, off + k, none⟩ = some (.int .u8 kd.toNat)))
             have HI4 := Lib.hid True.intro
             have HLE4 := Lib.hid hL4
             have HBE4 := Lib.hid hb4
             clear hi4 hr4 hf4 hle4 hL4 hb4
             refine hK.out _ _ hS4 ?_
             clear hK K)
        try simp only [Act.put, List.setIfInBounds_toArray, List.set_cons_zero, List.set_cons_succ]
        refine take_opG 7 32 (v := ?_) rfl rfl (by kernel_rfl) (by kernel_rfl) (by decide) (by kernel_rfl) (by kernel_rfl) (fun _ _ _ h => h) (Or.inl ⟨by rfl, ?_⟩) (by assumption) ?_
        rotate_left 1
        · (intro w hSw; (try dsimp only at hSw); go_simp; (try with_reducible rfl))
        try simp only [Act.put, List.setIfInBounds_toArray, List.set_cons_zero, List.set_cons_succ]
        refine take_opG 8 40 (v := ?_) rfl rfl (by kernel_rfl) (by kernel_rfl) (by decide) (by kernel_rfl) (by kernel_rfl) (fun _ _ _ h => h) (Or.inl ⟨by rfl, ?_⟩) (by assumption) ?_
        rotate_left 1
        · (intro w hSw; (try dsimp only at hSw); go_simp; (try with_reducible rfl))
        try simp only [Act.put, List.setIfInBounds_toArray, List.set_cons_zero, List.set_cons_succ]
        refine take_opG 9 41 (v := ?_) rfl rfl (by kernel_rfl) (by kernel_rfl) (by decide) (by kernel_rfl) (by kernel_rfl) (fun _ _ _ h => h) (Or.inl ⟨by rfl, ?_⟩) (by assumption) ?_
        rotate_left 1
        · (intro w hSw; (try dsimp only at hSw); go_simp; (try with_reducible rfl))
        try simp only [Act.put, List.setIfInBounds_toArray, List.set_cons_zero, List.set_cons_succ]
        refine one_opG (i := 11) (by kernel_rfl) rfl (fun K hK => ?_)
        go_simp
        first
          | (have q9 := HI4
             clear q9
             have hS11 := (⟨(Frm.alloc NoS W4 (.cells #[.slice a4 L4 l4, .bool b4] 51)).cell' hS4.1 id, (Frm.alloc NoS W4 (.cells #[.slice a4 L4 l4, .bool b4] 51)).cell' hS4.2.1 id, (Frm.alloc NoS W4 (.cells #[.slice a4 L4 l4, .bool b4] 51)).cell' hS4.2.2 id⟩ : ((W4.alloc (.cells #[.slice a4 L4 l4, .bool b4] 51)).cell? ⟨wb, 0, none⟩ = some (.slice a2 L l2) ∧ (W4.alloc (.cells #[.slice a4 L4 l4, .bool b4] 51)).cell? ⟨wb, 1, none⟩ = some (.bool bb) ∧ (W4.alloc (.cells #[.slice a4 L4 l4, .bool b4] 51)).cell? ⟨b, off + k, none⟩ = some (.int .u8 kd.toNat)))
             refine hK.out _ _ hS11 ?_
             clear hK K)
          | (have hS11 := (⟨(two_set W4 Y0.heap.size (.slice a4 L4 l4) (.bool b4)).cell' hS4.1 HNX.out, (two_set W4 Y0.heap.size (.slice a4 L4 l4) (.bool b4)).cell' hS4.2.1 HNX.out, (two_set W4 Y0.heap.size (.slice a4 L4 l4) (.bool b4)).cell' hS4.2.2 HNZ.out⟩ : (((W4.setCell ⟨Y0.heap.size, 0, none⟩ (.slice a4 L4 l4)).setCell ⟨Y0.heap.size, 1, none⟩ (.bool b4)).cell? ⟨wb, 0, none⟩ = some (.slice a2 L l2) ∧ ((W4.setCell ⟨Y0.heap.size, 0, none⟩ (.slice a4 L4 l4)).setCell ⟨Y0.heap.size, 1, none⟩ (.bool b4)).cell? ⟨wb, 1, none⟩ = some (.bool bb) ∧ ((W4.setCell ⟨Y0.heap.size, 0, none⟩ (.slice a4 L4 l4)).setCell ⟨Y0.heap.size, 1, none⟩ (.bool b4)).cell? ⟨b, off + k, none⟩ = some (.int .u8 kd.toNat)))
             refine hK.out _ _ hS11 ?_
             clear hK K)
        try simp only [Act.put, List.setIfInBounds_toArray, List.set_cons_zero, List.set_cons_succ]
        refine last_opG (by kernel_rfl) (by kernel_rfl) rfl (fun K hK => ?_)
        go_simp
        refine hK.out _ _ ?_
        clear hK K
        first
          | (have q9 := HI4
             clear q9
             have HBK := Lib.hid (heap_alloc_new W4 (.cells #[.slice a4 L4 l4, .bool b4] 51))
             generalize W4.heap.size = nb at *
             generalize W4.alloc (.cells #[.slice a4 L4 l4, .bool b4] 51) = WN at *)
          | (have HBK := Lib.hid (set_at' (set_at' HB4.out 0 (.slice a4 L4 l4)) 1 (.bool b4))
             generalize Y0.heap.size = nb at *
             generalize (W4.setCell ⟨nb, 0, none⟩ (.slice a4 L4 l4)).setCell ⟨nb, 1, none⟩ (.bool b4) = WN at *)
        have hnl := HGN.out.left
        obtain ⟨a5, l5, hr5, hb5⟩ := HGN.out.blk
        have HL4 := HLE4.out
        clear HL4
        obtain ⟨v6, bo6, hb6⟩ := HGN.out.box
        have hdn := rdone
        have HRD := Lib.hid (fun W (f : Frm NoS WN W) => rdone W _ _ st' (hr5.keep0 f).rst)
        have HBD := Lib.hid (fun W (f : Frm NoS WN W) => bad_f ib st' W (HGN.out.ins.keep f fun _ _ => id))
        have HLF := Lib.hid (fun W (f : Frm NoS WN W) => left_f ib st' W (HGN.out.ins.keep f fun _ _ => id))
        have HDN := Lib.hid (fun W (f : Frm NoS WN W) => done_f ib st' W (HGN.out.ins.keep f fun _ _ => id))
        have HB5 := Lib.hid hb5
        have HB6 := Lib.hid hb6
        clear hr5 hb5 hb6 hdn
        generalize hls' : (leftOf st').length = L' at *
        generalize hbs' : st'.isNone = bb' at *
        generalize doneOf st' = dd at *
        have HLS' := Lib.hid hls'; clear hls'
        have HBS' := Lib.hid hbs'; clear hbs'
        go_wp2_with fail
        obtain ⟨α, hne, KK, hK1, hK0, hK2⟩ := worlds WN
        have k0 := fun s => (hK1 s).cell' (cell_at' HB5.out 0 rfl) id
        have k1 := fun s => (hK1 s).cell' (cell_at' HB5.out 1 rfl) id
        refine wp_region_new KK (by kernel_rfl) (by kernel_rfl) hK0 ?_
        repeat (go_big_quiet_step ((first | (go_at_call 20; exact Calls.in_class hK2 (HRD.out _ (hK1 _))) | (go_at_call 17; exact Calls.in_class hK2 (HBD.out _ (hK1 _))) | (go_at_call 18; exact Calls.in_class hK2 (HLF.out _ (hK1 _))) | (go_at_call 19; exact Calls.in_class hK2 (HDN.out _ (hK1 _))))))
        refine wpQuiet_nil ?_
        intro w' hw'
        obtain ⟨s1, rfl⟩ := hw'
        have HW2 := Lib.hid (hK1 s1)
        clear k0 k1 hK0 hK2 hK1
        generalize KK s1 = w9 at *
        have HGM := Lib.hid ((HGN.out.keep0 HW2.out).move HLS'.out HBS'.out (HW2.out.blk HB5.out id))
        have z5 := HW2.out.blk HB5.out id
        have z6 := HW2.out.blk HB6.out id
        have y0 := cell_at' z5 0 rfl
        have y1 := cell_at' z5 1 rfl
        have y2 := cell_at' z6 0 rfl
        have y3 := cell_at' z6 1 rfl
        have y4 := free_at' z6 0
        have y5 := free_at' z6 1
        have y6 := lt_of_block z6
        clear z5 z6
        go_wp2
        go_roundw
        case rel => exact ⟨k + 1, st', by omega, by go_num, HGM.out⟩
        case measure => simp [intOf]; omega
    · obtain rfl : m = k := by omega
      have HFR := Lib.hid hgl.frm
      clear hgl
      go_wp2
      go_ret
      exact ⟨rfl, HFR.out⟩
end Go.Proofs.YtggfoihfenlckaaGreat