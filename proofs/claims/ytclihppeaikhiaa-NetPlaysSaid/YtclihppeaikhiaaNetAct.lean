/- tributarylaw26.act: the walks of sending, doubling, spoiling. -/
import Derived.Test.YtclihppeaikhiaaNetTot
namespace Go.Proofs.Ytclihppeaikhiaa
open Go.RowKit

/-- What act's drawn regions leave as it is. -/
structure ActS (X0 : World) (ch n5 n6 n8 : Nat) (cap : Nat) (v1 : Value) (k dst : Int) (sb : Value) (y : Int) (w : World) : Prop where
  e0 : w.cell? ⟨n8, 0, none⟩ = some (.int .i64 cap)
  e1 : w.cell? ⟨n8, 1, none⟩ = some v1
  a1 : w.cell? ⟨n5, 1, none⟩ = some (.int .i64 k)
  a2 : w.cell? ⟨n5, 2, none⟩ = some (.int .i64 dst)
  a3 : w.cell? ⟨n5, 3, none⟩ = some sb
  a4 : w.cell? ⟨n5, 4, none⟩ = some (.int .u8 y)
  r : ∃ p q, w.heap[n6]? = some (.cells #[p, q] 76 (0, 0))
  frm : Frm (fun i => i = ch ∨ i = n6) X0 w
theorem ActS.keepCh {X0 : World} {ch n5 n6 n8 : Nat} {cap : Nat} {v1 : Value} {k dst : Int} {sb : Value} {y : Int} {w w' : World} (h : ActS X0 ch n5 n6 n8 cap v1 k dst sb y w) (f : Frm (fun i => i = ch) w w') (h5 : n5 ≠ ch) (h6 : n6 ≠ ch) (h8 : n8 ≠ ch) : ActS X0 ch n5 n6 n8 cap v1 k dst sb y w' := by
  obtain ⟨p, q, hr⟩ := h.r
  exact ⟨f.cell' h.e0 h8, f.cell' h.e1 h8, f.cell' h.a1 h5, f.cell' h.a2 h5, f.cell' h.a3 h5, f.cell' h.a4 h5, ⟨p, q, f.blk hr h6⟩, h.frm.trans f fun i _ h => .inl h⟩
theorem ActS.store {X0 : World} {ch n5 n6 n8 : Nat} {cap : Nat} {v1 : Value} {k dst : Int} {sb : Value} {y : Int} {w : World} (h : ActS X0 ch n5 n6 n8 cap v1 k dst sb y w) (h5 : n5 ≠ n6) (h8 : n8 ≠ n6) (a b : Value) :
    ActS X0 ch n5 n6 n8 cap v1 k dst sb y ((w.setCell ⟨n6, 0, none⟩ a).setCell ⟨n6, 1, none⟩ b) ∧ ((w.setCell ⟨n6, 0, none⟩ a).setCell ⟨n6, 1, none⟩ b).heap[n6]? = some (.cells #[a, b] 76 (0, 0)) := by
  have f := frm_set2 w n6 a b
  obtain ⟨p, q, hr⟩ := h.r
  have h2 := set_at (set_at hr 0 a) 1 b
  exact ⟨⟨f.cell' h.e0 h8, f.cell' h.e1 h8, f.cell' h.a1 h5, f.cell' h.a2 h5, f.cell' h.a3 h5, f.cell' h.a4 h5, ⟨_, _, h2⟩, h.frm.trans f fun i _ h => .inr h⟩, h2⟩
def ActPost (N : Nat → Prop) (w : World) (nb ch cap : Nat) (l' : List Par) (e : Ending) (w' : World) : Prop :=
  ∃ buf' v', e = .returned (.tuple #[.agg #[.int .i64 cap, v'], .bool true]) ∧ NetAt w' nb ch cap buf' l' ∧ RefAt N w' v' l' ∧ Frm (fun i => i = ch) w w'
/-- The end of an act: the document's net is stored into the result. -/
theorem act_fin {N : Nat → Prop} {w w1 X0 X1 : World} {nb ch cap n6 : Nat} {buf0 buf buf' : List Value} {l l' : List Par} {av : Option Addr} {n cv : Nat} (h0 : NetAt w nb ch cap buf0 l) (hf1 : Frm (fun _ => False) w w1) (hf2 : Frm (fun _ => False) w1 X0) (hx : NetAt X0 nb ch cap buf l) (f : Frm (fun i => i = ch) X0 X1) (h1 : NetAt X1 nb ch cap buf' l')
    (hr : RefAt (fun k => N k ∨ k = n6) w1 (.slice av n cv) l') (h6 : ∃ p q, X1.heap[n6]? = some (.cells #[p, q] 76 (0, 0))) (hn6 : w.heap.size ≤ n6) (a : Value) :
    NetAt ((X1.setCell ⟨n6, 0, none⟩ a).setCell ⟨n6, 1, none⟩ (.slice av n cv)) nb ch cap buf' l' ∧ RefAt N ((X1.setCell ⟨n6, 0, none⟩ a).setCell ⟨n6, 1, none⟩ (.slice av n cv)) (.slice av n cv) l' ∧
      Frm (fun i => i = ch) w ((X1.setCell ⟨n6, 0, none⟩ a).setCell ⟨n6, 1, none⟩ (.slice av n cv)) := by
  obtain ⟨p, q, h6⟩ := h6
  have fs := frm_set2 X1 n6 a (.slice av n cv)
  have hcl := h0.clt
  have hnl := h0.nlt
  refine ⟨h1.keep fs (fun h => by have h1 : nb = n6 := h; omega) (fun h => by have h1 : ch = n6 := h; omega) (fun i hi => .inr fun cur hc => ?_), ?_, ?_⟩
  · have h1 : i = n6 := hi
    rw [h1, h6] at hc
    cases hc
  · exact (((hr.keepCell hf2.cells0).keepCell (hx.cells f)).keepNo fun p u hp hu => fs.cell' hu (fun h => hp (.inr h))).sub (fun k h => .inl h)
  · exact ((((hf1.trans hf2 fun _ _ h => h).mono fun _ _ h => h.elim).trans f fun i _ h => h).trans fs fun i hi h => by have h1 : i = n6 := h; omega)

set_option linter.unusedSimpArgs false in
set_option maxHeartbeats 4000000 in
set_option maxRecDepth 1000000 in
theorem act_send (N : Nat → Prop) (w : World) (hN : ∀ k, N k → k < w.heap.size) (nb ch cap : Nat) (buf : List Value) (l : List Par) (h : NetAt w nb ch cap buf l) (aL : Option Addr) (cL : Nat) (hv : RefAt N w (.slice aL l.length cL) l) (k dst : Int) (bs : List UInt8) (ab : Option Addr) (cb : Nat) (hb : Rd w (.slice ab bs.length cb) bs.length (bV bs)) (hbl : bs.length ≤ 300) (hbn : NotIn N bs.length (.slice ab bs.length cb)) (y : UInt8) :
    Calls Try.prog 39 #[.pointer (some ⟨nb, 0, none⟩), .agg #[.int .i64 cap, .slice aL l.length cL], .agg #[.int .u8 0, .int .i64 k, .int .i64 dst, .slice ab bs.length cb, .int .u8 (y.toNat : Int)]] w (ActPost N w nb ch cap (sndL cap l (dst, bs))) := by
  have hcl := h.clt
  have hnl := h.nlt
  have hlen : l.length ≤ 1000 := by have := h.pars.1; have := h.room; have := h.capb; omega
  have hpl : ∀ p ∈ l, p.2.length ≤ 140737488355328 := fun p hp => by
    obtain ⟨i, hi, rfl⟩ := List.getElem_of_mem hp
    obtain ⟨_, _, _, _, h3, _⟩ := h.pars.2 i _ _ (List.getElem?_eq_getElem (by rw [h.pars.1]; exact hi)) (List.getElem?_eq_getElem hi)
    exact h3
  obtain ⟨W3, hW3⟩ : ∃ W3, W3 = (((w.alloc (.cells #[.int .i64 cap, .slice aL l.length cL] 76)).alloc (.cells #[.int .u8 0, .int .i64 k, .int .i64 dst, .slice ab bs.length cb, .int .u8 (y.toNat : Int)] 80)).alloc (.cells #[.int .i64 0, .slice none 0 0] 76)) := ⟨_, rfl⟩
  have fW : Frm (fun _ => False) w W3 := by rw [hW3]; exact ((Frm.alloc _ w _).trans (Frm.alloc _ _ _) fun _ _ h => h).trans (Frm.alloc _ _ _) fun _ _ h => h
  have hn : W3.heap.size = w.heap.size + 1 + 1 + 1 := by rw [hW3]; simp
  have b5 : W3.heap[w.heap.size + 1]? = some (.cells #[.int .u8 0, .int .i64 k, .int .i64 dst, .slice ab bs.length cb, .int .u8 (y.toNat : Int)] 80) := by
    rw [hW3, Below.heap_alloc _ _ _ (by simp)]
    have := heap_alloc_new (w.alloc (.cells #[.int .i64 cap, .slice aL l.length cL] 76)) (.cells #[.int .u8 0, .int .i64 k, .int .i64 dst, .slice ab bs.length cb, .int .u8 (y.toNat : Int)] 80)
    simpa only [World.size_alloc] using this
  have b6 : W3.heap[w.heap.size + 1 + 1]? = some (.cells #[.int .i64 0, .slice none 0 0] 76 (0, 0)) := by
    rw [hW3]
    have := heap_alloc_new ((w.alloc (.cells #[.int .i64 cap, .slice aL l.length cL] 76)).alloc (.cells #[.int .u8 0, .int .i64 k, .int .i64 dst, .slice ab bs.length cb, .int .u8 (y.toNat : Int)] 80)) (.cells #[.int .i64 0, .slice none 0 0] 76)
    simpa only [World.size_alloc] using this
  have hrc := rsend_tot (fun k => N k ∨ k = w.heap.size + 1 + 1) W3 (fun k h => h.elim (fun h => by have := hN k h; omega) (fun h => by omega)) cap aL cL l ab cb dst bs ((hv.or (M := fun k => k = w.heap.size + 1 + 1) (fun k h e => by omega)).keepCell fW.cells0) (hb.keepCell fW.cells0) (fun hz j hj hs => hs.elim (hbn hz j hj) (rd_old (N := fun k => k = w.heap.size + 1 + 1) hb (fun k h e => by omega) hz j hj)) hlen
  rw [hW3] at hrc
  have HRC := Lib.hid hrc; clear hrc
  have H := Lib.hid h; clear h
  have HB := Lib.hid hb; clear hb
  have FW := Lib.hid fW; clear fW
  have B5 := Lib.hid b5; clear b5
  have B6 := Lib.hid b6; clear b6
  have HN := Lib.hid hn; clear hn
  have HW3 := Lib.hid hW3; clear hW3
  clear hv hpl
  go_enter Try.func39, Try.ntmps39
  go_wp2_with fail
  refine HRC.out.mono ?_
  rintro e w1 ⟨v1, rfl, hr1, hf1⟩
  rw [← HW3.out] at hf1
  obtain ⟨av, cv, rfl⟩ := hr1.shape
  obtain ⟨l', hl'⟩ : ∃ l', l' = sndL cap l (dst, bs) := ⟨_, rfl⟩
  obtain ⟨cd, hcd⟩ : ∃ cd : Int, cd = sndC cap l := ⟨_, rfl⟩
  obtain ⟨X0, hX0⟩ : ∃ X0, X0 = (w1.alloc (.cells #[.int .i64 cap, .slice av (sndL cap l (dst, bs)).length cv] 76)).drew := ⟨_, rfl⟩
  have fX : Frm (fun _ => False) w1 X0 := by rw [hX0]; exact (Frm.alloc _ w1 _).trans (Frm.drew _ _) fun _ _ h => h
  have b8 : X0.heap[w1.heap.size]? = some (.cells #[.int .i64 cap, .slice av (sndL cap l (dst, bs)).length cv] 76) := by
    rw [hX0]; exact heap_alloc_new w1 _
  have b5' := fX.blk (hf1.blk B5.out id) id
  have b6' := fX.blk (hf1.blk B6.out id) id
  have hw1 := hf1.size
  have hn3 := HN.out
  have fw1 := FW.out.trans hf1 fun _ _ h => h
  have fwX := fw1.trans fX fun _ _ h => h
  have hnX := H.out.keep0 fwX
  have hS : ActS X0 ch (w.heap.size + 1) (w.heap.size + 1 + 1) w1.heap.size cap (.slice av (sndL cap l (dst, bs)).length cv) k dst (.slice ab bs.length cb) (y.toNat : Int) X0 :=
    ⟨cell_at b8 0 rfl, cell_at b8 1 rfl, cell_at b5' 1 rfl, cell_at b5' 2 rfl, cell_at b5' 3 rfl, cell_at b5' 4 rfl, ⟨_, _, b6'⟩, Frm.refl _ _⟩
  have hpc := send_tot X0 nb ch cap buf l dst (.slice ab bs.length cb) bs hnX (HB.out.keep fwX fun _ _ => id) (by omega)
  rw [← hl', ← hcd] at hpc
  rw [← hl'] at hr1 hS hX0
  rw [← hl', ← hcd]
  have HL := Lib.hid hl'
  have HPC := Lib.hid hpc; clear hpc
  have HS := Lib.hid hS; clear hS
  have HX0 := Lib.hid hX0; clear hX0
  have HR1 := Lib.hid hr1; clear hr1
  have HF1 := Lib.hid fw1; clear fw1
  have FX := Lib.hid fX; clear fX
  have HNX := Lib.hid hnX; clear hnX
  clear hl' hcd b8 b5' b6' fwX hf1
  have n5c : w.heap.size + 1 ≠ ch := by omega
  have n6c : w.heap.size + 1 + 1 ≠ ch := by omega
  have n8c : w1.heap.size ≠ ch := by omega
  have n56 : w.heap.size + 1 ≠ w.heap.size + 1 + 1 := by omega
  have n86 : w1.heap.size ≠ w.heap.size + 1 + 1 := by omega
  go_wp2_with fail
  have hS := HS.out
  refine wp_region_held_drew (S := ActS X0 ch (w.heap.size + 1) (w.heap.size + 1 + 1) w1.heap.size cap (.slice av l'.length cv) k dst (.slice ab bs.length cb) (y.toNat : Int)) (by kernel_rfl) (by rw [← HX0.out]; exact hS) (fun hHeld => ?_)
  rw [← HX0.out] at hHeld ⊢
  refine take_op 0 33 (v := ?_) rfl rfl (by kernel_rfl) (by kernel_rfl) (by kernel_rfl) (fun _ _ _ h => h) (Or.inl ⟨by rfl, ?_⟩) (by assumption) ?_
  rotate_left 1
  · (intro w hSw; obtain ⟨s0, s1, s2, s3, s4, s5, s6, s7⟩ := hSw; clear s6 s7; go_simp; (try with_reducible rfl))
  try simp only [Act.put, List.setIfInBounds_toArray, List.set_cons_zero, List.set_cons_succ]
  refine take_op 1 34 (v := ?_) rfl rfl (by kernel_rfl) (by kernel_rfl) (by kernel_rfl) (fun _ _ _ h => h) (Or.inl ⟨by rfl, ?_⟩) (by assumption) ?_
  rotate_left 1
  · (intro w hSw; obtain ⟨s0, s1, s2, s3, s4, s5, s6, s7⟩ := hSw; clear s6 s7; go_simp; (try with_reducible rfl))
  try simp only [Act.put, List.setIfInBounds_toArray, List.set_cons_zero, List.set_cons_succ]
  refine take_op 2 35 (v := ?_) rfl rfl (by kernel_rfl) (by kernel_rfl) (by kernel_rfl) (fun _ _ _ h => h) (Or.inl ⟨by rfl, ?_⟩) (by assumption) ?_
  rotate_left 1
  · (intro w hSw; obtain ⟨s0, s1, s2, s3, s4, s5, s6, s7⟩ := hSw; clear s6 s7; go_simp; (try with_reducible rfl))
  try simp only [Act.put, List.setIfInBounds_toArray, List.set_cons_zero, List.set_cons_succ]
  refine take_op 3 36 (v := ?_) rfl rfl (by kernel_rfl) (by kernel_rfl) (by kernel_rfl) (fun _ _ _ h => h) (Or.inl ⟨by rfl, ?_⟩) (by assumption) ?_
  rotate_left 1
  · (intro w hSw; obtain ⟨s0, s1, s2, s3, s4, s5, s6, s7⟩ := hSw; clear s6 s7; go_simp; (try with_reducible rfl))
  try simp only [Act.put, List.setIfInBounds_toArray, List.set_cons_zero, List.set_cons_succ]
  refine take_op 4 37 (v := ?_) rfl rfl (by kernel_rfl) (by kernel_rfl) (by kernel_rfl) (fun _ _ _ h => h) (Or.inl ⟨by rfl, ?_⟩) (by assumption) ?_
  rotate_left 1
  · (intro w hSw; obtain ⟨s0, s1, s2, s3, s4, s5, s6, s7⟩ := hSw; clear s6 s7; go_simp; (try with_reducible rfl))
  try simp only [Act.put, List.setIfInBounds_toArray, List.set_cons_zero, List.set_cons_succ]
  refine take_op 5 38 (v := ?_) rfl rfl (by kernel_rfl) (by kernel_rfl) (by kernel_rfl) (fun _ _ _ h => h) (Or.inl ⟨by rfl, ?_⟩) (by assumption) ?_
  rotate_left 1
  · (intro w hSw; obtain ⟨s0, s1, s2, s3, s4, s5, s6, s7⟩ := hSw; clear s6 s7; go_simp; (try with_reducible rfl))
  try simp only [Act.put, List.setIfInBounds_toArray, List.set_cons_zero, List.set_cons_succ]
  refine take_op 6 39 (v := ?_) rfl rfl (by kernel_rfl) (by kernel_rfl) (by kernel_rfl) (fun _ _ _ h => h) (Or.inl ⟨by rfl, ?_⟩) (by assumption) ?_
  rotate_left 1
  · (intro w hSw; obtain ⟨s0, s1, s2, s3, s4, s5, s6, s7⟩ := hSw; clear s6 s7; go_simp; (try with_reducible rfl))
  try simp only [Act.put, List.setIfInBounds_toArray, List.set_cons_zero, List.set_cons_succ]
  refine take_op 8 41 (v := ?_) rfl rfl (by kernel_rfl) (by kernel_rfl) (by kernel_rfl) (fun _ _ _ h => h) (Or.inl ⟨by rfl, ?_⟩) (by assumption) ?_
  rotate_left 1
  · (intro w hSw; obtain ⟨s0, s1, s2, s3, s4, s5, s6, s7⟩ := hSw; clear s6 s7; go_simp; (try with_reducible rfl))
  try simp only [Act.put, List.setIfInBounds_toArray, List.set_cons_zero, List.set_cons_succ]
  clear hHeld
  refine wpAnyH_ready (rs := [7]) (by kernel_rfl) (by simp) ?_
  refine AllReadyH.cons rfl (fun KK hK => ?_) AllReadyH.nil
  go_simp
  go_wp2_with (go_at_call 22; refine HPC.out.mono ?_; rintro e X1 ⟨buf1, rfl, hn1, hf1⟩)
  have hS1 := hS.keepCh hf1 n5c n6c n8c
  have HN1 := Lib.hid hn1; clear hn1
  have HFX := Lib.hid hf1; clear hf1
  refine hK.out _ _ hS1 (fun _ => ?_)
  clear hK KK
  try simp only [Act.put, List.setIfInBounds_toArray, List.set_cons_zero, List.set_cons_succ]
  refine take_op 9 42 (v := ?_) rfl rfl (by kernel_rfl) (by kernel_rfl) (by kernel_rfl) (fun _ _ _ h => h) (Or.inl ⟨by rfl, ?_⟩) (by assumption) ?_
  rotate_left 1
  · (intro w hSw; obtain ⟨s0, s1, s2, s3, s4, s5, s6, s7⟩ := hSw; clear s6 s7; go_simp; (try with_reducible rfl))
  try simp only [Act.put, List.setIfInBounds_toArray, List.set_cons_zero, List.set_cons_succ]
  refine wpAnyH_ready (rs := [10]) (by kernel_rfl) (by simp) ?_
  refine AllReadyH.cons rfl (fun KK hK => ?_) AllReadyH.nil
  obtain ⟨p0, q0, hr⟩ := hS1.r
  have e0 : X1.cell? ⟨w.heap.size + 1 + 1, 0, none⟩ = some p0 := cell_at hr 0 rfl
  have e1 : X1.cell? ⟨w.heap.size + 1 + 1, 1, none⟩ = some q0 := cell_at hr 1 rfl
  have e2 := free_at hr 0
  have e3 := free_at hr 1
  have hst := hS1.store n56 n86 (.int .i64 cap) (.slice av l'.length cv)
  have hfin := act_fin H.out HF1.out FX.out HNX.out HFX.out HN1.out HR1.out ⟨_, _, hr⟩ (by omega) (.int .i64 cap)
  have HFIN := Lib.hid hfin; clear hfin
  have HST := Lib.hid hst; clear hst
  clear hr
  go_simp
  refine hK.out _ _ HST.out.1 (fun hHeld => ?_)
  clear hK KK e0 e1 e2 e3
  try simp only [Act.put, List.setIfInBounds_toArray, List.set_cons_zero, List.set_cons_succ]
  refine take_op 11 7 (v := .bool true) rfl rfl (by kernel_rfl) (by kernel_rfl) (by kernel_rfl) (fun _ _ _ h => h) (Or.inl ⟨by rfl, ?_⟩) (by assumption) ?_
  · (intro w hSw; obtain ⟨s0, s1, s2, s3, s4, s5, s6, s7⟩ := hSw; clear s6 s7; go_simp; (try with_reducible rfl))
  try simp only [Act.put, List.setIfInBounds_toArray, List.set_cons_zero, List.set_cons_succ]
  refine wpAnyH_done (by kernel_rfl) ?_ _
  clear hS hS1 hHeld
  have z0 := cell_at HST.out.2 0 rfl
  have z1 := cell_at HST.out.2 1 rfl
  simp at z0 z1
  go_wp2
  exact bodyPost_ret (v := .tuple #[.agg #[.int .i64 cap, .slice av l'.length cv], .bool true]) (by simp [results, Try.results39, go_sem, z0, z1]) rfl ⟨_, _, rfl, by rw [← HL.out]; exact HFIN.out⟩
set_option linter.unusedSimpArgs false in
set_option maxHeartbeats 4000000 in
set_option maxRecDepth 1000000 in
theorem act_double (N : Nat → Prop) (w : World) (hN : ∀ k, N k → k < w.heap.size) (nb ch cap : Nat) (buf : List Value) (l : List Par) (h : NetAt w nb ch cap buf l) (aL : Option Addr) (cL : Nat) (hv : RefAt N w (.slice aL l.length cL) l) (k dst : Int) (bs : List UInt8) (ab : Option Addr) (cb : Nat) (hb : Rd w (.slice ab bs.length cb) bs.length (bV bs)) (_ : bs.length ≤ 300) (_ : NotIn N bs.length (.slice ab bs.length cb)) (y : UInt8) :
    Calls Try.prog 39 #[.pointer (some ⟨nb, 0, none⟩), .agg #[.int .i64 cap, .slice aL l.length cL], .agg #[.int .u8 2, .int .i64 k, .int .i64 dst, .slice ab bs.length cb, .int .u8 (y.toNat : Int)]] w (ActPost N w nb ch cap (dbL cap l k)) := by
  have hcl := h.clt
  have hnl := h.nlt
  have hlen : l.length ≤ 1000 := by have := h.pars.1; have := h.room; have := h.capb; omega
  have hpl : ∀ p ∈ l, p.2.length ≤ 140737488355328 := fun p hp => by
    obtain ⟨i, hi, rfl⟩ := List.getElem_of_mem hp
    obtain ⟨_, _, _, _, h3, _⟩ := h.pars.2 i _ _ (List.getElem?_eq_getElem (by rw [h.pars.1]; exact hi)) (List.getElem?_eq_getElem hi)
    exact h3
  obtain ⟨W3, hW3⟩ : ∃ W3, W3 = (((w.alloc (.cells #[.int .i64 cap, .slice aL l.length cL] 76)).alloc (.cells #[.int .u8 2, .int .i64 k, .int .i64 dst, .slice ab bs.length cb, .int .u8 (y.toNat : Int)] 80)).alloc (.cells #[.int .i64 0, .slice none 0 0] 76)) := ⟨_, rfl⟩
  have fW : Frm (fun _ => False) w W3 := by rw [hW3]; exact ((Frm.alloc _ w _).trans (Frm.alloc _ _ _) fun _ _ h => h).trans (Frm.alloc _ _ _) fun _ _ h => h
  have hn : W3.heap.size = w.heap.size + 1 + 1 + 1 := by rw [hW3]; simp
  have b5 : W3.heap[w.heap.size + 1]? = some (.cells #[.int .u8 2, .int .i64 k, .int .i64 dst, .slice ab bs.length cb, .int .u8 (y.toNat : Int)] 80) := by
    rw [hW3, Below.heap_alloc _ _ _ (by simp)]
    have := heap_alloc_new (w.alloc (.cells #[.int .i64 cap, .slice aL l.length cL] 76)) (.cells #[.int .u8 2, .int .i64 k, .int .i64 dst, .slice ab bs.length cb, .int .u8 (y.toNat : Int)] 80)
    simpa only [World.size_alloc] using this
  have b6 : W3.heap[w.heap.size + 1 + 1]? = some (.cells #[.int .i64 0, .slice none 0 0] 76 (0, 0)) := by
    rw [hW3]
    have := heap_alloc_new ((w.alloc (.cells #[.int .i64 cap, .slice aL l.length cL] 76)).alloc (.cells #[.int .u8 2, .int .i64 k, .int .i64 dst, .slice ab bs.length cb, .int .u8 (y.toNat : Int)] 80)) (.cells #[.int .i64 0, .slice none 0 0] 76)
    simpa only [World.size_alloc] using this
  have hrc := rdouble_tot (fun k => N k ∨ k = w.heap.size + 1 + 1) W3 (fun k h => h.elim (fun h => by have := hN k h; omega) (fun h => by omega)) cap aL cL l k ((hv.or (M := fun k => k = w.heap.size + 1 + 1) (fun k h e => by omega)).keepCell fW.cells0) hlen
  rw [hW3] at hrc
  have HRC := Lib.hid hrc; clear hrc
  have H := Lib.hid h; clear h
  have HB := Lib.hid hb; clear hb
  have FW := Lib.hid fW; clear fW
  have B5 := Lib.hid b5; clear b5
  have B6 := Lib.hid b6; clear b6
  have HN := Lib.hid hn; clear hn
  have HW3 := Lib.hid hW3; clear hW3
  clear hv hpl
  go_enter Try.func39, Try.ntmps39
  go_wp2_with fail
  refine HRC.out.mono ?_
  rintro e w1 ⟨v1, rfl, hr1, hf1⟩
  rw [← HW3.out] at hf1
  obtain ⟨av, cv, rfl⟩ := hr1.shape
  obtain ⟨l', hl'⟩ : ∃ l', l' = dbL cap l k := ⟨_, rfl⟩
  obtain ⟨cd, hcd⟩ : ∃ cd : Int, cd = dbC cap l k := ⟨_, rfl⟩
  obtain ⟨X0, hX0⟩ : ∃ X0, X0 = (w1.alloc (.cells #[.int .i64 cap, .slice av (dbL cap l k).length cv] 76)).drew := ⟨_, rfl⟩
  have fX : Frm (fun _ => False) w1 X0 := by rw [hX0]; exact (Frm.alloc _ w1 _).trans (Frm.drew _ _) fun _ _ h => h
  have b8 : X0.heap[w1.heap.size]? = some (.cells #[.int .i64 cap, .slice av (dbL cap l k).length cv] 76) := by
    rw [hX0]; exact heap_alloc_new w1 _
  have b5' := fX.blk (hf1.blk B5.out id) id
  have b6' := fX.blk (hf1.blk B6.out id) id
  have hw1 := hf1.size
  have hn3 := HN.out
  have fw1 := FW.out.trans hf1 fun _ _ h => h
  have fwX := fw1.trans fX fun _ _ h => h
  have hnX := H.out.keep0 fwX
  have hS : ActS X0 ch (w.heap.size + 1) (w.heap.size + 1 + 1) w1.heap.size cap (.slice av (dbL cap l k).length cv) k dst (.slice ab bs.length cb) (y.toNat : Int) X0 :=
    ⟨cell_at b8 0 rfl, cell_at b8 1 rfl, cell_at b5' 1 rfl, cell_at b5' 2 rfl, cell_at b5' 3 rfl, cell_at b5' 4 rfl, ⟨_, _, b6'⟩, Frm.refl _ _⟩
  have hpc := double_tot X0 nb ch cap buf l k hnX
  rw [← hl', ← hcd] at hpc
  rw [← hl'] at hr1 hS hX0
  rw [← hl', ← hcd]
  have HL := Lib.hid hl'
  have HPC := Lib.hid hpc; clear hpc
  have HS := Lib.hid hS; clear hS
  have HX0 := Lib.hid hX0; clear hX0
  have HR1 := Lib.hid hr1; clear hr1
  have HF1 := Lib.hid fw1; clear fw1
  have FX := Lib.hid fX; clear fX
  have HNX := Lib.hid hnX; clear hnX
  clear hl' hcd b8 b5' b6' fwX hf1
  have n5c : w.heap.size + 1 ≠ ch := by omega
  have n6c : w.heap.size + 1 + 1 ≠ ch := by omega
  have n8c : w1.heap.size ≠ ch := by omega
  have n56 : w.heap.size + 1 ≠ w.heap.size + 1 + 1 := by omega
  have n86 : w1.heap.size ≠ w.heap.size + 1 + 1 := by omega
  go_wp2_with fail
  have hS := HS.out
  refine wp_region_held_drew (S := ActS X0 ch (w.heap.size + 1) (w.heap.size + 1 + 1) w1.heap.size cap (.slice av l'.length cv) k dst (.slice ab bs.length cb) (y.toNat : Int)) (by kernel_rfl) (by rw [← HX0.out]; exact hS) (fun hHeld => ?_)
  rw [← HX0.out] at hHeld ⊢
  refine take_op 0 89 (v := ?_) rfl rfl (by kernel_rfl) (by kernel_rfl) (by kernel_rfl) (fun _ _ _ h => h) (Or.inl ⟨by rfl, ?_⟩) (by assumption) ?_
  rotate_left 1
  · (intro w hSw; obtain ⟨s0, s1, s2, s3, s4, s5, s6, s7⟩ := hSw; clear s6 s7; go_simp; (try with_reducible rfl))
  try simp only [Act.put, List.setIfInBounds_toArray, List.set_cons_zero, List.set_cons_succ]
  refine take_op 1 90 (v := ?_) rfl rfl (by kernel_rfl) (by kernel_rfl) (by kernel_rfl) (fun _ _ _ h => h) (Or.inl ⟨by rfl, ?_⟩) (by assumption) ?_
  rotate_left 1
  · (intro w hSw; obtain ⟨s0, s1, s2, s3, s4, s5, s6, s7⟩ := hSw; clear s6 s7; go_simp; (try with_reducible rfl))
  try simp only [Act.put, List.setIfInBounds_toArray, List.set_cons_zero, List.set_cons_succ]
  refine take_op 2 91 (v := ?_) rfl rfl (by kernel_rfl) (by kernel_rfl) (by kernel_rfl) (fun _ _ _ h => h) (Or.inl ⟨by rfl, ?_⟩) (by assumption) ?_
  rotate_left 1
  · (intro w hSw; obtain ⟨s0, s1, s2, s3, s4, s5, s6, s7⟩ := hSw; clear s6 s7; go_simp; (try with_reducible rfl))
  try simp only [Act.put, List.setIfInBounds_toArray, List.set_cons_zero, List.set_cons_succ]
  refine take_op 3 92 (v := ?_) rfl rfl (by kernel_rfl) (by kernel_rfl) (by kernel_rfl) (fun _ _ _ h => h) (Or.inl ⟨by rfl, ?_⟩) (by assumption) ?_
  rotate_left 1
  · (intro w hSw; obtain ⟨s0, s1, s2, s3, s4, s5, s6, s7⟩ := hSw; clear s6 s7; go_simp; (try with_reducible rfl))
  try simp only [Act.put, List.setIfInBounds_toArray, List.set_cons_zero, List.set_cons_succ]
  refine take_op 5 94 (v := ?_) rfl rfl (by kernel_rfl) (by kernel_rfl) (by kernel_rfl) (fun _ _ _ h => h) (Or.inl ⟨by rfl, ?_⟩) (by assumption) ?_
  rotate_left 1
  · (intro w hSw; obtain ⟨s0, s1, s2, s3, s4, s5, s6, s7⟩ := hSw; clear s6 s7; go_simp; (try with_reducible rfl))
  try simp only [Act.put, List.setIfInBounds_toArray, List.set_cons_zero, List.set_cons_succ]
  clear hHeld
  refine wpAnyH_ready (rs := [4]) (by kernel_rfl) (by simp) ?_
  refine AllReadyH.cons rfl (fun KK hK => ?_) AllReadyH.nil
  go_simp
  go_wp2_with (go_at_call 42; refine HPC.out.mono ?_; rintro e X1 ⟨buf1, rfl, hn1, hf1⟩)
  have hS1 := hS.keepCh hf1 n5c n6c n8c
  have HN1 := Lib.hid hn1; clear hn1
  have HFX := Lib.hid hf1; clear hf1
  refine hK.out _ _ hS1 (fun _ => ?_)
  clear hK KK
  try simp only [Act.put, List.setIfInBounds_toArray, List.set_cons_zero, List.set_cons_succ]
  refine take_op 6 95 (v := ?_) rfl rfl (by kernel_rfl) (by kernel_rfl) (by kernel_rfl) (fun _ _ _ h => h) (Or.inl ⟨by rfl, ?_⟩) (by assumption) ?_
  rotate_left 1
  · (intro w hSw; obtain ⟨s0, s1, s2, s3, s4, s5, s6, s7⟩ := hSw; clear s6 s7; go_simp; (try with_reducible rfl))
  try simp only [Act.put, List.setIfInBounds_toArray, List.set_cons_zero, List.set_cons_succ]
  refine wpAnyH_ready (rs := [7]) (by kernel_rfl) (by simp) ?_
  refine AllReadyH.cons rfl (fun KK hK => ?_) AllReadyH.nil
  obtain ⟨p0, q0, hr⟩ := hS1.r
  have e0 : X1.cell? ⟨w.heap.size + 1 + 1, 0, none⟩ = some p0 := cell_at hr 0 rfl
  have e1 : X1.cell? ⟨w.heap.size + 1 + 1, 1, none⟩ = some q0 := cell_at hr 1 rfl
  have e2 := free_at hr 0
  have e3 := free_at hr 1
  have hst := hS1.store n56 n86 (.int .i64 cap) (.slice av l'.length cv)
  have hfin := act_fin H.out HF1.out FX.out HNX.out HFX.out HN1.out HR1.out ⟨_, _, hr⟩ (by omega) (.int .i64 cap)
  have HFIN := Lib.hid hfin; clear hfin
  have HST := Lib.hid hst; clear hst
  clear hr
  go_simp
  refine hK.out _ _ HST.out.1 (fun hHeld => ?_)
  clear hK KK e0 e1 e2 e3
  try simp only [Act.put, List.setIfInBounds_toArray, List.set_cons_zero, List.set_cons_succ]
  refine take_op 8 7 (v := .bool true) rfl rfl (by kernel_rfl) (by kernel_rfl) (by kernel_rfl) (fun _ _ _ h => h) (Or.inl ⟨by rfl, ?_⟩) (by assumption) ?_
  · (intro w hSw; obtain ⟨s0, s1, s2, s3, s4, s5, s6, s7⟩ := hSw; clear s6 s7; go_simp; (try with_reducible rfl))
  try simp only [Act.put, List.setIfInBounds_toArray, List.set_cons_zero, List.set_cons_succ]
  refine wpAnyH_done (by kernel_rfl) ?_ _
  clear hS hS1 hHeld
  have z0 := cell_at HST.out.2 0 rfl
  have z1 := cell_at HST.out.2 1 rfl
  simp at z0 z1
  go_wp2
  exact bodyPost_ret (v := .tuple #[.agg #[.int .i64 cap, .slice av l'.length cv], .bool true]) (by simp [results, Try.results39, go_sem, z0, z1]) rfl ⟨_, _, rfl, by rw [← HL.out]; exact HFIN.out⟩
set_option linter.unusedSimpArgs false in
set_option maxHeartbeats 4000000 in
set_option maxRecDepth 1000000 in
theorem act_spoil (N : Nat → Prop) (w : World) (hN : ∀ k, N k → k < w.heap.size) (nb ch cap : Nat) (buf : List Value) (l : List Par) (h : NetAt w nb ch cap buf l) (aL : Option Addr) (cL : Nat) (hv : RefAt N w (.slice aL l.length cL) l) (k dst : Int) (bs : List UInt8) (ab : Option Addr) (cb : Nat) (hb : Rd w (.slice ab bs.length cb) bs.length (bV bs)) (_ : bs.length ≤ 300) (_ : NotIn N bs.length (.slice ab bs.length cb)) (y : UInt8) (kd : Int) (d0 : (kd == 0) = false) (d1 : (kd == 1) = false) (d2 : (kd == 2) = false) :
    Calls Try.prog 39 #[.pointer (some ⟨nb, 0, none⟩), .agg #[.int .i64 cap, .slice aL l.length cL], .agg #[.int .u8 kd, .int .i64 k, .int .i64 dst, .slice ab bs.length cb, .int .u8 (y.toNat : Int)]] w (ActPost N w nb ch cap (spL l k dst y)) := by
  have hcl := h.clt
  have hnl := h.nlt
  have hlen : l.length ≤ 1000 := by have := h.pars.1; have := h.room; have := h.capb; omega
  have hpl : ∀ p ∈ l, p.2.length ≤ 140737488355328 := fun p hp => by
    obtain ⟨i, hi, rfl⟩ := List.getElem_of_mem hp
    obtain ⟨_, _, _, _, h3, _⟩ := h.pars.2 i _ _ (List.getElem?_eq_getElem (by rw [h.pars.1]; exact hi)) (List.getElem?_eq_getElem hi)
    exact h3
  obtain ⟨W3, hW3⟩ : ∃ W3, W3 = (((w.alloc (.cells #[.int .i64 cap, .slice aL l.length cL] 76)).alloc (.cells #[.int .u8 kd, .int .i64 k, .int .i64 dst, .slice ab bs.length cb, .int .u8 (y.toNat : Int)] 80)).alloc (.cells #[.int .i64 0, .slice none 0 0] 76)) := ⟨_, rfl⟩
  have fW : Frm (fun _ => False) w W3 := by rw [hW3]; exact ((Frm.alloc _ w _).trans (Frm.alloc _ _ _) fun _ _ h => h).trans (Frm.alloc _ _ _) fun _ _ h => h
  have hn : W3.heap.size = w.heap.size + 1 + 1 + 1 := by rw [hW3]; simp
  have b5 : W3.heap[w.heap.size + 1]? = some (.cells #[.int .u8 kd, .int .i64 k, .int .i64 dst, .slice ab bs.length cb, .int .u8 (y.toNat : Int)] 80) := by
    rw [hW3, Below.heap_alloc _ _ _ (by simp)]
    have := heap_alloc_new (w.alloc (.cells #[.int .i64 cap, .slice aL l.length cL] 76)) (.cells #[.int .u8 kd, .int .i64 k, .int .i64 dst, .slice ab bs.length cb, .int .u8 (y.toNat : Int)] 80)
    simpa only [World.size_alloc] using this
  have b6 : W3.heap[w.heap.size + 1 + 1]? = some (.cells #[.int .i64 0, .slice none 0 0] 76 (0, 0)) := by
    rw [hW3]
    have := heap_alloc_new ((w.alloc (.cells #[.int .i64 cap, .slice aL l.length cL] 76)).alloc (.cells #[.int .u8 kd, .int .i64 k, .int .i64 dst, .slice ab bs.length cb, .int .u8 (y.toNat : Int)] 80)) (.cells #[.int .i64 0, .slice none 0 0] 76)
    simpa only [World.size_alloc] using this
  have hrc := rspoil_tot (fun k => N k ∨ k = w.heap.size + 1 + 1) W3 (fun k h => h.elim (fun h => by have := hN k h; omega) (fun h => by omega)) cap aL cL l k dst y ((hv.or (M := fun k => k = w.heap.size + 1 + 1) (fun k h e => by omega)).keepCell fW.cells0) hlen hpl
  rw [hW3] at hrc
  have HRC := Lib.hid hrc; clear hrc
  have H := Lib.hid h; clear h
  have HB := Lib.hid hb; clear hb
  have FW := Lib.hid fW; clear fW
  have B5 := Lib.hid b5; clear b5
  have B6 := Lib.hid b6; clear b6
  have HN := Lib.hid hn; clear hn
  have HW3 := Lib.hid hW3; clear hW3
  clear hv hpl
  go_enter Try.func39, Try.ntmps39
  go_wp2_with fail
  refine HRC.out.mono ?_
  rintro e w1 ⟨v1, rfl, hr1, hf1⟩
  rw [← HW3.out] at hf1
  obtain ⟨av, cv, rfl⟩ := hr1.shape
  obtain ⟨l', hl'⟩ : ∃ l', l' = spL l k dst y := ⟨_, rfl⟩
  obtain ⟨cd, hcd⟩ : ∃ cd : Int, cd = tkC l k := ⟨_, rfl⟩
  obtain ⟨X0, hX0⟩ : ∃ X0, X0 = (w1.alloc (.cells #[.int .i64 cap, .slice av (spL l k dst y).length cv] 76)).drew := ⟨_, rfl⟩
  have fX : Frm (fun _ => False) w1 X0 := by rw [hX0]; exact (Frm.alloc _ w1 _).trans (Frm.drew _ _) fun _ _ h => h
  have b8 : X0.heap[w1.heap.size]? = some (.cells #[.int .i64 cap, .slice av (spL l k dst y).length cv] 76) := by
    rw [hX0]; exact heap_alloc_new w1 _
  have b5' := fX.blk (hf1.blk B5.out id) id
  have b6' := fX.blk (hf1.blk B6.out id) id
  have hw1 := hf1.size
  have hn3 := HN.out
  have fw1 := FW.out.trans hf1 fun _ _ h => h
  have fwX := fw1.trans fX fun _ _ h => h
  have hnX := H.out.keep0 fwX
  have hS : ActS X0 ch (w.heap.size + 1) (w.heap.size + 1 + 1) w1.heap.size cap (.slice av (spL l k dst y).length cv) k dst (.slice ab bs.length cb) (y.toNat : Int) X0 :=
    ⟨cell_at b8 0 rfl, cell_at b8 1 rfl, cell_at b5' 1 rfl, cell_at b5' 2 rfl, cell_at b5' 3 rfl, cell_at b5' 4 rfl, ⟨_, _, b6'⟩, Frm.refl _ _⟩
  have hpc := spoil_tot X0 nb ch cap buf l k dst y hnX
  rw [← hl', ← hcd] at hpc
  rw [← hl'] at hr1 hS hX0
  rw [← hl', ← hcd]
  have HL := Lib.hid hl'
  have HPC := Lib.hid hpc; clear hpc
  have HS := Lib.hid hS; clear hS
  have HX0 := Lib.hid hX0; clear hX0
  have HR1 := Lib.hid hr1; clear hr1
  have HF1 := Lib.hid fw1; clear fw1
  have FX := Lib.hid fX; clear fX
  have HNX := Lib.hid hnX; clear hnX
  clear hl' hcd b8 b5' b6' fwX hf1
  have n5c : w.heap.size + 1 ≠ ch := by omega
  have n6c : w.heap.size + 1 + 1 ≠ ch := by omega
  have n8c : w1.heap.size ≠ ch := by omega
  have n56 : w.heap.size + 1 ≠ w.heap.size + 1 + 1 := by omega
  have n86 : w1.heap.size ≠ w.heap.size + 1 + 1 := by omega
  go_wp2_with fail
  have hS := HS.out
  refine wp_region_held_drew (S := ActS X0 ch (w.heap.size + 1) (w.heap.size + 1 + 1) w1.heap.size cap (.slice av l'.length cv) k dst (.slice ab bs.length cb) (y.toNat : Int)) (by kernel_rfl) (by rw [← HX0.out]; exact hS) (fun hHeld => ?_)
  rw [← HX0.out] at hHeld ⊢
  refine take_op 0 107 (v := ?_) rfl rfl (by kernel_rfl) (by kernel_rfl) (by kernel_rfl) (fun _ _ _ h => h) (Or.inl ⟨by rfl, ?_⟩) (by assumption) ?_
  rotate_left 1
  · (intro w hSw; obtain ⟨s0, s1, s2, s3, s4, s5, s6, s7⟩ := hSw; clear s6 s7; go_simp; (try with_reducible rfl))
  try simp only [Act.put, List.setIfInBounds_toArray, List.set_cons_zero, List.set_cons_succ]
  refine take_op 1 108 (v := ?_) rfl rfl (by kernel_rfl) (by kernel_rfl) (by kernel_rfl) (fun _ _ _ h => h) (Or.inl ⟨by rfl, ?_⟩) (by assumption) ?_
  rotate_left 1
  · (intro w hSw; obtain ⟨s0, s1, s2, s3, s4, s5, s6, s7⟩ := hSw; clear s6 s7; go_simp; (try with_reducible rfl))
  try simp only [Act.put, List.setIfInBounds_toArray, List.set_cons_zero, List.set_cons_succ]
  refine take_op 2 109 (v := ?_) rfl rfl (by kernel_rfl) (by kernel_rfl) (by kernel_rfl) (fun _ _ _ h => h) (Or.inl ⟨by rfl, ?_⟩) (by assumption) ?_
  rotate_left 1
  · (intro w hSw; obtain ⟨s0, s1, s2, s3, s4, s5, s6, s7⟩ := hSw; clear s6 s7; go_simp; (try with_reducible rfl))
  try simp only [Act.put, List.setIfInBounds_toArray, List.set_cons_zero, List.set_cons_succ]
  refine take_op 3 110 (v := ?_) rfl rfl (by kernel_rfl) (by kernel_rfl) (by kernel_rfl) (fun _ _ _ h => h) (Or.inl ⟨by rfl, ?_⟩) (by assumption) ?_
  rotate_left 1
  · (intro w hSw; obtain ⟨s0, s1, s2, s3, s4, s5, s6, s7⟩ := hSw; clear s6 s7; go_simp; (try with_reducible rfl))
  try simp only [Act.put, List.setIfInBounds_toArray, List.set_cons_zero, List.set_cons_succ]
  refine take_op 4 111 (v := ?_) rfl rfl (by kernel_rfl) (by kernel_rfl) (by kernel_rfl) (fun _ _ _ h => h) (Or.inl ⟨by rfl, ?_⟩) (by assumption) ?_
  rotate_left 1
  · (intro w hSw; obtain ⟨s0, s1, s2, s3, s4, s5, s6, s7⟩ := hSw; clear s6 s7; go_simp; (try with_reducible rfl))
  try simp only [Act.put, List.setIfInBounds_toArray, List.set_cons_zero, List.set_cons_succ]
  refine take_op 5 112 (v := ?_) rfl rfl (by kernel_rfl) (by kernel_rfl) (by kernel_rfl) (fun _ _ _ h => h) (Or.inl ⟨by rfl, ?_⟩) (by assumption) ?_
  rotate_left 1
  · (intro w hSw; obtain ⟨s0, s1, s2, s3, s4, s5, s6, s7⟩ := hSw; clear s6 s7; go_simp; (try with_reducible rfl))
  try simp only [Act.put, List.setIfInBounds_toArray, List.set_cons_zero, List.set_cons_succ]
  refine take_op 6 113 (v := ?_) rfl rfl (by kernel_rfl) (by kernel_rfl) (by kernel_rfl) (fun _ _ _ h => h) (Or.inl ⟨by rfl, ?_⟩) (by assumption) ?_
  rotate_left 1
  · (intro w hSw; obtain ⟨s0, s1, s2, s3, s4, s5, s6, s7⟩ := hSw; clear s6 s7; go_simp; (try with_reducible rfl))
  try simp only [Act.put, List.setIfInBounds_toArray, List.set_cons_zero, List.set_cons_succ]
  refine take_op 7 114 (v := ?_) rfl rfl (by kernel_rfl) (by kernel_rfl) (by kernel_rfl) (fun _ _ _ h => h) (Or.inl ⟨by rfl, ?_⟩) (by assumption) ?_
  rotate_left 1
  · (intro w hSw; obtain ⟨s0, s1, s2, s3, s4, s5, s6, s7⟩ := hSw; clear s6 s7; go_simp; (try with_reducible rfl))
  try simp only [Act.put, List.setIfInBounds_toArray, List.set_cons_zero, List.set_cons_succ]
  refine take_op 9 116 (v := ?_) rfl rfl (by kernel_rfl) (by kernel_rfl) (by kernel_rfl) (fun _ _ _ h => h) (Or.inl ⟨by rfl, ?_⟩) (by assumption) ?_
  rotate_left 1
  · (intro w hSw; obtain ⟨s0, s1, s2, s3, s4, s5, s6, s7⟩ := hSw; clear s6 s7; go_simp; (try with_reducible rfl))
  try simp only [Act.put, List.setIfInBounds_toArray, List.set_cons_zero, List.set_cons_succ]
  clear hHeld
  refine wpAnyH_ready (rs := [8]) (by kernel_rfl) (by simp) ?_
  refine AllReadyH.cons rfl (fun KK hK => ?_) AllReadyH.nil
  go_simp
  go_wp2_with (go_at_call 43; refine HPC.out.mono ?_; rintro e X1 ⟨buf1, rfl, hn1, hf1⟩)
  have hS1 := hS.keepCh hf1 n5c n6c n8c
  have HN1 := Lib.hid hn1; clear hn1
  have HFX := Lib.hid hf1; clear hf1
  refine hK.out _ _ hS1 (fun _ => ?_)
  clear hK KK
  try simp only [Act.put, List.setIfInBounds_toArray, List.set_cons_zero, List.set_cons_succ]
  refine take_op 10 117 (v := ?_) rfl rfl (by kernel_rfl) (by kernel_rfl) (by kernel_rfl) (fun _ _ _ h => h) (Or.inl ⟨by rfl, ?_⟩) (by assumption) ?_
  rotate_left 1
  · (intro w hSw; obtain ⟨s0, s1, s2, s3, s4, s5, s6, s7⟩ := hSw; clear s6 s7; go_simp; (try with_reducible rfl))
  try simp only [Act.put, List.setIfInBounds_toArray, List.set_cons_zero, List.set_cons_succ]
  refine wpAnyH_ready (rs := [11]) (by kernel_rfl) (by simp) ?_
  refine AllReadyH.cons rfl (fun KK hK => ?_) AllReadyH.nil
  obtain ⟨p0, q0, hr⟩ := hS1.r
  have e0 : X1.cell? ⟨w.heap.size + 1 + 1, 0, none⟩ = some p0 := cell_at hr 0 rfl
  have e1 : X1.cell? ⟨w.heap.size + 1 + 1, 1, none⟩ = some q0 := cell_at hr 1 rfl
  have e2 := free_at hr 0
  have e3 := free_at hr 1
  have hst := hS1.store n56 n86 (.int .i64 cap) (.slice av l'.length cv)
  have hfin := act_fin H.out HF1.out FX.out HNX.out HFX.out HN1.out HR1.out ⟨_, _, hr⟩ (by omega) (.int .i64 cap)
  have HFIN := Lib.hid hfin; clear hfin
  have HST := Lib.hid hst; clear hst
  clear hr
  go_simp
  refine hK.out _ _ HST.out.1 (fun hHeld => ?_)
  clear hK KK e0 e1 e2 e3
  try simp only [Act.put, List.setIfInBounds_toArray, List.set_cons_zero, List.set_cons_succ]
  refine take_op 12 7 (v := .bool true) rfl rfl (by kernel_rfl) (by kernel_rfl) (by kernel_rfl) (fun _ _ _ h => h) (Or.inl ⟨by rfl, ?_⟩) (by assumption) ?_
  · (intro w hSw; obtain ⟨s0, s1, s2, s3, s4, s5, s6, s7⟩ := hSw; clear s6 s7; go_simp; (try with_reducible rfl))
  try simp only [Act.put, List.setIfInBounds_toArray, List.set_cons_zero, List.set_cons_succ]
  refine wpAnyH_done (by kernel_rfl) ?_ _
  clear hS hS1 hHeld
  have z0 := cell_at HST.out.2 0 rfl
  have z1 := cell_at HST.out.2 1 rfl
  simp at z0 z1
  go_wp2
  exact bodyPost_ret (v := .tuple #[.agg #[.int .i64 cap, .slice av l'.length cv], .bool true]) (by simp [results, Try.results39, go_sem, z0, z1]) rfl ⟨_, _, rfl, by rw [← HL.out]; exact HFIN.out⟩

end Go.Proofs.Ytclihppeaikhiaa
