/- Words for the law PackLong: COf, R8a. -/
import Derived.Test.YtafdclkpeomomaaPackLongG7
set_option linter.unusedSimpArgs false
set_option linter.unusedVariables false
/- context: Of: the walk. -/
namespace Go.Proofs.Ytafdclkpeomomaa
open Go.RowKit

/-- The numbers' runs of the first k centers. -/
structure OfUp (l : RunL) (k : Nat) (p : Nat → RunL) : Prop where
  done : ∀ d, d < k → RightR (p d) ∧ (∀ n, InR (p d) n ↔ ((d : Int), n) ∈ l) ∧ (p d).length ≤ 20000
  todo : ∀ d, k ≤ d → d < 4 → p d = []
theorem OfUp.ofC {l : RunL} {p : Nat → RunL} (h : OfUp l 4 p) : OfC l (wholeL fun d => p d.toNat) := by
  refine ⟨right_whole fun d h0 h4 => (h.done d.toNat (by omega)).1, fun d n h0 h4 => ?_⟩
  unfold InC
  rw [partL_whole _ h0 h4]
  have := (h.done d.toNat (by omega)).2.1 n
  rwa [Int.toNat_of_nonneg h0] at this
set_option maxHeartbeats 4000000 in
set_option maxRecDepth 1000000 in
theorem cOf_ok (w : World) (v : Value) (l : RunL) (hv : RunAt w v l) (hd : DotsOk l) (hl : l.length ≤ 20000) :
    Calls Try.prog 30 #[v] w fun e w' => ∃ v' c, e = .returned (.tuple #[v', .int .i64 0]) ∧ OwnAt w w' 40 3 v' c.length (spC c) ∧ OfC l c ∧ c.length ≤ 800000 := by
  obtain ⟨i0, hi, hz0, hz1, hz2⟩ := info_parts info_i64
  obtain ⟨aA, cA, rfl⟩ := hv.sl
  have HH := Lib.hid hv; clear hv
  have HD := Lib.hid hd; clear hd
  have HL := Lib.hid hl; clear hl
  generalize hn : l.length = n at *
  have HN := Lib.hid hn; clear hn
  have HST := Lib.hid (FourAt.start (M := fun _ => False) 87 2 1 (Frm.refl NoS w) (fun k hk => hk.elim))
  go_enter Try.func30, Try.ntmps30
  go_wp2
  go_loopw [12] (fun i ww => ∃ (k : Nat) (vs : Nat → Value), k ≤ n ∧ i = .int .i64 k ∧ FourAt (fun _ => False) 87 2 1 w ww w.heap.size vs (fun d => (numsL (l.take k) d).length) (fun d => inV (numsL (l.take k) d))) (fun i _ => n - (intOf i).toNat)
  case atStart => exact ⟨0, fun _ => .slice none 0 0, Nat.zero_le _, rfl, HST.out⟩
  case round =>
    obtain ⟨k, vs, hk, rfl, h4⟩ := hrel
    have H4 := Lib.hid h4; clear h4
    by_cases hlt : k < n
    · rcases Rd.shape HH.out with ⟨ad, he, h0⟩ | ⟨b, off, cc, he, hmax⟩
      · exfalso; have := HN.out; omega
      · injection he with e1 e2 e3
        subst e1 e3
        clear e2
        rw [HN.out] at hmax
        have hlk : k < l.length := by rw [HN.out]; exact hlt
        obtain ⟨p0, p1⟩ := run_at HH.out HN.out.symm k hlk
        have q0 := H4.out.frm.cell' p0 id
        have q1 := H4.out.frm.cell' p1 id
        clear p0 p1
        have hdk := HD.out _ (getD_mem (0, 0) hlk)
        have HPT := Lib.hid (fun d => numsL_take_succ (l := l) (k := k) d hlk)
        obtain ⟨s, hgd⟩ : ∃ s, s = l.getD k (0, 0) := ⟨_, rfl⟩
        rw [← hgd] at HPT q0 q1 hdk
        clear hgd
        have hdr : dotB s.1 s.2 = true := by unfold dotB; simpa using hdk
        have HDR := Lib.hid (fun W => hdr ▸ dotRight_any s.1 s.2 W); clear hdr
        obtain ⟨dn, hdn⟩ : ∃ dn : Nat, s.1 = dn := ⟨s.1.toNat, by omega⟩
        have hd4 : dn < 4 := by omega
        rw [hdn] at q0 HDR
        have HDN := Lib.hid hdn; clear hdn hdk
        have hc4 : (dn : Int) < 4 := by omega
        have hsp : (wr.alloc (.cells #[.int .i64 dn, .int .i64 s.2] 35)).heap[wr.heap.size]? = some (.cells #[.int .i64 dn, .int .i64 s.2] 35 (0, 0)) := heap_alloc_new wr _
        have HSP := Lib.hid hsp; clear hsp
        have HB4 := Lib.hid (H4.out.box (.cells #[.int .i64 dn, .int .i64 s.2] 35))
        have hlen : (numsL (l.take k) dn).length ≤ k := Nat.le_trans (numsL_length_le _ _) (List.length_take_le _ _)
        have HLEN := Lib.hid (Nat.le_trans hlen (Nat.le_trans hk HL.out))
        clear hlen
        go_wp2_with (go_at_call 42; refine (HDR.out _).mono ?_; rintro e w1 ⟨rfl, hw1⟩; have HW1 := Lib.hid hw1; clear hw1; have n0 : w1.cell? ⟨wr.heap.size, 0, none⟩ = some (.int .i64 dn) := HW1.out.cell' (cell_at' HSP.out 0 rfl) id; have n1 : w1.cell? ⟨wr.heap.size, 1, none⟩ = some (.int .i64 s.2) := HW1.out.cell' (cell_at' HSP.out 1 rfl) id)
        have HK4 := Lib.hid ((HB4.out.keep HW1.out).keep (Frm.drew _ _))
        have hsb : wr.heap.size < w1.heap.size := World.block_lt_of_cell? _ _ n0
        obtain ⟨pl, hpl⟩ : ∃ pl, pl = (numsL (l.take k) dn).length := ⟨_, rfl⟩
        have hob : OwnBut (Rest4 (fun k => False ∨ k = wr.heap.size) w.heap.size vs dn) w w1.drew 2 1 (vs dn) pl (inV (numsL (l.take k) dn)) := by rw [hpl]; exact HK4.out.but hd4
        have HOB := Lib.hid hob; clear hob
        rw [← hpl] at HLEN
        have HPL := Lib.hid hpl; clear hpl
        clear q0 q1
        generalize wr.heap.size = sb at *
        refine wp_region_G (S := fun w' => w'.cell? ⟨sb, 0, none⟩ = some (.int .i64 dn) ∧ w'.cell? ⟨sb, 1, none⟩ = some (.int .i64 s.2) ∧ w'.cell? ⟨w.heap.size, dn, none⟩ = some (vs dn)) 11 (by kernel_rfl) ⟨n0, n1, HK4.out.cell hd4⟩ ?_
        intro hS
        have hsb : sb < w1.drew.heap.size := hsb
        clear n0 n1
        generalize w1.drew = Y at *
        refine take_opG 0 19 (v := ?_) rfl rfl (by kernel_rfl) (by kernel_rfl) (by decide) (by kernel_rfl) (by kernel_rfl) (fun _ _ _ h => h) (Or.inl ⟨by rfl, ?_⟩) (by assumption) ?_
        rotate_left 1
        · (intro w hSw; (try dsimp only at hSw); go_simp; (try with_reducible rfl))
        try simp only [Act.put, List.setIfInBounds_toArray, List.set_cons_zero, List.set_cons_succ]
        refine take_opG 1 20 (v := ?_) rfl rfl (by kernel_rfl) (by kernel_rfl) (by decide) (by kernel_rfl) (by kernel_rfl) (fun _ _ _ h => h) (Or.inl ⟨by rfl, ?_⟩) (by assumption) ?_
        rotate_left 1
        · (intro w hSw; (try dsimp only at hSw); go_simp; (try with_reducible rfl))
        try simp only [Act.put, List.setIfInBounds_toArray, List.set_cons_zero, List.set_cons_succ]
        refine take_opG 2 21 (v := ?_) rfl rfl (by kernel_rfl) (by kernel_rfl) (by decide) (by kernel_rfl) (by kernel_rfl) (fun _ _ _ h => h) (Or.inl ⟨by rfl, ?_⟩) (by assumption) ?_
        rotate_left 1
        · (intro w hSw; (try dsimp only at hSw); go_simp; (try with_reducible rfl))
        try simp only [Act.put, List.setIfInBounds_toArray, List.set_cons_zero, List.set_cons_succ]
        refine take_opG 3 22 (v := ?_) rfl rfl (by kernel_rfl) (by kernel_rfl) (by decide) (by kernel_rfl) (by kernel_rfl) (fun _ _ _ h => h) (Or.inl ⟨by rfl, ?_⟩) (by assumption) ?_
        rotate_left 1
        · (intro w hSw; (try dsimp only at hSw); go_simp; (try with_reducible rfl))
        try simp only [Act.put, List.setIfInBounds_toArray, List.set_cons_zero, List.set_cons_succ]
        refine take_opG 4 23 (v := ?_) rfl rfl (by kernel_rfl) (by kernel_rfl) (by decide) (by kernel_rfl) (by kernel_rfl) (fun _ _ _ h => h) (Or.inl ⟨by rfl, ?_⟩) (by assumption) ?_
        rotate_left 1
        · (intro w hSw; (try dsimp only at hSw); go_simp; (try with_reducible rfl))
        try simp only [Act.put, List.setIfInBounds_toArray, List.set_cons_zero, List.set_cons_succ]
        refine take_opG 5 24 (v := ?_) rfl rfl (by kernel_rfl) (by kernel_rfl) (by decide) (by kernel_rfl) (by kernel_rfl) (fun _ _ _ h => h) (Or.inl ⟨by rfl, ?_⟩) (by assumption) ?_
        rotate_left 1
        · (intro w hSw; (try dsimp only at hSw); go_simp; (try with_reducible rfl))
        try simp only [Act.put, List.setIfInBounds_toArray, List.set_cons_zero, List.set_cons_succ]
        refine take_opG 6 25 (v := ?_) rfl rfl (by kernel_rfl) (by kernel_rfl) (by decide) (by kernel_rfl) (by kernel_rfl) (fun _ _ _ h => h) (Or.inl ⟨by rfl, ?_⟩) (by assumption) ?_
        rotate_left 1
        · (intro w hSw; (try dsimp only at hSw); go_simp; (try with_reducible rfl))
        try simp only [Act.put, List.setIfInBounds_toArray, List.set_cons_zero, List.set_cons_succ]
        refine take_opG 7 26 (v := ?_) rfl rfl (by kernel_rfl) (by kernel_rfl) (by decide) (by kernel_rfl) (by kernel_rfl) (fun _ _ _ h => h) (Or.inl ⟨by rfl, ?_⟩) (by assumption) ?_
        rotate_left 1
        · (intro w hSw; (try dsimp only at hSw); go_simp; (try with_reducible rfl))
        try simp only [Act.put, List.setIfInBounds_toArray, List.set_cons_zero, List.set_cons_succ]
        refine one_opG (i := 8) (by kernel_rfl) rfl (fun K hK => ?_)
        go_simp
        have hS1 : (Y.alloc (.cells #[.int .i64 s.2] 2)).cell? ⟨sb, 0, none⟩ = some (.int .i64 dn) ∧ (Y.alloc (.cells #[.int .i64 s.2] 2)).cell? ⟨sb, 1, none⟩ = some (.int .i64 s.2) ∧ (Y.alloc (.cells #[.int .i64 s.2] 2)).cell? ⟨w.heap.size, dn, none⟩ = some (vs dn) := ⟨(Frm.alloc NoS Y _).cell' hS.1 id, (Frm.alloc NoS Y _).cell' hS.2.1 id, (Frm.alloc NoS Y _).cell' hS.2.2 id⟩
        refine hK.out _ _ hS1 ?_
        clear hK K
        try simp only [Act.put, List.setIfInBounds_toArray, List.set_cons_zero, List.set_cons_succ]
        refine one_opG (i := 9) (by kernel_rfl) rfl (fun K hK => ?_)
        refine step_appB (Rest4 (fun k => False ∨ k = sb) w.heap.size vs dn) w Y [.int .i64 s.2] rfl (.tmp 24) (.tmp 27) 86 rfl 2 i0 _ 1 8 Try.underlying86 hi hz0 hz1 hz2 (by decide) (by decide) (vs dn) pl _ HOB.out (HK4.out.lt dn) 1 1 (by simp [Act.eval]) (by simp [Act.eval]) rfl (by simp [Value.oneCell']) (by have := HLEN.out; simp only [maxLen]; omega) (by have := HLEN.out; omega) ?_
        intro ad cc2 w2 own2 kp2
        have hS2 : w2.cell? ⟨sb, 0, none⟩ = some (.int .i64 dn) ∧ w2.cell? ⟨sb, 1, none⟩ = some (.int .i64 s.2) ∧ w2.cell? ⟨w.heap.size, dn, none⟩ = some (vs dn) := ⟨kp2.cell (.inr (.inl (.inr rfl))) hS.1, kp2.cell (.inr (.inl (.inr rfl))) hS.2.1, kp2.cell (.inl rfl) hS.2.2⟩
        refine hK.out _ _ hS2 ?_
        clear hK K hS1
        have HSTP := Lib.hid (((HK4.out.step hd4 kp2 own2).mono (M' := fun _ => False) fun k hk => hk.elim).congr (n' := fun d => (numsL (l.take (k + 1)) d).length) (xs' := fun d => inV (numsL (l.take (k + 1)) d)) (fun d hd => by
          rw [HPT.out]
          by_cases he : d = dn
          · subst he; rw [upd_same, if_pos HDN.out, List.length_append, ← HPL.out]; rfl
          · rw [upd_other _ _ he, if_neg (by rw [HDN.out]; omega), List.append_nil]) (fun d hd => by
          rw [HPT.out]
          by_cases he : d = dn
          · subst he; rw [upd_same, if_pos HDN.out, inV_append]; rfl
          · rw [upd_other _ _ he, if_neg (by rw [HDN.out]; omega), List.append_nil]))
        have hcf := kp2.frozen (p := ⟨w.heap.size, dn, none⟩) (.inl rfl) (free_at' HK4.out.blk dn)
        clear own2 kp2
        try simp only [Act.put, List.setIfInBounds_toArray, List.set_cons_zero, List.set_cons_succ]
        refine take_opG 10 29 (v := ?_) rfl rfl (by kernel_rfl) (by kernel_rfl) (by decide) (by kernel_rfl) (by kernel_rfl) (fun _ _ _ h => h) (Or.inl ⟨by rfl, ?_⟩) (by assumption) ?_
        rotate_left 1
        · (intro w hSw; (try dsimp only at hSw); go_simp; (try with_reducible rfl))
        try simp only [Act.put, List.setIfInBounds_toArray, List.set_cons_zero, List.set_cons_succ]
        refine last_opG (by kernel_rfl) (by kernel_rfl) rfl (fun K hK => ?_)
        have hcz := hS2.2.2
        clear hS2 hS
        go_simp
        refine hK.out _ _ ?_
        clear hK K hcz hcf
        go_wp2
        go_roundw
        case rel => exact ⟨k + 1, _, by omega, by go_num, HSTP.out⟩
        case measure => simp [intOf]; omega
    · obtain rfl : n = k := by omega
      rw [List.take_of_length_le (by rw [HN.out]; exact Nat.le_refl _)] at H4
      obtain ⟨wo, rfl⟩ : ∃ wo : World, wo = wr := ⟨_, rfl⟩
      have hsh : ∀ d, d < 4 → ∃ t : Option Addr × Nat × Nat, vs d = .slice t.1 t.2.1 t.2.2 := fun d hd => by
        obtain ⟨a, c, h⟩ := (H4.out.own d hd).at_.shape
        exact ⟨(a, _, c), h⟩
      obtain ⟨A, hA⟩ := Go.Deep.choose_lt hsh
      clear hsh
      have c0 : wo.cell? ⟨w.heap.size, 0, none⟩ = some (.slice (A 0).1 (A 0).2.1 (A 0).2.2) := hA 0 (by omega) ▸ H4.out.cell (d := 0) (by omega)
      have c1 : wo.cell? ⟨w.heap.size, 1, none⟩ = some (.slice (A 1).1 (A 1).2.1 (A 1).2.2) := hA 1 (by omega) ▸ H4.out.cell (d := 1) (by omega)
      have c2 : wo.cell? ⟨w.heap.size, 2, none⟩ = some (.slice (A 2).1 (A 2).2.1 (A 2).2.2) := hA 2 (by omega) ▸ H4.out.cell (d := 2) (by omega)
      have c3 : wo.cell? ⟨w.heap.size, 3, none⟩ = some (.slice (A 3).1 (A 3).2.1 (A 3).2.2) := hA 3 (by omega) ▸ H4.out.cell (d := 3) (by omega)
      have HAA := Lib.hid hA; clear hA
      have hgw : w.heap.size < wo.heap.size := World.block_lt_of_cell? _ _ c0
      have hp0 := ParIn.start (w0 := w) (w := wo) (A := fun _ => (none, 0, 0)) (p := fun _ => []) ⟨fun d hd => OwnAt.nil H4.out.frm _ _⟩
      have HP0 := Lib.hid hp0; clear hp0
      go_wp2
      clear c0 c1 c2 c3
      go_loopw [32] (fun i ww => ∃ (j : Nat) (A' : Nat → Sl) (p : Nat → RunL), j ≤ 4 ∧ i = .int .i64 j ∧ ParIn w ww wo.heap.size A' p ∧ OfUp l j p ∧
        Frm (fun k => k = wo.heap.size) (wo.alloc (.cells #[.slice none 0 0, .slice none 0 0, .slice none 0 0, .slice none 0 0] 91)) ww) (fun i _ => 4 - (intOf i).toNat)
      case atStart => exact ⟨0, fun _ => (none, 0, 0), fun _ => [], by omega, rfl, HP0.out, ⟨fun d hd => by omega, fun d _ _ => rfl⟩, Frm.refl _ _⟩
      case round =>
        obtain ⟨j, A', p, hj, rfl, hp, hou, hfq⟩ := hrel
        have HP := Lib.hid hp; clear hp
        have HOU := Lib.hid hou; clear hou
        have HFQ := Lib.hid hfq; clear hfq
        by_cases hj4 : j < 4
        · have hki : (j : Int) < 4 := by omega
          have hkd : decide ((j : Int) < 4) = true := by simpa using hki
          have hix : ∀ W, (Instr.index 87 (.agg #[.slice (A 0).1 (A 0).2.1 (A 0).2.2, .slice (A 1).1 (A 1).2.1 (A 1).2.2, .slice (A 2).1 (A 2).2.1 (A 2).2.2, .slice (A 3).1 (A 3).2.1 (A 3).2.2]) (.int .i64 (j : Int))).run Try.prog W = .ok (.slice (A j).1 (A j).2.1 (A j).2.2) W := by
            rcases (by omega : j = 0 ∨ j = 1 ∨ j = 2 ∨ j = 3) with rfl | rfl | rfl | rfl <;> exact fun _ => by kernel_rfl
          have hob := ((H4.out.own j hj4).at_.keep (Frm.alloc NoS wo (.cells #[.slice none 0 0, .slice none 0 0, .slice none 0 0, .slice none 0 0] 91)))
          have hno := Rd.keep hob.rd HFQ.out (fun q hq h => by have := (H4.out.own j hj4).at_.lt q hq; have h : q = wo.heap.size := h; omega)
          rw [HAA.out j hj4] at hno
          have hcall := sOf_ok wr _ (numsL l j) hno (Nat.le_trans (numsL_length_le l j) (by rw [HN.out]; exact Nat.le_trans HL.out (by decide))) (fun x hx => by have := HD.out _ (numsL_mem.1 hx); exact ⟨this.2.2.1, this.2.2.2⟩)
          have HC := Lib.hid hcall; clear hcall hob hno
          have hpc := HP.out.cell hj4
          have HPC := Lib.hid hpc; clear hpc
          go_wp2_with (go_at_call 43; refine HC.out.mono ?_; rintro e w3 ⟨v3, out, rfl, ho3, hr3, hm3, hl3⟩; obtain ⟨a3, c3, rfl⟩ := ho3.shape; have HO3 := Lib.hid ho3; clear ho3; have HR3 := Lib.hid hr3; clear hr3; have HM3 := Lib.hid hm3; clear hm3; have HL3 := Lib.hid hl3; clear hl3; have hcz := HO3.out.frm.cell' HPC.out id; have hfz : w3.frozen? ⟨wo.heap.size, j, none⟩ = false := free_at' (HP.out.keep HO3.out.frm).blk j)
          have HSET := Lib.hid (HP.out.set hj4 (t := (a3, out.length, c3)) HO3.out)
          go_roundw
          case rel => exact ⟨j + 1, _, _, by omega, by go_num, HSET.out, ⟨fun d hd => by
              by_cases he : d = j
              · subst he; rw [upd_same]; exact ⟨HR3.out, fun n => by rw [HM3.out, numsL_mem], Nat.le_trans HL3.out (Nat.le_trans (numsL_length_le l d) (by rw [HN.out]; exact HL.out))⟩
              · rw [upd_other _ _ he]; exact HOU.out.done d (by omega), fun d h1 h2 => by
              rw [upd_other _ _ (by omega)]; exact HOU.out.todo d (by omega) h2⟩, (HFQ.out.then1 HO3.out.frm).trans (Frm.setCell (S := fun k => k = wo.heap.size) w3 (p := ⟨wo.heap.size, j, none⟩) (.inl rfl) _) fun _ _ h => h⟩
          case measure => simp [intOf]; omega
        · obtain rfl : j = 4 := by omega
          have c0 : wr.cell? ⟨wo.heap.size, 0, none⟩ = some (.slice (A' 0).1 (A' 0).2.1 (A' 0).2.2) := HP.out.cell (by omega)
          have c1 : wr.cell? ⟨wo.heap.size, 1, none⟩ = some (.slice (A' 1).1 (A' 1).2.1 (A' 1).2.2) := HP.out.cell (by omega)
          have c2 : wr.cell? ⟨wo.heap.size, 2, none⟩ = some (.slice (A' 2).1 (A' 2).2.1 (A' 2).2.2) := HP.out.cell (by omega)
          have c3 : wr.cell? ⟨wo.heap.size, 3, none⟩ = some (.slice (A' 3).1 (A' 3).2.1 (A' 3).2.2) := HP.out.cell (by omega)
          go_wp2_with (go_at_call 44; refine (cwhole_any _ A' p (fun d hd => (HP.out.own d hd).at_.rd) (fun d hd => Nat.le_trans (HOU.out.done d hd).2.2 (by decide))).mono ?_; rintro e w3 ⟨v3, c, rfl, ho3, hc3, hl3⟩; obtain ⟨a3, k3, rfl⟩ := ho3.shape; have HO3 := Lib.hid ho3; clear ho3; have HC3 := Lib.hid hc3; clear hc3; have HL3 := Lib.hid hl3; clear hl3)
          go_ret2
          exact ⟨_, c, rfl, HO3.out.base (HP.out.own 0 (by omega)).at_.frm, by rw [HC3.out]; exact HOU.out.ofC, HL3.out⟩
end Go.Proofs.Ytafdclkpeomomaa

/- tributaryref08: entry; the entries of a tree, step by step. -/
namespace Go.Proofs.Ytafdclkpeomomaa
open Go.RowKit

def Ent.v (e : Ent) : Value := .agg #[.int .i64 e.dc, .int .i64 e.n, .string e.s, .int .i64 e.k]
theorem rightEs_snoc : ∀ (l : List Ent) (p : Option Ent) (e : Ent), rightEs p (l ++ [e]) = (rightEs p l && entB e && ltE (match l.getLast? with | some x => some x | none => p) e)
  | [], p, e => by simp [rightEs]
  | x :: l, p, e => by
    show (entB x && ltE p x && rightEs (some x) (l ++ [e])) = ((entB x && ltE p x && rightEs (some x) l) && entB e && _)
    rw [rightEs_snoc l (some x) e]
    have : (match (x :: l).getLast? with | some y => some y | none => p) = (match l.getLast? with | some y => some y | none => some x) := by
      cases l with
      | nil => rfl
      | cons y l =>
        rw [List.getLast?_cons_cons]
        cases h : (y :: l).getLast? with
        | none => simp at h
        | some z => rfl
    rw [this]
    simp only [Bool.and_assoc]
theorem rightEs_take : ∀ (l : List Ent) (p : Option Ent) (k : Nat), rightEs p l = true → rightEs p (l.take k) = true
  | [], _, _, _ => by simp [rightEs]
  | _ :: _, _, 0, _ => rfl
  | x :: l, p, k + 1, h => by
    have h : (entB x && ltE p x && rightEs (some x) l) = true := h
    show (entB x && ltE p x && rightEs (some x) (l.take k)) = true
    simp only [Bool.and_eq_true] at h ⊢
    exact ⟨h.1, rightEs_take l _ k h.2⟩
/-- One entry more. -/
theorem rightEs_step0 {l : List Ent} (h : 0 < l.length) : rightEs none (l.take (0 + 1)) = entB (l.getD 0 Ent.zero) := by
  rw [take_succ Ent.zero h]
  simp [rightEs, ltE]
theorem rightEs_step {l : List Ent} {j : Nat} (h : j + 1 < l.length) (hr : rightEs none (l.take (j + 1)) = true) : rightEs none (l.take (j + 1 + 1)) = (entB (l.getD (j + 1) Ent.zero) && dotLt (l.getD j Ent.zero).dc (l.getD j Ent.zero).n (l.getD (j + 1) Ent.zero).dc (l.getD (j + 1) Ent.zero).n) := by
  rw [take_succ Ent.zero h, rightEs_snoc, hr]
  have : (l.take (j + 1)).getLast? = some (l.getD j Ent.zero) := by
    rw [take_succ Ent.zero (by omega)]; simp
  rw [this]
  simp [ltE]
theorem not_rightEs {l : List Ent} {k : Nat} (h : rightEs none (l.take k) = false) : rightEs none l = false := by
  cases hh : rightEs none l with
  | false => rfl
  | true => rw [rightEs_take l none k hh] at h; cases h
theorem EsOk.at {es : List Ent} (h : EsOk es) {k : Nat} (hk : k < es.length) : (es.getD k Ent.zero).fits := h.fits _ (getD_mem _ hk)
end Go.Proofs.Ytafdclkpeomomaa
