/- Words for the law MsgSet: Size, SOf, COf, R8a, R8b. -/
import Derived.Test.YtcahemkomfaabaaGreatMsgSetG3
import Derived.Test.YtcahemkomfaabaaGreatMsgSetG6
set_option linter.unusedSimpArgs false
set_option linter.unusedVariables false
set_option maxHeartbeats 32000000
set_option maxRecDepth 1000000
namespace Go.Proofs.YtcahemkomfaabaaGreat
open Go.RowKit
theorem wholeL_length (p : Int → RunL) : (wholeL p).length = (p 0).length + ((p 1).length + ((p 2).length + (p 3).length)) := by simp [wholeL, spansL]
theorem RightC.length {c : CtxL} (h : RightC c) {n : Nat} (hp : ∀ d, 0 ≤ d → d < 4 → (partL c d).length ≤ n) : c.length ≤ 4 * n := by
 have e := congrArg List.length (whole_parts (Int.le_refl 0) h.1)
 rw [wholeL_length] at e
 have h0 := hp 0 (by decide) (by decide)
 have h1 := hp 1 (by decide) (by decide)
 have h2 := hp 2 (by decide) (by decide)
 have h3 := hp 3 (by decide) (by decide)
 omega
theorem OfC.length {l : RunL} {c : CtxL} (h : OfC l c) : c.length ≤ 4 * l.length := by
 refine h.right.length fun d h0 h4 => ?_
 have hr := (h.right.2 d h0 h4).1
 have hn := runsFrom_nodup hr
 have hs : ∀ x ∈ (partL c d).map (·.1), x ∈ l.map (·.2) := fun x hx => by
  obtain ⟨r, hr1, rfl⟩ := List.mem_map.1 hx
  have hi : InC c d r.1 := ⟨r, hr1, Int.le_refl _, (runsFrom_ge hr r hr1).2⟩
  exact List.mem_map.2 ⟨_, (h.mem d r.1 h0 h4).1 hi, rfl⟩
 have := short_of_sub hn hs
 simpa using this
theorem ByC.minus_length {a b c : CtxL} (h : ByC 2 a b c) (ra : RightC a) (rb : RightC b) : c.length ≤ 4 * (a.length + b.length) := by
 refine h.right.length fun d h0 h4 => ?_
 have pa := ra.2 d h0 h4
 have pb := rb.2 d h0 h4
 have e : partL c d = minusL (partL a d) (partL b d) := by
  refine runs_ext (h.right.2 d h0 h4).1 (minusL_from _ _ _ _ pa.1 pb.1) fun n => ?_
  rw [minusL_mem _ _ _ _ pb.1]
  have := h.mem d n h0 h4
  unfold ByIn InC at this
  simpa using this
 rw [e]
 have := minusL_length pa pb
 have h1 := partL_length_le a d
 have h2 := partL_length_le b d
 omega
theorem RightC.fits {c : CtxL} (h : RightC c) : FitsC c := fun s hs => by
 have hd : ∀ {c : CtxL} {lo : Int}, DcFrom lo c → ∀ s ∈ c, lo ≤ s.1 ∧ s.1 < 4 := by
  intro c
  induction c with
  | nil => intro lo _ s hs; cases hs
  | cons x c ih =>
   intro lo h s hs
   rcases List.mem_cons.1 hs with rfl | hs
   · exact ⟨h.1, h.2.1⟩
   · have := ih h.2.2 s hs
     have := h.1
     omega
 have h1 := hd h.1 s hs
 have h2 := (h.2 s.1 h1.1 h1.2)
 have hm : s.2 ∈ partL c s.1 := by
  unfold partL
  exact List.mem_map.2 ⟨s, List.mem_filter.2 ⟨hs, by simp⟩, rfl⟩
 have h3 := runsFrom_ge h2.1 s.2 hm
 have h4 := h2.2 s.2 hm
 omega
end Go.Proofs.YtcahemkomfaabaaGreat
namespace Go.Proofs.YtcahemkomfaabaaGreat
open Go.RowKit Go.Sort
def oneR (l : List Int) : RunL := l.map fun x => (x, x)
theorem oneR_take_succ {l : List Int} {k : Nat} (hk : k < l.length) : oneR (l.take (k + 1)) = oneR (l.take k) ++ [(l.getD k 0, l.getD k 0)] := by
 rw [take_succ 0 hk]; simp [oneR]
theorem inR_oneR (l : List Int) (n : Int) : InR (oneR l) n ↔ n ∈ l := by
 constructor
 · rintro ⟨r, hr, h⟩
   obtain ⟨x, hx, rfl⟩ := List.mem_map.1 hr
   have : n = x := by have h1 : x ≤ n := h.1; have h2 : n ≤ x := h.2; omega
   rw [this]; exact hx
 · exact fun h => ⟨(n, n), List.mem_map.2 ⟨n, h, rfl⟩, Int.le_refl _, Int.le_refl _⟩
theorem sOf_ok (w : World) (v : Value) (l : List Int) (hv : NumAt w v l) (hl : l.length ≤ 100000) (hb : ∀ x ∈ l, 1 ≤ x ∧ x ≤ 1099511627776) :
 Calls Tryz.prog 168 #[v] w fun e w' => ∃ v' out, e = .returned (.tuple #[v', .int .i64 0]) ∧ OwnAt w w' 194 2 v' out.length (ruC out) ∧ RightR out ∧ (∀ n, InR out n ↔ n ∈ l) ∧ out.length ≤ l.length := by
 obtain ⟨i0, hi, hz0, hz1, hz2⟩ := info_parts info_srun
 obtain ⟨aA, cA, rfl⟩ := hv.sl
 have HH := Lib.hid hv; clear hv
 have HB := Lib.hid hb; clear hb
 have hone : (oneR l).length = l.length := by simp [oneR]
 have HONE := Lib.hid hone; clear hone
 have HL := Lib.hid hl; clear hl
 generalize hn : l.length = n at *
 have HN := Lib.hid hn; clear hn
 have eg : ∀ args w, (callFunc 200 args).run Tryz.prog w = .ok (.enter 200 args) w := enters_of Tryz.func200 (by kernel_rfl) rfl
 go_enter Tryz.func168, Tryz.ntmps168
 go_wp2
 go_loopw [4, 9] (fun v i ww => ∃ k : Nat, k ≤ n ∧ i = .int .i64 k ∧ OwnAt w ww 194 2 v k (ruC (oneR (l.take k)))) (fun _ i _ => n - (intOf i).toNat)
 case atStart => exact ⟨0, Nat.zero_le _, rfl, OwnAt.nil (Frm.refl _ _) _ _⟩
 case round =>
  obtain ⟨k, hk, rfl, ho⟩ := hrel
  obtain ⟨av, cv, rfl⟩ := ho.shape
  have HO := Lib.hid ho; clear ho
  by_cases hlt : k < n
  · rcases Rd.shape HH.out with ⟨ad, he, h0⟩ | ⟨b, off, cc, he, hmax⟩
    · exfalso; have := HN.out; omega
    · injection he with e1 e2 e3
      subst e1 e3
      clear e2
      rw [HN.out] at hmax
      have hlk : k < l.length := by rw [HN.out]; exact hlt
      have p0 := num_at HH.out HN.out.symm k hlk
      have q0 := HO.out.frm.cell' p0 id
      clear p0
      have hbx := HB.out _ (getD_mem 0 hlk)
      have hE := oneR_take_succ hlk
      generalize l.getD k 0 = x at *
      have HE := Lib.hid hE; clear hE
      have hnb : numB1 x = true := by unfold numB1; simpa using hbx
      have HNB := Lib.hid (fun W => hnb ▸ number_any x W); clear hnb
      have hk1 : k ≤ 100000 := Nat.le_trans hk HL.out
      go_wp2_with (first
       | (go_at_call 199; refine (HNB.out _).mono ?_; rintro e w1 ⟨rfl, hw1⟩; rw [hw1]; clear hw1 w1)
       | (at_builtin; refine wpList_appO w _ [.int .i64 x, .int .i64 x] rfl (.tmp 16) (.tmp 20) 188 rfl 194 i0 _ 2 16 Tryz.underlying188 hi hz0 hz1 hz2 (by decide) (by decide) _ _ _ HO.out 1 1 rfl (by simp [Act.eval]) rfl (by simp [Value.oneCell']) (by simp only [maxLen]; omega) (by omega) ?_; intro ad2 cc2 w2 own2; have OW := Lib.hid own2; clear own2))
      go_roundw
      case rel => exact ⟨k + 1, by omega, by go_num, by rw [HE.out, ruC_append]; exact OW.out⟩
      case measure => simp [intOf]; omega
  · obtain rfl : n = k := by omega
    rw [List.take_of_length_le (by rw [HN.out]; exact Nat.le_refl _)] at HO
    have hbd : ∀ r ∈ oneR l, 1 ≤ r.1 ∧ r.1 ≤ r.2 ∧ r.2 ≤ 1099511627776 := fun r hr => by
     obtain ⟨x, hx, rfl⟩ := List.mem_map.1 hr
     have := HB.out x hx
     exact ⟨this.1, Int.le_refl _, this.2⟩
    have HBD := Lib.hid hbd; clear hbd
    have hl5 := HL.out
    go_wp2_with (first
     | (go_at_call 181; refine (sSort_any 200 eg sOf1_any _ _ _ n (oneR l) HO.out HONE.out (Nat.le_trans HL.out (by decide))).mono ?_; rintro e w3 ⟨rfl, l', hp, hs, ho3⟩; have HP := Lib.hid hp; clear hp; have HS := Lib.hid hs; clear hs; have HO3 := Lib.hid ho3; clear ho3)
     | (go_at_call 184; refine (sjoined_any _ _ l' (by have := HO3.out.rd; rw [← HONE.out, ← HP.out.length_eq] at this; rw [← HONE.out, ← HP.out.length_eq]; exact this) (by rw [HP.out.length_eq, HONE.out]; exact Nat.le_trans HL.out (by decide)) (joined_sorted HP.out HS.out HBD.out).2.2).mono ?_; rintro e w4 ⟨v4, rfl, ho4⟩; obtain ⟨a4, c4, rfl⟩ := ho4.shape; have HO4 := Lib.hid ho4; clear ho4))
    go_ret2
    have hj := joined_sorted HP.out HS.out HBD.out
    exact ⟨_, joinedL l', rfl, HO4.out.base HO3.out.frm, hj.1, fun x => by rw [hj.2.1, inR_oneR], Nat.le_trans (joinedL_length l') (by rw [HP.out.length_eq, HONE.out]; exact Nat.le_refl _)⟩
structure OfUp (l : RunL) (k : Nat) (p : Nat → RunL) : Prop where
 done : ∀ d, d < k → RightR (p d) ∧ (∀ n, InR (p d) n ↔ ((d : Int), n) ∈ l) ∧ (p d).length ≤ 20000
 todo : ∀ d, k ≤ d → d < 4 → p d = []
theorem OfUp.ofC {l : RunL} {p : Nat → RunL} (h : OfUp l 4 p) : OfC l (wholeL fun d => p d.toNat) := by
 refine ⟨right_whole fun d h0 h4 => (h.done d.toNat (by omega)).1, fun d n h0 h4 => ?_⟩
 unfold InC
 rw [partL_whole _ h0 h4]
 have := (h.done d.toNat (by omega)).2.1 n
 rwa [Int.toNat_of_nonneg h0] at this
theorem cOf_ok (w : World) (v : Value) (l : RunL) (hv : RunAt w v l) (hd : DotsOk l) (hl : l.length ≤ 20000) :
 Calls Tryz.prog 131 #[v] w fun e w' => ∃ v' c, e = .returned (.tuple #[v', .int .i64 0]) ∧ OwnAt w w' 122 3 v' c.length (spC c) ∧ OfC l c ∧ c.length ≤ 800000 := by
 obtain ⟨i0, hi, hz0, hz1, hz2⟩ := info_parts info_i64
 obtain ⟨aA, cA, rfl⟩ := hv.sl
 have HH := Lib.hid hv; clear hv
 have HD := Lib.hid hd; clear hd
 have HL := Lib.hid hl; clear hl
 generalize hn : l.length = n at *
 have HN := Lib.hid hn; clear hn
 have HST := Lib.hid (FourAt.start (M := fun _ => False) 223 2 1 (Frm.refl NoS w) (fun k hk => hk.elim))
 go_enter Tryz.func131, Tryz.ntmps131
 go_wp2
 go_loopw [12] (fun i ww => ∃ (k : Nat) (vs : Nat → Value), k ≤ n ∧ i = .int .i64 k ∧ FourAt (fun _ => False) 223 2 1 w ww w.heap.size vs (fun d => (numsL (l.take k) d).length) (fun d => inV (numsL (l.take k) d))) (fun i _ => n - (intOf i).toNat)
 case atStart => exact ⟨0, fun _ => .slice none 0 0, Nat.zero_le _, rfl, HST.out⟩
 case round =>
  obtain ⟨k, vs, hk, rfl, h4⟩ := hrel
  have H4 := Lib.hid h4; clear h4
  by_cases hlt : k < n
  · rcases Rd.shape HH.out with ⟨ad, he, h0⟩ | ⟨b, off, cc, he, hmax⟩
    · exfalso; have := HN.out; omega
    · injection he with e1 e2 e3
      subst e1 e3
      clear e2
      rw [HN.out] at hmax
      have hlk : k < l.length := by rw [HN.out]; exact hlt
      obtain ⟨p0, p1⟩ := run_at HH.out HN.out.symm k hlk
      have q0 := H4.out.frm.cell' p0 id
      have q1 := H4.out.frm.cell' p1 id
      clear p0 p1
      have hdk := HD.out _ (getD_mem (0, 0) hlk)
      have HPT := Lib.hid (fun d => numsL_take_succ (l := l) (k := k) d hlk)
      obtain ⟨s, hgd⟩ : ∃ s, s = l.getD k (0, 0) := ⟨_, rfl⟩
      rw [← hgd] at HPT q0 q1 hdk
      clear hgd
      have hdr : dotB s.1 s.2 = true := by unfold dotB; simpa using hdk
      have HDR := Lib.hid (fun W => hdr ▸ dotRight_any s.1 s.2 W); clear hdr
      obtain ⟨dn, hdn⟩ : ∃ dn : Nat, s.1 = dn := ⟨s.1.toNat, by omega⟩
      have hd4 : dn < 4 := by omega
      rw [hdn] at q0 HDR
      have HDN := Lib.hid hdn; clear hdn hdk
      have hc4 : (dn : Int) < 4 := by omega
      have hsp : (wr.alloc (.cells #[.int .i64 dn, .int .i64 s.2] 168)).heap[wr.heap.size]? = some (.cells #[.int .i64 dn, .int .i64 s.2] 168 (0, 0)) := heap_alloc_new wr _
      have HSP := Lib.hid hsp; clear hsp
      have HB4 := Lib.hid (H4.out.box (.cells #[.int .i64 dn, .int .i64 s.2] 168))
      have hlen : (numsL (l.take k) dn).length ≤ k := Nat.le_trans (numsL_length_le _ _) (List.length_take_le _ _)
      have HLEN := Lib.hid (Nat.le_trans hlen (Nat.le_trans hk HL.out))
      clear hlen
      go_wp2_with (go_at_call 167; refine (HDR.out _).mono ?_; rintro e w1 ⟨rfl, hw1⟩; have HW1 := Lib.hid hw1; clear hw1; have n0 : w1.cell? ⟨wr.heap.size, 0, none⟩ = some (.int .i64 dn) := HW1.out.cell' (cell_at' HSP.out 0 rfl) id; have n1 : w1.cell? ⟨wr.heap.size, 1, none⟩ = some (.int .i64 s.2) := HW1.out.cell' (cell_at' HSP.out 1 rfl) id)
      have HK4 := Lib.hid ((HB4.out.keep HW1.out).keep (Frm.drew _ _))
      have hsb : wr.heap.size < w1.heap.size := World.block_lt_of_cell? _ _ n0
      obtain ⟨pl, hpl⟩ : ∃ pl, pl = (numsL (l.take k) dn).length := ⟨_, rfl⟩
      have hob : OwnBut (Rest4 (fun k => False ∨ k = wr.heap.size) w.heap.size vs dn) w w1.drew 2 1 (vs dn) pl (inV (numsL (l.take k) dn)) := by rw [hpl]; exact HK4.out.but hd4
      have HOB := Lib.hid hob; clear hob
      rw [← hpl] at HLEN
      have HPL := Lib.hid hpl; clear hpl
      clear q0 q1
      generalize wr.heap.size = sb at *
      refine wp_region_G (S := fun w' => w'.cell? ⟨sb, 0, none⟩ = some (.int .i64 dn) ∧ w'.cell? ⟨sb, 1, none⟩ = some (.int .i64 s.2) ∧ w'.cell? ⟨w.heap.size, dn, none⟩ = some (vs dn)) 11 (by kernel_rfl) ⟨n0, n1, HK4.out.cell hd4⟩ ?_
      intro hS
      have hsb : sb < w1.drew.heap.size := hsb
      clear n0 n1
      generalize w1.drew = Y at *
      refine tkG 0 19 rfl rfl (v := ?_) (.inl ⟨by rfl, ?_⟩) ?_
      rotate_left 1
      · (intro w hSw; (try dsimp only at hSw); go_simp; (try with_reducible rfl))
      refine tkG 1 20 rfl rfl (v := ?_) (.inl ⟨by rfl, ?_⟩) ?_
      rotate_left 1
      · (intro w hSw; (try dsimp only at hSw); go_simp; (try with_reducible rfl))
      try simp only [Act.put, List.setIfInBounds_toArray, List.set_cons_zero, List.set_cons_succ]
      refine tkG 2 21 rfl rfl (v := ?_) (.inl ⟨by rfl, ?_⟩) ?_
      rotate_left 1
      · (intro w hSw; (try dsimp only at hSw); go_simp; (try with_reducible rfl))
      refine tkG 3 22 rfl rfl (v := ?_) (.inl ⟨by rfl, ?_⟩) ?_
      rotate_left 1
      · (intro w hSw; (try dsimp only at hSw); go_simp; (try with_reducible rfl))
      try simp only [Act.put, List.setIfInBounds_toArray, List.set_cons_zero, List.set_cons_succ]
      refine tkG 4 23 rfl rfl (v := ?_) (.inl ⟨by rfl, ?_⟩) ?_
      rotate_left 1
      · (intro w hSw; (try dsimp only at hSw); go_simp; (try with_reducible rfl))
      refine tkG 5 24 rfl rfl (v := ?_) (.inl ⟨by rfl, ?_⟩) ?_
      rotate_left 1
      · (intro w hSw; (try dsimp only at hSw); go_simp; (try with_reducible rfl))
      try simp only [Act.put, List.setIfInBounds_toArray, List.set_cons_zero, List.set_cons_succ]
      refine tkG 6 25 rfl rfl (v := ?_) (.inl ⟨by rfl, ?_⟩) ?_
      rotate_left 1
      · (intro w hSw; (try dsimp only at hSw); go_simp; (try with_reducible rfl))
      refine tkG 7 26 rfl rfl (v := ?_) (.inl ⟨by rfl, ?_⟩) ?_
      rotate_left 1
      · (intro w hSw; (try dsimp only at hSw); go_simp; (try with_reducible rfl))
      try simp only [Act.put, List.setIfInBounds_toArray, List.set_cons_zero, List.set_cons_succ]
      refine one_opG (i := 8) (by kernel_rfl) rfl (fun K hK => ?_)
      go_simp
      have hS1 : (Y.alloc (.cells #[.int .i64 s.2] 2)).cell? ⟨sb, 0, none⟩ = some (.int .i64 dn) ∧ (Y.alloc (.cells #[.int .i64 s.2] 2)).cell? ⟨sb, 1, none⟩ = some (.int .i64 s.2) ∧ (Y.alloc (.cells #[.int .i64 s.2] 2)).cell? ⟨w.heap.size, dn, none⟩ = some (vs dn) := ⟨(Frm.alloc NoS Y _).cell' hS.1 id, (Frm.alloc NoS Y _).cell' hS.2.1 id, (Frm.alloc NoS Y _).cell' hS.2.2 id⟩
      refine hK.out _ _ hS1 ?_
      clear hK K
      try simp only [Act.put, List.setIfInBounds_toArray, List.set_cons_zero, List.set_cons_succ]
      refine one_opG (i := 9) (by kernel_rfl) rfl (fun K hK => ?_)
      refine step_appB (Rest4 (fun k => False ∨ k = sb) w.heap.size vs dn) w Y [.int .i64 s.2] rfl (.tmp 24) (.tmp 27) 199 rfl 2 i0 _ 1 8 Tryz.underlying199 hi hz0 hz1 hz2 (by decide) (by decide) (vs dn) pl _ HOB.out (HK4.out.lt dn) 1 1 (by simp [Act.eval]) (by simp [Act.eval]) rfl (by simp [Value.oneCell']) (by have := HLEN.out; simp only [maxLen]; omega) (by have := HLEN.out; omega) ?_
      intro ad cc2 w2 own2 kp2
      have hS2 : w2.cell? ⟨sb, 0, none⟩ = some (.int .i64 dn) ∧ w2.cell? ⟨sb, 1, none⟩ = some (.int .i64 s.2) ∧ w2.cell? ⟨w.heap.size, dn, none⟩ = some (vs dn) := ⟨kp2.cell (.inr (.inl (.inr rfl))) hS.1, kp2.cell (.inr (.inl (.inr rfl))) hS.2.1, kp2.cell (.inl rfl) hS.2.2⟩
      refine hK.out _ _ hS2 ?_
      clear hK K hS1
      have HSTP := Lib.hid (((HK4.out.step hd4 kp2 own2).mono (M' := fun _ => False) fun k hk => hk.elim).congr (n' := fun d => (numsL (l.take (k + 1)) d).length) (xs' := fun d => inV (numsL (l.take (k + 1)) d)) (fun d hd => by
       rw [HPT.out]
       by_cases he : d = dn
       · subst he; rw [upd_same, if_pos HDN.out, List.length_append, ← HPL.out]; rfl
       · rw [upd_other _ _ he, if_neg (by rw [HDN.out]; omega), List.append_nil]) (fun d hd => by
       rw [HPT.out]
       by_cases he : d = dn
       · subst he; rw [upd_same, if_pos HDN.out, inV_append]; rfl
       · rw [upd_other _ _ he, if_neg (by rw [HDN.out]; omega), List.append_nil]))
      have hcf := kp2.frozen (p := ⟨w.heap.size, dn, none⟩) (.inl rfl) (free_at' HK4.out.blk dn)
      clear own2 kp2
      try simp only [Act.put, List.setIfInBounds_toArray, List.set_cons_zero, List.set_cons_succ]
      refine tkG 10 29 rfl rfl (v := ?_) (.inl ⟨by rfl, ?_⟩) ?_
      rotate_left 1
      · (intro w hSw; (try dsimp only at hSw); go_simp; (try with_reducible rfl))
      try simp only [Act.put, List.setIfInBounds_toArray, List.set_cons_zero, List.set_cons_succ]
      refine last_opG (by kernel_rfl) (by kernel_rfl) rfl (fun K hK => ?_)
      have hcz := hS2.2.2
      clear hS2 hS
      go_simp
      refine hK.out _ _ ?_
      clear hK K hcz hcf
      go_wp2
      go_roundw
      case rel => exact ⟨k + 1, _, by omega, by go_num, HSTP.out⟩
      case measure => simp [intOf]; omega
  · obtain rfl : n = k := by omega
    rw [List.take_of_length_le (by rw [HN.out]; exact Nat.le_refl _)] at H4
    obtain ⟨wo, rfl⟩ : ∃ wo : World, wo = wr := ⟨_, rfl⟩
    have hsh : ∀ d, d < 4 → ∃ t : Option Addr × Nat × Nat, vs d = .slice t.1 t.2.1 t.2.2 := fun d hd => by
     obtain ⟨a, c, h⟩ := (H4.out.own d hd).at_.shape
     exact ⟨(a, _, c), h⟩
    obtain ⟨A, hA⟩ := Go.Deep.choose_lt hsh
    clear hsh
    have c0 : wo.cell? ⟨w.heap.size, 0, none⟩ = some (.slice (A 0).1 (A 0).2.1 (A 0).2.2) := hA 0 (by omega) ▸ H4.out.cell (d := 0) (by omega)
    have c1 : wo.cell? ⟨w.heap.size, 1, none⟩ = some (.slice (A 1).1 (A 1).2.1 (A 1).2.2) := hA 1 (by omega) ▸ H4.out.cell (d := 1) (by omega)
    have c2 : wo.cell? ⟨w.heap.size, 2, none⟩ = some (.slice (A 2).1 (A 2).2.1 (A 2).2.2) := hA 2 (by omega) ▸ H4.out.cell (d := 2) (by omega)
    have c3 : wo.cell? ⟨w.heap.size, 3, none⟩ = some (.slice (A 3).1 (A 3).2.1 (A 3).2.2) := hA 3 (by omega) ▸ H4.out.cell (d := 3) (by omega)
    have HAA := Lib.hid hA; clear hA
    have hgw : w.heap.size < wo.heap.size := World.block_lt_of_cell? _ _ c0
    have hp0 := ParIn.start (w0 := w) (w := wo) (A := fun _ => (none, 0, 0)) (p := fun _ => []) ⟨fun d hd => OwnAt.nil H4.out.frm _ _⟩
    have HP0 := Lib.hid hp0; clear hp0
    go_wp2
    clear c0 c1 c2 c3
    go_loopw [32] (fun i ww => ∃ (j : Nat) (A' : Nat → Sl) (p : Nat → RunL), j ≤ 4 ∧ i = .int .i64 j ∧ ParIn w ww wo.heap.size A' p ∧ OfUp l j p ∧
     Frm (fun k => k = wo.heap.size) (wo.alloc (.cells #[.slice none 0 0, .slice none 0 0, .slice none 0 0, .slice none 0 0] 190)) ww) (fun i _ => 4 - (intOf i).toNat)
    case atStart => exact ⟨0, fun _ => (none, 0, 0), fun _ => [], by omega, rfl, HP0.out, ⟨fun d hd => by omega, fun d _ _ => rfl⟩, Frm.refl _ _⟩
    case round =>
     obtain ⟨j, A', p, hj, rfl, hp, hou, hfq⟩ := hrel
     have HP := Lib.hid hp; clear hp
     have HOU := Lib.hid hou; clear hou
     have HFQ := Lib.hid hfq; clear hfq
     by_cases hj4 : j < 4
     · have hki : (j : Int) < 4 := by omega
       have hkd : decide ((j : Int) < 4) = true := by simpa using hki
       have hix : ∀ W, (Instr.index 223 (.agg #[.slice (A 0).1 (A 0).2.1 (A 0).2.2, .slice (A 1).1 (A 1).2.1 (A 1).2.2, .slice (A 2).1 (A 2).2.1 (A 2).2.2, .slice (A 3).1 (A 3).2.1 (A 3).2.2]) (.int .i64 (j : Int))).run Tryz.prog W = .ok (.slice (A j).1 (A j).2.1 (A j).2.2) W := by
        rcases (by omega : j = 0 ∨ j = 1 ∨ j = 2 ∨ j = 3) with rfl | rfl | rfl | rfl <;> exact fun _ => by kernel_rfl
       have hob := ((H4.out.own j hj4).at_.keep (Frm.alloc NoS wo (.cells #[.slice none 0 0, .slice none 0 0, .slice none 0 0, .slice none 0 0] 190)))
       have hno := Rd.keep hob.rd HFQ.out (fun q hq h => by have := (H4.out.own j hj4).at_.lt q hq; have h : q = wo.heap.size := h; omega)
       rw [HAA.out j hj4] at hno
       have hcall := sOf_ok wr _ (numsL l j) hno (Nat.le_trans (numsL_length_le l j) (by rw [HN.out]; exact Nat.le_trans HL.out (by decide))) (fun x hx => by have := HD.out _ (numsL_mem.1 hx); exact ⟨this.2.2.1, this.2.2.2⟩)
       have HC := Lib.hid hcall; clear hcall hob hno
       have hpc := HP.out.cell hj4
       have HPC := Lib.hid hpc; clear hpc
       go_wp2_with (go_at_call 168; refine HC.out.mono ?_; rintro e w3 ⟨v3, out, rfl, ho3, hr3, hm3, hl3⟩; obtain ⟨a3, c3, rfl⟩ := ho3.shape; have HO3 := Lib.hid ho3; clear ho3; have HR3 := Lib.hid hr3; clear hr3; have HM3 := Lib.hid hm3; clear hm3; have HL3 := Lib.hid hl3; clear hl3; have hcz := HO3.out.frm.cell' HPC.out id; have hfz : w3.frozen? ⟨wo.heap.size, j, none⟩ = false := free_at' (HP.out.keep HO3.out.frm).blk j)
       have HSET := Lib.hid (HP.out.set hj4 (t := (a3, out.length, c3)) HO3.out)
       go_roundw
       case rel => exact ⟨j + 1, _, _, by omega, by go_num, HSET.out, ⟨fun d hd => by
        by_cases he : d = j
        · subst he; rw [upd_same]; exact ⟨HR3.out, fun n => by rw [HM3.out, numsL_mem], Nat.le_trans HL3.out (Nat.le_trans (numsL_length_le l d) (by rw [HN.out]; exact HL.out))⟩
        · rw [upd_other _ _ he]; exact HOU.out.done d (by omega), fun d h1 h2 => by
        rw [upd_other _ _ (by omega)]; exact HOU.out.todo d (by omega) h2⟩, (HFQ.out.then1 HO3.out.frm).trans (Frm.setCell (S := fun k => k = wo.heap.size) w3 (p := ⟨wo.heap.size, j, none⟩) (.inl rfl) _) fun _ _ h => h⟩
       case measure => simp [intOf]; omega
     · obtain rfl : j = 4 := by omega
       have c0 : wr.cell? ⟨wo.heap.size, 0, none⟩ = some (.slice (A' 0).1 (A' 0).2.1 (A' 0).2.2) := HP.out.cell (by omega)
       have c1 : wr.cell? ⟨wo.heap.size, 1, none⟩ = some (.slice (A' 1).1 (A' 1).2.1 (A' 1).2.2) := HP.out.cell (by omega)
       have c2 : wr.cell? ⟨wo.heap.size, 2, none⟩ = some (.slice (A' 2).1 (A' 2).2.1 (A' 2).2.2) := HP.out.cell (by omega)
       have c3 : wr.cell? ⟨wo.heap.size, 3, none⟩ = some (.slice (A' 3).1 (A' 3).2.1 (A' 3).2.2) := HP.out.cell (by omega)
       go_wp2_with (go_at_call 169; refine (cwhole_any _ A' p (fun d hd => (HP.out.own d hd).at_.rd) (fun d hd => Nat.le_trans (HOU.out.done d hd).2.2 (by decide))).mono ?_; rintro e w3 ⟨v3, c, rfl, ho3, hc3, hl3⟩; obtain ⟨a3, k3, rfl⟩ := ho3.shape; have HO3 := Lib.hid ho3; clear ho3; have HC3 := Lib.hid hc3; clear hc3; have HL3 := Lib.hid hl3; clear hl3)
       go_ret2
       exact ⟨_, c, rfl, HO3.out.base (HP.out.own 0 (by omega)).at_.frm, by rw [HC3.out]; exact HOU.out.ofC, HL3.out⟩
def Ent.v (e : Ent) : Value := .agg #[.int .i64 e.dc, .int .i64 e.n, .string e.s, .int .i64 e.k]
theorem r8entry_any (e : Ent) (hs : e.s.size ≤ 9223372036854775807) (w : World) : Calls Tryz.prog 185 #[e.v] w fun x w' => x = .returned (.bool (entB e)) ∧ Frm NoS w w' := by
 unfold Ent.v
 have c2 : (w.alloc (.cells #[.int .i64 e.dc, .int .i64 e.n, .string e.s, .int .i64 e.k] 170)).cell? ⟨w.heap.size, 2, none⟩ = some (.string e.s) := cell_at' (heap_alloc_new w _) 2 rfl
 have c3 : (w.alloc (.cells #[.int .i64 e.dc, .int .i64 e.n, .string e.s, .int .i64 e.k] 170)).cell? ⟨w.heap.size, 3, none⟩ = some (.int .i64 e.k) := cell_at' (heap_alloc_new w _) 3 rfl
 cases hd : dotB e.dc e.n with
 | false =>
  go_enter Tryz.func185, Tryz.ntmps185
  go_wp2_with (go_at_call 205; refine (r5Right_any _ _ _).mono ?_; rintro x w1 ⟨rfl, hw1⟩; rw [hd])
  go_ret
  exact ⟨ret_bool (by simp [entB, hd]), (Frm.alloc _ _ _).then1 hw1⟩
 | true =>
  go_enter Tryz.func185, Tryz.ntmps185
  go_wp2_with (go_at_call 205; refine (r5Right_any _ _ _).mono ?_; rintro x w1 ⟨rfl, hw1⟩; rw [hd]; have k2 := hw1.cell' c2 id; have k3 := hw1.cell' c3 id)
  all_goals
   go_ret
   refine ⟨ret_bool ?_, (Frm.alloc _ _ _).then1 hw1⟩
   rw [Bool.eq_iff_iff]
   simp [entB, hd] <;> omega
theorem rightEs_snoc : ∀ (l : List Ent) (p : Option Ent) (e : Ent), rightEs p (l ++ [e]) = (rightEs p l && entB e && ltE (match l.getLast? with | some x => some x | none => p) e)
 | [], p, e => by simp [rightEs]
 | x :: l, p, e => by
  show (entB x && ltE p x && rightEs (some x) (l ++ [e])) = ((entB x && ltE p x && rightEs (some x) l) && entB e && _)
  rw [rightEs_snoc l (some x) e]
  have : (match (x :: l).getLast? with | some y => some y | none => p) = (match l.getLast? with | some y => some y | none => some x) := by
   cases l with
   | nil => rfl
   | cons y l =>
    rw [List.getLast?_cons_cons]
    cases h : (y :: l).getLast? with
    | none => simp at h
    | some z => rfl
  rw [this]
  simp only [Bool.and_assoc]
theorem rightEs_take : ∀ (l : List Ent) (p : Option Ent) (k : Nat), rightEs p l = true → rightEs p (l.take k) = true
 | [], _, _, _ => by simp [rightEs]
 | _ :: _, _, 0, _ => rfl
 | x :: l, p, k + 1, h => by
  have h : (entB x && ltE p x && rightEs (some x) l) = true := h
  show (entB x && ltE p x && rightEs (some x) (l.take k)) = true
  simp only [Bool.and_eq_true] at h ⊢
  exact ⟨h.1, rightEs_take l _ k h.2⟩
theorem rightEs_step0 {l : List Ent} (h : 0 < l.length) : rightEs none (l.take (0 + 1)) = entB (l.getD 0 Ent.zero) := by
 rw [take_succ Ent.zero h]
 simp [rightEs, ltE]
theorem rightEs_step {l : List Ent} {j : Nat} (h : j + 1 < l.length) (hr : rightEs none (l.take (j + 1)) = true) : rightEs none (l.take (j + 1 + 1)) = (entB (l.getD (j + 1) Ent.zero) && dotLt (l.getD j Ent.zero).dc (l.getD j Ent.zero).n (l.getD (j + 1) Ent.zero).dc (l.getD (j + 1) Ent.zero).n) := by
 rw [take_succ Ent.zero h, rightEs_snoc, hr]
 have : (l.take (j + 1)).getLast? = some (l.getD j Ent.zero) := by
  rw [take_succ Ent.zero (by omega)]; simp
 rw [this]
 simp [ltE]
theorem not_rightEs {l : List Ent} {k : Nat} (h : rightEs none (l.take k) = false) : rightEs none l = false := by
 cases hh : rightEs none l with
 | false => rfl
 | true => rw [rightEs_take l none k hh] at h; cases h
theorem EsOk.at {es : List Ent} (h : EsOk es) {k : Nat} (hk : k < es.length) : (es.getD k Ent.zero).fits := h.fits _ (getD_mem _ hk)
theorem Calls.frm_of_same {P : Program} {f : FuncId} {args : Array Value} {w : World} {v : Value} (h : Calls P f args w fun e w' => e = .returned v ∧ w' = w) : Calls P f args w fun e w' => e = .returned v ∧ Frm (fun _ => False) w w' :=
 h.mono fun _ _ ⟨h1, h2⟩ => ⟨h1, by rw [h2]; exact Frm.refl _ _⟩
theorem geq_str (t : TypeId) (a b : ByteArray) : binOp .geq t (.string a) (.string b) = pure (.bool !(Op.bytesLess a.toList b.toList)) := by simp [binOp, Op.stringOp]
theorem size_sub : ∀ (n : Nat) {ks : KidsL} {key : ByteArray} {es : List Ent} {sub rest : KidsL}, ks.drop n = .cons key es sub rest → sizeK sub < sizeK ks
 | 0, .cons _ _ _ _, _, _, _, _, h => by
  cases h
  simp only [sizeK]
  omega
 | 0, .nil, _, _, _, _, h => by cases h
 | n + 1, .nil, _, _, _, _, h => by cases h
 | n + 1, .cons _ _ _ r, _, _, _, _, h => by
  have h1 : r.drop n = _ := h
  have := size_sub n h1
  simp only [sizeK]
  omega
theorem rightKs_drop {ks : KidsL} {d n : Nat} {key : ByteArray} {es : List Ent} {sub rest : KidsL} {p : Option ByteArray} (h : ks.drop n = .cons key es sub rest) : rightKs (ks.drop n) d p = (keyB key && ltK p key && !isNil es sub && rightT d es sub && rightKs (ks.drop (n + 1)) d (some key)) := by
 rw [h, KidsL.drop_succ n ks h, rightKs_cons]
def PrevK (ks : KidsL) (n : Nat) (p : Option ByteArray) : Prop := (n = 0 ∧ p = none) ∨ ∃ j key es sub rest, n = j + 1 ∧ ks.drop j = .cons key es sub rest ∧ p = some key
theorem isNil_int (es : List Ent) (ks : KidsL) : ((((es.length : Int) + (ks.len : Int)) == 0)) = isNil es ks := by
 rw [Bool.eq_iff_iff]
 simp only [isNil, beq_iff_eq, decide_eq_true_eq]
 omega
theorem d_small {d : Nat} (h : d ≤ 100) : wrap64 (d : Int) = d := by unfold wrap64; omega
theorem r8right_any (Q : Nat → Prop) : ∀ (N : Nat) (es : List Ent) (ks : KidsL) (d : Nat) (w : World) (ev kv : Value), sizeK ks < N → TreeAt Q w ev kv es ks → TrOk es ks → d ≤ 100 →
 Calls Tryz.prog 150 #[.agg #[ev, kv], .int .i64 d] w fun e w' => e = .returned (.bool (rightT d es ks)) ∧ Frm NoS w w' := by
 intro N
 induction N with
 | zero => intros; exfalso; omega
 | succ N IHN =>
  intro es ks d w ev kv hN ht hok hd
  obtain ⟨ae, ce, rfl⟩ := ht.ents.rd.sl
  obtain ⟨os, hkr, hfor⟩ := ht.kids
  obtain ⟨ak, ck, rfl⟩ := hkr.rd.sl
  have HT := Lib.hid ht; clear ht
  have HKR := Lib.hid hkr.rd; clear hkr
  have HFOR := Lib.hid hfor; clear hfor
  have IH := Lib.hid IHN; clear IHN
  have HWB := Lib.hid (Frm.alloc NoS w (.cells #[.slice ae es.length ce, .slice ak ks.len ck] 28))
  have box0 : (w.alloc (.cells #[.slice ae es.length ce, .slice ak ks.len ck] 28)).cell? ⟨w.heap.size, 0, none⟩ = some (.slice ae es.length ce) := cell_at' (heap_alloc_new w _) 0 rfl
  have box1 : (w.alloc (.cells #[.slice ae es.length ce, .slice ak ks.len ck] 28)).cell? ⟨w.heap.size, 1, none⟩ = some (.slice ak ks.len ck) := cell_at' (heap_alloc_new w _) 1 rfl
  have B0 := Lib.hid box0; clear box0
  have B1 := Lib.hid box1; clear box1
  have HEL := Lib.hid hok.es.len
  have HKL := Lib.hid hok.len
  have HOK := Lib.hid hok; clear hok
  have HSZ := Lib.hid hN; clear hN
  cases d with
  | zero =>
   go_enter Tryz.func150, Tryz.ntmps150
   go_wp2
   go_ret
   exact ⟨ret_bool (by simp [rightT]), HWB.out⟩
  | succ d =>
   generalize hes : es.length = n at *
   have HN := Lib.hid hes; clear hes
   generalize hkl : ks.len = m at *
   have HM := Lib.hid hkl; clear hkl
   have hdz : (((d + 1 : Nat) : Int) == 0) = false := by simp; omega
   have hwd : wrap64 (d : Int) = d := d_small (by omega)
   have HD := Lib.hid hd; clear hd
   go_enter Tryz.func150, Tryz.ntmps150
   go_wp2
   go_loopw [13] (fun i ww => ∃ k : Nat, k ≤ n ∧ i = .int .i64 k ∧ rightEs none (es.take k) = true ∧ Frm NoS (w.alloc (.cells #[.slice ae n ce, .slice ak m ck] 28)) ww) (fun i _ => n - (intOf i).toNat)
   case atStart => exact ⟨0, Nat.zero_le _, rfl, rfl, Frm.refl _ _⟩
   case round =>
    obtain ⟨k, hk, rfl, hr, hw⟩ := hrel
    have HW := Lib.hid hw; clear hw
    have HR := Lib.hid hr; clear hr
    have b0 := HW.out.cell' B0.out id
    by_cases hlt : k < n
    · have hnm : (n : Int) ≤ 9223372036854775807 := by have := HEL.out; omega
      rcases Rd.shape (HT.out.ents.rd.keep0 (HWB.out.then1 HW.out)) with ⟨ad, he, h0⟩ | ⟨b, off, cc, he, hmax⟩
      · exfalso; have := HN.out; omega
      · injection he with e1 e2 e3
        subst e1 e3
        clear e2 hmax
        have her := HT.out.ents.rd.keep0 (HWB.out.then1 HW.out)
        rw [HN.out] at her
        obtain ⟨q0, q1, q2, q3⟩ := ent_at her k (by rw [HN.out]; exact hlt)
        have hsz := (HOK.out.es.at (show k < es.length by rw [HN.out]; exact hlt)).2.2.2
        clear her
        obtain ⟨α, hne, K, hK1, hK0, hK2⟩ := worlds wr
        have kb0 := fun s => (hK1 s).cell' b0 id
        rcases Nat.eq_zero_or_pos k with rfl | hk0
        · have hS := rightEs_step0 (l := es) (by rw [HN.out]; exact hlt)
          generalize es.getD 0 Ent.zero = e at *
          simp only [Nat.zero_mul, Nat.add_zero] at q0 q1 q2 q3
          have k0 := fun s => (hK1 s).cell' q0 id
          have k1 := fun s => (hK1 s).cell' q1 id
          have k2 := fun s => (hK1 s).cell' q2 id
          have k3 := fun s => (hK1 s).cell' q3 id
          clear q0 q1 q2 q3
          cases he : entB e with
          | false =>
           rw [he] at hS
           have HS := Lib.hid hS; clear hS
           go_wp2_with fail
           refine wp_region_new K (by kernel_rfl) (by kernel_rfl) hK0 ?_
           repeat (go_big_quiet_step ((first | (go_at_call 185; exact Calls.in_class hK2 (r8entry_any e hsz _)) | (go_at_call 186; exact Calls.in_class hK2 (r5Less_any _ _ _ _ _)))))
           refine wpQuiet_nil ?_
           intro w' hw'
           obtain ⟨s, rfl⟩ := hw'
           have hfs := hK1 s
           go_wp2
           go_ret
           exact ⟨ret_bool (by rw [rightT, not_rightEs HS.out]; simp), HWB.out.then1 (HW.out.then1 hfs)⟩
          | true =>
           rw [he] at hS
           have HS := Lib.hid hS; clear hS
           go_wp2_with fail
           refine wp_region_new K (by kernel_rfl) (by kernel_rfl) hK0 ?_
           repeat (go_big_quiet_step ((first | (go_at_call 185; exact Calls.in_class hK2 (r8entry_any e hsz _)) | (go_at_call 186; exact Calls.in_class hK2 (r5Less_any _ _ _ _ _)))))
           refine wpQuiet_nil ?_
           intro w' hw'
           obtain ⟨s, rfl⟩ := hw'
           have hfs := hK1 s
           go_wp2
           go_roundw
           case rel => exact ⟨0 + 1, by omega, by go_num, HS.out, HW.out.then1 hfs⟩
           case measure => simp [intOf]; omega
        · obtain ⟨j, rfl⟩ : ∃ j, k = j + 1 := ⟨k - 1, by omega⟩
          have her := HT.out.ents.rd.keep0 (HWB.out.then1 HW.out)
          rw [HN.out] at her
          obtain ⟨p0, p1, -, -⟩ := ent_at her j (by rw [HN.out]; omega)
          clear her
          have hS := rightEs_step (l := es) (j := j) (by rw [HN.out]; exact hlt) HR.out
          generalize es.getD (j + 1) Ent.zero = e at *
          generalize es.getD j Ent.zero = pe at *
          have k0 := fun s => (hK1 s).cell' q0 id
          have k1 := fun s => (hK1 s).cell' q1 id
          have k2 := fun s => (hK1 s).cell' q2 id
          have k3 := fun s => (hK1 s).cell' q3 id
          have k4 := fun s => (hK1 s).cell' p0 id
          have k5 := fun s => (hK1 s).cell' p1 id
          clear q0 q1 q2 q3 p0 p1
          cases he : entB e with
          | false =>
           rw [he, Bool.false_and] at hS
           have HS := Lib.hid hS; clear hS
           go_wp2_with fail
           refine wp_region_new K (by kernel_rfl) (by kernel_rfl) hK0 ?_
           repeat (go_big_quiet_step ((first | (go_at_call 185; exact Calls.in_class hK2 (r8entry_any e hsz _)) | (go_at_call 186; exact Calls.in_class hK2 (r5Less_any _ _ _ _ _)))))
           refine wpQuiet_nil ?_
           intro w' hw'
           obtain ⟨s, rfl⟩ := hw'
           have hfs := hK1 s
           go_wp2
           go_ret
           exact ⟨ret_bool (by rw [rightT, not_rightEs HS.out]; simp), HWB.out.then1 (HW.out.then1 hfs)⟩
          | true =>
           rw [he, Bool.true_and] at hS
           cases hl : dotLt pe.dc pe.n e.dc e.n with
           | false =>
            rw [hl] at hS
            have HS := Lib.hid hS; clear hS
            go_wp2_with fail
            refine wp_region_new K (by kernel_rfl) (by kernel_rfl) hK0 ?_
            repeat (go_big_quiet_step ((first | (go_at_call 185; exact Calls.in_class hK2 (r8entry_any e hsz _)) | (go_at_call 186; exact Calls.in_class hK2 (r5Less_any _ _ _ _ _)))))
            refine wpQuiet_nil ?_
            intro w' hw'
            obtain ⟨s, rfl⟩ := hw'
            have hfs := hK1 s
            go_wp2
            go_ret
            exact ⟨ret_bool (by rw [rightT, not_rightEs HS.out]; simp), HWB.out.then1 (HW.out.then1 hfs)⟩
           | true =>
            rw [hl] at hS
            have HS := Lib.hid hS; clear hS
            go_wp2_with fail
            refine wp_region_new K (by kernel_rfl) (by kernel_rfl) hK0 ?_
            repeat (go_big_quiet_step ((first | (go_at_call 185; exact Calls.in_class hK2 (r8entry_any e hsz _)) | (go_at_call 186; exact Calls.in_class hK2 (r5Less_any _ _ _ _ _)))))
            refine wpQuiet_nil ?_
            intro w' hw'
            obtain ⟨s, rfl⟩ := hw'
            have hfs := hK1 s
            go_wp2
            go_roundw
            case rel => exact ⟨j + 1 + 1, by omega, by go_num, HS.out, HW.out.then1 hfs⟩
            case measure => simp [intOf]; omega
    · obtain rfl : n = k := by omega
      rw [List.take_of_length_le (by rw [HN.out]; exact Nat.le_refl _)] at HR
      have b1 := HW.out.cell' B1.out id
      go_wp2
      go_loopw [48] (fun i ww => ∃ (k : Nat) (p : Option ByteArray), k ≤ m ∧ i = .int .i64 k ∧ PrevK ks k p ∧ rightKs ks d none = rightKs (ks.drop k) d p ∧ Frm NoS (w.alloc (.cells #[.slice ae n ce, .slice ak m ck] 28)) ww) (fun i _ => m - (intOf i).toNat)
      case atStart => exact ⟨0, none, Nat.zero_le _, rfl, .inl ⟨rfl, rfl⟩, rfl, HW.out⟩
      case round =>
       clear b0 b1
       obtain ⟨k, p, hk, rfl, hp, hr, hw⟩ := hrel
       have HWK := Lib.hid hw; clear hw
       have HP := Lib.hid hp; clear hp
       have b1 := HWK.out.cell' B1.out id
       by_cases hlt : k < m
       · obtain ⟨key, es', sub, rest, hdr⟩ := KidsL.drop_some (n := k) (ks := ks) (by rw [HM.out]; exact hlt)
         have hmm : (m : Int) ≤ 9223372036854775807 := by have := HKL.out; omega
         rcases Rd.shape (HKR.out.keep0 (HWB.out.then1 HWK.out)) with ⟨ad, he, h0⟩ | ⟨b, off, cc, he, hmax⟩
         · exfalso; have := HM.out; omega
         · injection he with e1 e2 e3
           subst e1 e3
           clear e2 hmax
           obtain ⟨ev', kv', c0, c1, c2, hta⟩ := kid_at (HKR.out.keep0 (HWB.out.then1 HWK.out)) (HFOR.out.keep0 (HWB.out.then1 HWK.out)) hdr
           obtain ⟨ae', ce', rfl⟩ := hta.ents.rd.sl
           obtain ⟨os', hkr', hfor'⟩ := hta.kids
           obtain ⟨ak', ck', rfl⟩ := hkr'.rd.sl
           clear hkr' hfor'
           have hok' := HOK.out.ks.drop k
           rw [hdr] at hok'
           have hkz := hok'.1
           have hsub : TrOk es' sub := ⟨hok'.2.1, hok'.2.2.1, hok'.2.2.2.1⟩
           have l1 : ((es'.length : Nat) : Int) ≤ 140737488351232 := by have := hsub.es.len; omega
           have l2 : ((sub.len : Nat) : Int) ≤ 140737488351232 := by have := hsub.len; omega
           have HSUB := Lib.hid hsub; clear hsub hok'
           have HSS := Lib.hid (size_sub k hdr)
           rw [rightKs_drop hdr] at hr
           have HDR := Lib.hid hdr; clear hdr
           have hbf : Frm NoS wr (wr.alloc (.cells #[.string key, .slice ae' es'.length ce', .slice ak' sub.len ck'] 172)) := Frm.alloc _ _ _
           have n0 : (wr.alloc (.cells #[.string key, .slice ae' es'.length ce', .slice ak' sub.len ck'] 172)).cell? ⟨wr.heap.size, 0, none⟩ = some (.string key) := cell_at' (heap_alloc_new wr _) 0 rfl
           have n1 : (wr.alloc (.cells #[.string key, .slice ae' es'.length ce', .slice ak' sub.len ck'] 172)).cell? ⟨wr.heap.size, 1, none⟩ = some (.slice ae' es'.length ce') := cell_at' (heap_alloc_new wr _) 1 rfl
           have n2 : (wr.alloc (.cells #[.string key, .slice ae' es'.length ce', .slice ak' sub.len ck'] 172)).cell? ⟨wr.heap.size, 2, none⟩ = some (.slice ak' sub.len ck') := cell_at' (heap_alloc_new wr _) 2 rfl
           have HTA := Lib.hid (hta.keep0 hbf); clear hta
           have HWK0 := HWK; clear HWK
           have HWK := Lib.hid (HWK0.out.then1 hbf)
           have kk : ∀ j key0 es0 sub0 rest0, ks.drop j = .cons key0 es0 sub0 rest0 → wr.cell? ⟨b, off + j * 3, none⟩ = some (.string key0) := fun j key0 es0 sub0 rest0 h => by
            obtain ⟨_, _, h0, _⟩ := kid_at (HKR.out.keep0 (HWB.out.then1 HWK0.out)) (HFOR.out.keep0 (HWB.out.then1 HWK0.out)) h
            exact h0
           have KK := Lib.hid kk; clear kk
           have HIH := Lib.hid (fun w' (h : Frm NoS (wr.alloc (.cells #[.string key, .slice ae' es'.length ce', .slice ak' sub.len ck'] 172)) w') => IH.out es' sub d w' _ _ (by have := HSS.out; have := HSZ.out; omega) (HTA.out.keep0 h) HSUB.out (by have := HD.out; omega))
           have hnil := isNil_int es' sub
           generalize es'.length = n' at *
           generalize sub.len = m' at *
           obtain ⟨α, hne, K, hK3, hK0, hK2⟩ := worlds (wr.alloc (.cells #[.string key, .slice ae' n' ce', .slice ak' m' ck'] 172))
           have hK1 := hK3
           have kb1 := fun s => (hK1 s).cell' (hbf.cell' b1 id) id
           have kn0 := fun s => (hK1 s).cell' n0 id
           have kn1 := fun s => (hK1 s).cell' n1 id
           have kn2 := fun s => (hK1 s).cell' n2 id
           clear n0 n1 n2
           have hge := geq_str
           rcases HP.out with ⟨rfl, rfl⟩ | ⟨j, key0, es0, sub0, rest0, rfl, hdj, rfl⟩
           · simp only [Nat.zero_mul, Nat.add_zero] at c0 c1 c2
             cases g1 : keyB key with
             | false =>
              rw [g1] at hr
              simp only [Bool.false_and] at hr
              have hst : rightT (d + 1) es ks = false := by rw [rightT, Nat.add_sub_cancel, hr]; simp
              have HST := Lib.hid hst; clear hst hr
              go_wp2_with fail
              refine wp_region_new K (by kernel_rfl) (by kernel_rfl) hK0 ?_
              repeat (go_big_quiet_step ((first | (go_at_call 187; exact Calls.in_class hK2 (Calls.frm_of_same (r8Key_any key _ hkz))) | (go_at_call 150; exact Calls.in_class hK2 (HIH.out _ (hK3 _))))))
              refine wpQuiet_nil ?_
              intro w' hw'
              obtain ⟨s, rfl⟩ := hw'
              have hfs := hK1 s
              go_wp2
              go_ret
              exact ⟨ret_bool HST.out.symm, HWB.out.then1 (HWK.out.then1 hfs)⟩
             | true =>
              cases g3 : isNil es' sub with
              | true =>
               rw [g1, g3] at hr
               rw [g3] at hnil
               simp only [Bool.not_true, Bool.and_false, Bool.false_and] at hr
               have hst : rightT (d + 1) es ks = false := by rw [rightT, Nat.add_sub_cancel, hr]; simp
               have HST := Lib.hid hst; clear hst hr
               go_wp2_with fail
               refine wp_region_new K (by kernel_rfl) (by kernel_rfl) hK0 ?_
               repeat (go_big_quiet_step ((first | (go_at_call 187; exact Calls.in_class hK2 (Calls.frm_of_same (r8Key_any key _ hkz))) | (go_at_call 150; exact Calls.in_class hK2 (HIH.out _ (hK3 _))))))
               refine wpQuiet_nil ?_
               intro w' hw'
               obtain ⟨s, rfl⟩ := hw'
               have hfs := hK1 s
               go_wp2
               go_ret
               exact ⟨ret_bool HST.out.symm, HWB.out.then1 (HWK.out.then1 hfs)⟩
              | false =>
               rw [g3] at hnil
               cases g4 : rightT d es' sub with
               | false =>
                rw [g1, g3, g4] at hr
                rw [g4] at HIH
                simp only [Bool.and_false, Bool.false_and] at hr
                have hst : rightT (d + 1) es ks = false := by rw [rightT, Nat.add_sub_cancel, hr]; simp
                have HST := Lib.hid hst; clear hst hr
                go_wp2_with fail
                refine wp_region_new K (by kernel_rfl) (by kernel_rfl) hK0 ?_
                repeat (go_big_quiet_step ((first | (go_at_call 187; exact Calls.in_class hK2 (Calls.frm_of_same (r8Key_any key _ hkz))) | (go_at_call 150; exact Calls.in_class hK2 (HIH.out _ (hK3 _))))))
                refine wpQuiet_nil ?_
                intro w' hw'
                obtain ⟨s, rfl⟩ := hw'
                have hfs := hK1 s
                go_wp2
                go_ret
                exact ⟨ret_bool HST.out.symm, HWB.out.then1 (HWK.out.then1 hfs)⟩
               | true =>
                rw [g1, g3, g4] at hr
                rw [g4] at HIH
                simp only [ltK, Bool.not_false, Bool.and_true, Bool.true_and] at hr
                have HST := Lib.hid hr; clear hr
                go_wp2_with fail
                refine wp_region_new K (by kernel_rfl) (by kernel_rfl) hK0 ?_
                repeat (go_big_quiet_step ((first | (go_at_call 187; exact Calls.in_class hK2 (Calls.frm_of_same (r8Key_any key _ hkz))) | (go_at_call 150; exact Calls.in_class hK2 (HIH.out _ (hK3 _))))))
                refine wpQuiet_nil ?_
                intro w' hw'
                obtain ⟨s, rfl⟩ := hw'
                have hfs := hK1 s
                go_wp2
                go_roundw
                case rel => exact ⟨0 + 1, some key, by omega, by go_num, .inr ⟨0, key, es', sub, rest, rfl, HDR.out, rfl⟩, HST.out, HWK.out.then1 hfs⟩
                case measure => simp [intOf]; omega
           · have pk := KK.out j key0 es0 sub0 rest0 hdj
             clear hdj
             have kpk := (fun s => (hK1 s).cell' (hbf.cell' pk id) id)
             clear pk
             cases g1 : keyB key with
             | false =>
              rw [g1] at hr
              simp only [Bool.false_and] at hr
              have hst : rightT (d + 1) es ks = false := by rw [rightT, Nat.add_sub_cancel, hr]; simp
              have HST := Lib.hid hst; clear hst hr
              go_wp2_with fail
              refine wp_region_new K (by kernel_rfl) (by kernel_rfl) hK0 ?_
              repeat (go_big_quiet_step ((first | (go_at_call 187; exact Calls.in_class hK2 (Calls.frm_of_same (r8Key_any key _ hkz))) | (go_at_call 150; exact Calls.in_class hK2 (HIH.out _ (hK3 _))))))
              refine wpQuiet_nil ?_
              intro w' hw'
              obtain ⟨s, rfl⟩ := hw'
              have hfs := hK1 s
              go_wp2
              go_ret
              exact ⟨ret_bool HST.out.symm, HWB.out.then1 (HWK.out.then1 hfs)⟩
             | true =>
              cases g2 : Op.bytesLess key0.toList key.toList with
              | false =>
               rw [show ltK (some key0) key = false from g2] at hr
               simp only [Bool.and_false, Bool.false_and] at hr
               have hst : rightT (d + 1) es ks = false := by rw [rightT, Nat.add_sub_cancel, hr]; simp
               have HST := Lib.hid hst; clear hst hr
               go_wp2_with fail
               refine wp_region_new K (by kernel_rfl) (by kernel_rfl) hK0 ?_
               repeat (go_big_quiet_step ((first | (go_at_call 187; exact Calls.in_class hK2 (Calls.frm_of_same (r8Key_any key _ hkz))) | (go_at_call 150; exact Calls.in_class hK2 (HIH.out _ (hK3 _))))))
               refine wpQuiet_nil ?_
               intro w' hw'
               obtain ⟨s, rfl⟩ := hw'
               have hfs := hK1 s
               go_wp2
               go_ret
               exact ⟨ret_bool HST.out.symm, HWB.out.then1 (HWK.out.then1 hfs)⟩
              | true =>
               cases g3 : isNil es' sub with
               | true =>
                rw [g3] at hr
                rw [g3] at hnil
                simp only [Bool.not_true, Bool.and_false, Bool.false_and] at hr
                have hst : rightT (d + 1) es ks = false := by rw [rightT, Nat.add_sub_cancel, hr]; simp
                have HST := Lib.hid hst; clear hst hr
                go_wp2_with fail
                refine wp_region_new K (by kernel_rfl) (by kernel_rfl) hK0 ?_
                repeat (go_big_quiet_step ((first | (go_at_call 187; exact Calls.in_class hK2 (Calls.frm_of_same (r8Key_any key _ hkz))) | (go_at_call 150; exact Calls.in_class hK2 (HIH.out _ (hK3 _))))))
                refine wpQuiet_nil ?_
                intro w' hw'
                obtain ⟨s, rfl⟩ := hw'
                have hfs := hK1 s
                go_wp2
                go_ret
                exact ⟨ret_bool HST.out.symm, HWB.out.then1 (HWK.out.then1 hfs)⟩
               | false =>
                rw [g3] at hnil
                cases g4 : rightT d es' sub with
                | false =>
                 rw [g4] at hr
                 rw [g4] at HIH
                 simp only [Bool.and_false, Bool.false_and] at hr
                 have hst : rightT (d + 1) es ks = false := by rw [rightT, Nat.add_sub_cancel, hr]; simp
                 have HST := Lib.hid hst; clear hst hr
                 go_wp2_with fail
                 refine wp_region_new K (by kernel_rfl) (by kernel_rfl) hK0 ?_
                 repeat (go_big_quiet_step ((first | (go_at_call 187; exact Calls.in_class hK2 (Calls.frm_of_same (r8Key_any key _ hkz))) | (go_at_call 150; exact Calls.in_class hK2 (HIH.out _ (hK3 _))))))
                 refine wpQuiet_nil ?_
                 intro w' hw'
                 obtain ⟨s, rfl⟩ := hw'
                 have hfs := hK1 s
                 go_wp2
                 go_ret
                 exact ⟨ret_bool HST.out.symm, HWB.out.then1 (HWK.out.then1 hfs)⟩
                | true =>
                 rw [g1, g3, g4, show ltK (some key0) key = true from g2] at hr
                 rw [g4] at HIH
                 simp only [Bool.not_false, Bool.and_true, Bool.true_and] at hr
                 have HST := Lib.hid hr; clear hr
                 go_wp2_with fail
                 refine wp_region_new K (by kernel_rfl) (by kernel_rfl) hK0 ?_
                 repeat (go_big_quiet_step ((first | (go_at_call 187; exact Calls.in_class hK2 (Calls.frm_of_same (r8Key_any key _ hkz))) | (go_at_call 150; exact Calls.in_class hK2 (HIH.out _ (hK3 _))))))
                 refine wpQuiet_nil ?_
                 intro w' hw'
                 obtain ⟨s, rfl⟩ := hw'
                 have hfs := hK1 s
                 go_wp2
                 go_roundw
                 case rel => exact ⟨(j + 1) + 1, some key, by omega, by go_num, .inr ⟨(j + 1), key, es', sub, rest, rfl, HDR.out, rfl⟩, HST.out, HWK.out.then1 hfs⟩
                 case measure => simp [intOf]; omega
       · obtain rfl : m = k := by omega
         rw [KidsL.drop_none (by rw [HM.out]; exact Nat.le_refl _)] at hr
         have HRR := Lib.hid hr; clear hr
         go_wp2
         go_ret
         exact ⟨ret_bool (by rw [rightT, HR.out, Nat.add_sub_cancel, HRR.out]; simp [rightKs]), HWB.out.then1 HWK.out⟩
end Go.Proofs.YtcahemkomfaabaaGreat
