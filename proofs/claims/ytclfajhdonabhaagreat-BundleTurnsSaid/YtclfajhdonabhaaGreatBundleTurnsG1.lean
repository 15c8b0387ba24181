/- Words for the law BundleTurns: Turns, Solid, TurnsLaw, TurnsOpen. -/
import Derived.Test.YtclfajhdonabhaaGreatBundleReadyG24
import Derived.Test.YtclfajhdonabhaaGreatBundleReadyG8
import Derived.Test.YtclfajhdonabhaaGreatBundleReadyG25
set_option linter.unusedSimpArgs false
set_option linter.unusedVariables false
/- Who takes in a bundle that is ready: the plain law. Printed by wip/turnsgen.py. -/
namespace Go.Proofs.YtclfajhdonabhaaGreat
open Go.RowKit

section
variable {dc af la : Int} {f u : Int → Int} {es : List Ent} {ks : KidsL} {c : CtxL}
theorem turns_may (hr : BunRight dc af la f es ks c) (hu : MayV u) : MayV (setF u dc la) := fun d h0 h4 => by
  unfold setF
  by_cases he : d = dc
  · rw [if_pos he]; have := hr.nums.2.2.1; have := hr.nums.2.2.2.1; exact ⟨by omega, hr.nums.2.2.2.2.1⟩
  · rw [if_neg he]; exact hu d h0 h4
theorem turns_union (hr : BunRight dc af la f es ks c) (hu : MayV u) (he : u dc = af) (ha : AtMostP f u) {cu : CtxL} (hb : ByC 0 (fullL u) c cu) : cu = fullL (setF u dc la) := by
  obtain ⟨n0, n1, n2, n3, n4, n5, n6⟩ := hr.nums
  refine ctx_ext hb.right (right_full fun d h0 h4 => (turns_may hr hu d h0 h4).2) fun d n h0 h4 => ?_
  rw [hb.mem d n h0 h4, inC_full _ n h0 h4]
  unfold ByIn
  rw [inC_full _ n h0 h4]
  simp only [show ¬ ((0 : Int) = 2) by decide, show ¬ ((0 : Int) = 1) by decide, if_false]
  unfold setF
  by_cases hd : d = dc
  · subst hd
    rw [if_pos rfl]
    constructor
    · rintro (h | h)
      · exact ⟨h.1, by omega⟩
      · have := hr.may d n h0 h4 h
        rw [inC_full _ n h0 h4] at this
        simpa [setF] using this
    · rintro ⟨h1, h2⟩
      by_cases h3 : n ≤ af
      · exact .inl ⟨h1, by omega⟩
      · exact .inr (hr.own d n h0 h4 ((inC_one d (af + 1) la d n).2 ⟨rfl, by omega, h2⟩))
  · rw [if_neg hd]
    constructor
    · rintro (h | h)
      · exact h
      · have := hr.may d n h0 h4 h
        rw [inC_full _ n h0 h4] at this
        simp only [setF, if_neg hd] at this
        have := ha d h0 h4
        omega
    · exact .inl
theorem turns_behind (hr : BunRight dc af la f es ks c) (he : u dc = af) (ha : AtMostP f u) (d : Int) (h0 : 0 ≤ d) (h4 : d < 4) : behF u f dc la d = setF u dc la d := by
  obtain ⟨n0, n1, n2, n3, n4, n5, n6⟩ := hr.nums
  unfold behF setF maxF
  by_cases hd : d = dc
  · subst hd
    rw [if_pos rfl, if_pos rfl]
    have := ha d h0 h4
    omega
  · rw [if_neg hd, if_neg hd]
    have := ha d h0 h4
    omega
end
end Go.Proofs.YtclfajhdonabhaaGreat

/- span: Front; context: Solid, Vector, of the solid context of a vector: the walks. -/
namespace Go.Proofs.YtclfajhdonabhaaGreat
open Go.RowKit

set_option maxRecDepth 1000000 in
theorem sFront_full (w : World) (v : Value) (n : Int) (h : RunAt w v (fullP n)) (h0 : 0 ≤ n) (hm : n ≤ 1099511627776) : Calls Tryz.prog 46 #[v] w fun e w' => e = .returned (.int .i64 n) ∧ Frm NoS w w' := by
  have hr : RightR (fullP n) := right_fullP hm
  have HR := Lib.hid (tf_true hr ▸ sRight_any w v (fullP n) h hr.fits)
  by_cases hp : 0 < n
  · have he : fullP n = [(1, n)] := if_pos hp
    rw [he] at h
    clear he hr
    obtain ⟨b, off, c, rfl⟩ : ∃ b off c, v = .slice (some ⟨b, off, none⟩) 1 c := by
      rcases Rd.shape h with ⟨ad, e1, e2⟩ | ⟨b, off, c, e, -⟩
      · cases e2
      · exact ⟨b, off, c, e⟩
    have h : Rd w (.slice (some ⟨b, off, none⟩) 1 c) 1 (ruC [(1, n)]) := h
    have c0 := h.cell 0 (.int .i64 1) rfl
    have c1 := h.cell 1 (.int .i64 n) rfl
    rw [Nat.add_zero] at c0
    have C0 := Lib.hid c0; clear c0
    have C1 := Lib.hid c1; clear c1
    clear h
    go_enter Tryz.func46, Tryz.ntmps46
    go_wp2_with (go_at_call 72; go_loud (refine HR.out.mono ?_); rintro e w1 ⟨rfl, hw1⟩; have d0 := hw1.cell' C0.out id; have d1 := hw1.cell' C1.out id; have HW1 := Lib.hid hw1; clear hw1)
    go_ret
    exact ⟨rfl, HW1.out⟩
  · obtain rfl : n = 0 := by omega
    have he : fullP 0 = [] := rfl
    rw [he] at h
    clear he hr
    obtain ⟨a, c, rfl⟩ : ∃ a c, v = .slice a 0 c := Rd.sl h
    clear h
    go_enter Tryz.func46, Tryz.ntmps46
    go_wp2_with (go_at_call 72; go_loud (refine HR.out.mono ?_); rintro e w1 ⟨rfl, hw1⟩; have HW1 := Lib.hid hw1; clear hw1)
    go_ret
    exact ⟨rfl, HW1.out⟩
theorem part_full (f : Int → Int) {k : Nat} (h : k < 4) : partL (fullL f) k = fullP (f k) := partL_whole _ (by omega) (by omega)
/-- A slice of a center's runs in a solid context: none, or one from 1 on. -/
theorem full_slice {w0 w : World} {T : TypeId} {a : Option Addr} {l c : Nat} {n : Int} (h : OwnAt w0 w T 2 (.slice a l c) (fullP n).length (ruC (fullP n))) (h0 : 0 ≤ n) :
    (n = 0 ∧ l = 0) ∨ (0 < n ∧ l = 1 ∧ ∃ g, a = some ⟨g, 0, none⟩ ∧ w0.heap.size ≤ g ∧ w.cell? ⟨g, 0, none⟩ = some (.int .i64 1) ∧ w.cell? ⟨g, 1, none⟩ = some (.int .i64 n)) := by
  by_cases hp : 0 < n
  · have he : fullP n = [(1, n)] := if_pos hp
    rw [he] at h
    obtain ⟨g, c', e, hg, _, _, hc, _, _⟩ := h.row (Nat.succ_pos _)
    injection e with e1 e2 e3
    exact .inr ⟨hp, e2, g, e1, hg, hc 0 _ rfl, hc 1 _ rfl⟩
  · obtain rfl : n = 0 := by omega
    obtain ⟨a', c', e⟩ := h.shape
    injection e with e1 e2 e3
    exact .inl ⟨rfl, e2⟩
set_option maxHeartbeats 4000000 in
set_option maxRecDepth 1000000 in
theorem cSolid_full (w : World) (v : Value) (f : Int → Int) (h : CtxAt w v (fullL f)) (hm : MayV f) (hl : (fullL f).length ≤ 4) : Calls Tryz.prog 23 #[v] w fun e w' => e = .returned (.bool true) ∧ Frm NoS w w' := by
  have hr : RightC (fullL f) := right_full fun d h0 h4 => (hm d h0 h4).2
  have HC := Lib.hid (capart_any w v (fullL f) h hr.fits (by omega))
  obtain ⟨a, c, rfl⟩ := Rd.sl h
  have HRT := Lib.hid hr
  have HM := Lib.hid hm
  clear h hr hm
  generalize (fullL f).length = n at *
  go_enter Tryz.func23, Tryz.ntmps23
  go_wp2_with (go_at_call 45; go_loud (refine HC.out.mono ?_); rintro e w1 ⟨hf1, hp1, -⟩; obtain ⟨A, rfl, hpt⟩ := hp1 HRT.out; clear hp1; have HF1 := Lib.hid hf1; clear hf1; have HPT := Lib.hid hpt; clear hpt)
  have hix : ∀ (k : Nat), k < 4 → ∀ W, (Instr.index 82 (.agg #[.slice (A 0).1 (A 0).2.1 (A 0).2.2, .slice (A 1).1 (A 1).2.1 (A 1).2.2, .slice (A 2).1 (A 2).2.1 (A 2).2.2, .slice (A 3).1 (A 3).2.1 (A 3).2.2]) (.int .i64 (k : Int))).run Tryz.prog W = .ok (.slice (A k).1 (A k).2.1 (A k).2.2) W := fun k hk => by
    rcases (by omega : k = 0 ∨ k = 1 ∨ k = 2 ∨ k = 3) with rfl | rfl | rfl | rfl <;> exact fun _ => by kernel_rfl
  have HIX := Lib.hid hix; clear hix
  have hfa : Frm NoS w1 (w1.alloc (.cells #[.slice (A 0).1 (A 0).2.1 (A 0).2.2, .slice (A 1).1 (A 1).2.1 (A 1).2.2, .slice (A 2).1 (A 2).2.1 (A 2).2.2, .slice (A 3).1 (A 3).2.1 (A 3).2.2] 82)) := Frm.alloc _ _ _
  have HFA := Lib.hid hfa; clear hfa
  go_loopw [4, 13] (fun o i ww => ∃ k : Nat, k ≤ 4 ∧ i = .int .i64 k ∧ o = .bool true ∧ Frm NoS w1 ww) (fun _ i _ => 4 - (intOf i).toNat)
  case atStart => exact ⟨0, Nat.zero_le _, rfl, rfl, HFA.out⟩
  case round =>
    obtain ⟨k, hk, rfl, rfl, hw⟩ := hrel
    have HW := Lib.hid hw; clear hw
    by_cases hlt : k < 4
    · have hki : (k : Int) < 4 := by omega
      have hx := HIX.out k hlt
      have ho := HPT.out.own k hlt
      rw [part_full f hlt] at ho
      have hfk := HM.out k (by omega) hki
      obtain ⟨ak, lk, ck, hak⟩ : ∃ ak lk ck, A k = (ak, lk, ck) := ⟨_, _, _, rfl⟩
      rw [hak] at hx ho
      rcases full_slice ho hfk.1 with ⟨-, rfl⟩ | ⟨-, rfl, g, rfl, -, c0, -⟩
      · clear ho hak hfk
        go_wp2
        go_roundw
        case rel => exact ⟨k + 1, by omega, by go_num, rfl, HW.out⟩
        case measure => simp [intOf]; omega
      · have c0 := HW.out.cell' c0 id
        clear ho hak hfk
        go_wp2
        go_roundw
        case rel => exact ⟨k + 1, by omega, by go_num, rfl, HW.out⟩
        case measure => simp [intOf]; omega
    · obtain rfl : k = 4 := by omega
      go_wp2
      go_ret
      exact ⟨rfl, HF1.out.then1 HW.out⟩
/-- The first k numbers of a vector. -/
def upZ (f : Int → Int) (k : Nat) (d : Int) : Int := if d < k then f d else 0
theorem upZ_step (f : Int → Int) (k : Nat) (d : Int) : setF (upZ f k) k (f k) d = upZ f (k + 1) d := by
  unfold setF upZ
  by_cases h : d = k
  · subst h; simp; intro h3; omega
  · rw [if_neg h]
    by_cases h2 : d < k
    · rw [if_pos h2, if_pos (by omega)]
    · rw [if_neg h2, if_neg (by omega)]
theorem upZ_all (f : Int → Int) {d : Int} (h : d < 4) : upZ f 4 d = f d := by unfold upZ; exact if_pos (by omega)
/-- The blocks of the vector that is made. -/
structure VecMk (w w1 ww : World) (f : Int → Int) (T : TypeId) : Prop where
  a : VecAt ww (w.heap.size + 1) f T
  r : VecAt ww w.heap.size (fun _ => 0) T
  frm : Frm NoS w ww
  old : Frm (fun b => b = w.heap.size + 1) w1 ww
theorem VecMk.keep {w w1 ww w' : World} {f : Int → Int} {T : TypeId} (h : VecMk w w1 ww f T) (fr : Frm NoS ww w') : VecMk w w1 w' f T := ⟨h.a.keep fr, h.r.keep fr, h.frm.then1 fr, h.old.then1 fr⟩
theorem VecMk.set {w w1 ww : World} {f : Int → Int} {T : TypeId} (h : VecMk w w1 ww f T) {k : Nat} (hk : k < 4) (x : Int) : VecMk w w1 (ww.setCell ⟨w.heap.size + 1, k, none⟩ (.int .i64 x)) (setF f k x) T :=
  ⟨h.a.set hk x, (set_else (by omega)).trans h.r, h.frm.set1 (.inr (Nat.le_succ _)), h.old.set1 (.inl rfl)⟩
theorem VecMk.congr {w w1 ww : World} {f f' : Int → Int} {T : TypeId} (h : VecMk w w1 ww f T) (he : ∀ d, 0 ≤ d → d < 4 → f d = f' d) : VecMk w w1 ww f' T := ⟨h.a.congr he, h.r, h.frm, h.old⟩
set_option maxHeartbeats 4000000 in
set_option maxRecDepth 1000000 in
theorem cVector_full (w : World) (v : Value) (f : Int → Int) (h : CtxAt w v (fullL f)) (hm : MayV f) (hl : (fullL f).length ≤ 4) : Calls Tryz.prog 24 #[v] w fun e w' => e = .returned (.agg (vecC f)) ∧ Frm NoS w w' := by
  have hr : RightC (fullL f) := right_full fun d h0 h4 => (hm d h0 h4).2
  have HC := Lib.hid (fun W (fr : Frm NoS w W) => capart_any W v (fullL f) (Rd.keep0 h fr) hr.fits (by omega))
  obtain ⟨a, c, rfl⟩ := Rd.sl h
  have HRT := Lib.hid hr
  have HM := Lib.hid hm
  clear h hr hm
  generalize (fullL f).length = n at *
  obtain ⟨hb1, hfb, hbs⟩ := two_blocks w (.cells #[.int .i64 0, .int .i64 0, .int .i64 0, .int .i64 0] 23) #[.int .i64 0, .int .i64 0, .int .i64 0, .int .i64 0] 23
  have hb0 : ((w.alloc (.cells #[.int .i64 0, .int .i64 0, .int .i64 0, .int .i64 0] 23)).alloc (.cells #[.int .i64 0, .int .i64 0, .int .i64 0, .int .i64 0] 23)).heap[w.heap.size]? = some (.cells #[.int .i64 0, .int .i64 0, .int .i64 0, .int .i64 0] 23 (0, 0)) := (Frm.alloc NoS _ _).blk (heap_alloc_new w _) id
  have HB1 := Lib.hid hb1; clear hb1
  have HB0 := Lib.hid hb0; clear hb0
  have HFB := Lib.hid hfb; clear hfb
  have HBS := Lib.hid hbs; clear hbs
  go_enter Tryz.func24, Tryz.ntmps24
  go_wp2_with (go_at_call 45; go_loud (refine (HC.out _ HFB.out).mono ?_); rintro e w1 ⟨hf1, hp1, -⟩; obtain ⟨A, rfl, hpt⟩ := hp1 HRT.out; clear hp1; have HF1 := Lib.hid hf1; clear hf1; have HPT := Lib.hid hpt; clear hpt)
  have hix : ∀ (k : Nat), k < 4 → ∀ W, (Instr.index 82 (.agg #[.slice (A 0).1 (A 0).2.1 (A 0).2.2, .slice (A 1).1 (A 1).2.1 (A 1).2.2, .slice (A 2).1 (A 2).2.1 (A 2).2.2, .slice (A 3).1 (A 3).2.1 (A 3).2.2]) (.int .i64 (k : Int))).run Tryz.prog W = .ok (.slice (A k).1 (A k).2.1 (A k).2.2) W := fun k hk => by
    rcases (by omega : k = 0 ∨ k = 1 ∨ k = 2 ∨ k = 3) with rfl | rfl | rfl | rfl <;> exact fun _ => by kernel_rfl
  have HIX := Lib.hid hix; clear hix
  have hfa : Frm NoS w1 (w1.alloc (.cells #[.slice (A 0).1 (A 0).2.1 (A 0).2.2, .slice (A 1).1 (A 1).2.1 (A 1).2.2, .slice (A 2).1 (A 2).2.1 (A 2).2.2, .slice (A 3).1 (A 3).2.1 (A 3).2.2] 82)) := Frm.alloc _ _ _
  have hst : VecMk w w1 (w1.alloc (.cells #[.slice (A 0).1 (A 0).2.1 (A 0).2.2, .slice (A 1).1 (A 1).2.1 (A 1).2.2, .slice (A 2).1 (A 2).2.1 (A 2).2.2, .slice (A 3).1 (A 3).2.1 (A 3).2.2] 82)) (fun _ => 0) 23 :=
    ⟨hfa.blk (HF1.out.blk HB1.out id) id, hfa.blk (HF1.out.blk HB0.out id) id, (HFB.out.then1 HF1.out).then1 hfa, hfa.mono fun _ _ h => h.elim⟩
  have HST := Lib.hid hst; clear hst hfa
  go_loopw [15] (fun i ww => ∃ k : Nat, k ≤ 4 ∧ i = .int .i64 k ∧ VecMk w w1 ww (upZ f k) 23) (fun i _ => 4 - (intOf i).toNat)
  case atStart => exact ⟨0, Nat.zero_le _, rfl, HST.out.congr fun d h0 h4 => by unfold upZ; rw [if_neg (by omega)]⟩
  case round =>
    obtain ⟨k, hk, rfl, hv⟩ := hrel
    have HV := Lib.hid hv; clear hv
    by_cases hlt : k < 4
    · have hki : (k : Int) < 4 := by omega
      have hx := HIX.out k hlt
      have ho := HPT.out.own k hlt
      rw [part_full f hlt] at ho
      have hfk := HM.out k (by omega) hki
      have hsz1 := HBS.out
      have hrun : RunAt wr (.slice (A k).1 (A k).2.1 (A k).2.2) (fullP (f k)) := ho.rd.keep HV.out.old fun b hb he => by have := ho.new b hb; omega
      have HFR := Lib.hid (sFront_full wr _ (f k) hrun hfk.1 hfk.2)
      have HUP := Lib.hid (fun d => upZ_step f k d)
      clear ho hrun hfk hsz1
      obtain ⟨ak, lk, ck, hak⟩ : ∃ ak lk ck, A k = (ak, lk, ck) := ⟨_, _, _, rfl⟩
      rw [hak] at hx HFR
      clear hak
      generalize f k = x at *
      go_wp2_with (go_at_call 46; go_loud (refine HFR.out.mono ?_); rintro e w2 ⟨rfl, hw2⟩; have HV2 := Lib.hid (HV.out.keep hw2); clear hw2; have z0 := HV2.out.a.cell hlt; have g0 := HV2.out.a.free k; have HV3 := Lib.hid (HV2.out.set hlt x))
      clear z0 g0
      go_roundw
      case rel => exact ⟨k + 1, by omega, by go_num, HV3.out.congr fun d h0 h4 => HUP.out d⟩
      case measure => simp [intOf]; omega
    · obtain rfl : k = 4 := by omega
      have HV2 := Lib.hid (HV.out.congr fun d h0 h4 => upZ_all f h4)
      have a0' := HV2.out.a.cell (k := 0) (by decide)
      have a1' := HV2.out.a.cell (k := 1) (by decide)
      have a2' := HV2.out.a.cell (k := 2) (by decide)
      have a3' := HV2.out.a.cell (k := 3) (by decide)
      have r0 := HV2.out.r.cell (k := 0) (by decide)
      have r1 := HV2.out.r.cell (k := 1) (by decide)
      have r2 := HV2.out.r.cell (k := 2) (by decide)
      have r3 := HV2.out.r.cell (k := 3) (by decide)
      have g0 := HV2.out.r.free 0
      have g1 := HV2.out.r.free 1
      have g2 := HV2.out.r.free 2
      have g3 := HV2.out.r.free 3
      have HR := Lib.hid (HV2.out.r.set4 f)
      have HF := Lib.hid (HV2.out.frm.set4 (b := w.heap.size) (Nat.le_refl _) (.int .i64 (f 0)) (.int .i64 (f 1)) (.int .i64 (f 2)) (.int .i64 (f 3)))
      go_wp2
      clear a0' a1' a2' a3' r0 r1 r2 r3 g0 g1 g2 g3
      have r0 := HR.out.cell (k := 0) (by decide)
      have r1 := HR.out.cell (k := 1) (by decide)
      have r2 := HR.out.cell (k := 2) (by decide)
      have r3 := HR.out.cell (k := 3) (by decide)
      exact bodyPost_ret (v := .agg (vecC f)) (by simp [results, Tryz.results24, go_sem, r0, r1, r2, r3, vecC]) rfl ⟨rfl, HF.out⟩
end Go.Proofs.YtclfajhdonabhaaGreat

/- The law BundleTurns: its walk. Printed by wip/turnsgen.py. -/
namespace Go.Proofs.YtclfajhdonabhaaGreat
open Go.RowKit

set_option maxHeartbeats 8000000 in
set_option maxRecDepth 1000000 in
theorem bundleTurns_law (w : World) (u0 u1 u2 u3 : Int) (v : Value) (h : BunIn w v) : Calls Tryz.prog 5 #[v, vecV u0 u1 u2 u3] w fun e w' => e = .returned (.bool true) ∧ Frm (fun _ => False) w w' := by
  obtain ⟨dc, af, la, v0, v1, v2, v3, ev, kv, cv, es, ks, c, rfl, hc, hok, hf, hcl⟩ := h.out
  have HA := Lib.hid awake22_any
  have HS := Lib.hid (fun W (f : Frm NoS w W) => r22Small_any (fun _ => True) es ks c 40 W dc af la v0 v1 v2 v3 _ _ _ (hc.keep0 f) hok hcl (by decide) (by decide))
  have HQ := Lib.hid (fun W (f : Frm NoS w W) (ok : CauOk es ks c) => r22Right_any (fun _ => True) es ks c W dc af la v0 v1 v2 v3 _ _ _ (hc.keep0 f) ok)
  have HKN := Lib.hid (fun W (f : Frm NoS w W) (ok : CauOk es ks c) u0 u1 u2 u3 => bKnown_any (fun _ => True) es ks c W dc af la v0 v1 v2 v3 u0 u1 u2 u3 _ _ _ (hc.keep0 f) ok)
  have HRE := Lib.hid (fun W (f : Frm NoS w W) (ok : CauOk es ks c) u0 u1 u2 u3 => bReady_any (fun _ => True) es ks c W dc af la v0 v1 v2 v3 u0 u1 u2 u3 _ _ _ (hc.keep0 f) ok)
  have HBO := Lib.hid (fun W (f : Frm NoS w W) (ok : CauOk es ks c) hr => bBehind_ok (fun _ => True) es ks c W dc af la v0 v1 v2 v3 u0 u1 u2 u3 _ _ _ (hc.keep0 f) ok hr)
  have HMY := Lib.hid (fun W => r7May_any W u0 u1 u2 u3)
  obtain ⟨a0, c0, a1, c1, a2, c2, rfl, rfl, rfl⟩ := hc.shape
  have HCX := Lib.hid (fun W (f : Frm NoS w W) => (show CtxAt W (.slice a2 c.length c2) c from Rd.keep0 hc.ctx f))
  have HRR := Lib.hid (fun W hn => r22Ready_ok W dc af la v0 v1 v2 v3 u0 u1 u2 u3 a0 a1 a2 es.length ks.len c.length c0 c1 c2 hn)
  have HCF := Lib.hid hf
  clear hc
  unfold vecV at *
  cases hb : (decide (0 ≤ roomT es ks 40 8) && decide ((c.length : Int) ≤ 40)) with
  | false =>
    rw [hb] at HS
    clear hb HQ hok hf hcl HKN HRE HBO HRR HMY HCX HCF
    generalize es.length = n at *
    generalize ks.len = m at *
    generalize c.length = k at *
    obtain ⟨hv0, hf0, -⟩ := two_blocks w (.cells #[.int .i64 dc, .int .i64 af, .int .i64 la, .int .i64 v0, .int .i64 v1, .int .i64 v2, .int .i64 v3, .slice a0 n c0, .slice a1 m c1, .slice a2 k c2] 33) #[.int .i64 u0, .int .i64 u1, .int .i64 u2, .int .i64 u3] 23
    have hv0 : VecAt ((w.alloc (.cells #[.int .i64 dc, .int .i64 af, .int .i64 la, .int .i64 v0, .int .i64 v1, .int .i64 v2, .int .i64 v3, .slice a0 n c0, .slice a1 m c1, .slice a2 k c2] 33)).alloc (.cells #[.int .i64 u0, .int .i64 u1, .int .i64 u2, .int .i64 u3] 23)) (w.heap.size + 1) (vecF u0 u1 u2 u3) 23 := hv0
    have HV0 := Lib.hid hv0; clear hv0
    have HF0 := Lib.hid hf0; clear hf0
    have hb0 : ((w.alloc (.cells #[.int .i64 dc, .int .i64 af, .int .i64 la, .int .i64 v0, .int .i64 v1, .int .i64 v2, .int .i64 v3, .slice a0 n c0, .slice a1 m c1, .slice a2 k c2] 33)).alloc (.cells #[.int .i64 u0, .int .i64 u1, .int .i64 u2, .int .i64 u3] 23)).heap[w.heap.size]? = some (.cells #[.int .i64 dc, .int .i64 af, .int .i64 la, .int .i64 v0, .int .i64 v1, .int .i64 v2, .int .i64 v3, .slice a0 n c0, .slice a1 m c1, .slice a2 k c2] 33 (0, 0)) := (Frm.alloc NoS _ _).blk (heap_alloc_new w _) id
    have HB0 := Lib.hid hb0; clear hb0
    go_enter Tryz.func5, Tryz.ntmps5
    go_wp2_with (first
      | (go_at_call 6; first | (go_loud (refine (HA.out _).mono ?_); rintro e w9 ⟨rfl, hw9⟩; have HW9 := Lib.hid (HF0.out.then1 (HW2.out.then1 hw9)); clear hw9) | (go_loud (refine (HA.out _).mono ?_); rintro e w1 ⟨rfl, hw1⟩; have hb := (hw1).blk HB0.out id; have y0 := cell_at' hb 0 rfl; have y1 := cell_at' hb 1 rfl; have y2 := cell_at' hb 2 rfl; have y3 := cell_at' hb 3 rfl; have y4 := cell_at' hb 4 rfl; have y5 := cell_at' hb 5 rfl; have y6 := cell_at' hb 6 rfl; have y7 := cell_at' hb 7 rfl; have y8 := cell_at' hb 8 rfl; have y9 := cell_at' hb 9 rfl; have hbl := lt_of_block hb; clear hb; have hv := HV0.out.keep (hw1); have q0 : w1.cell? ⟨w.heap.size + 1, 0, none⟩ = some (.int .i64 u0) := hv.cell (k := 0) (by decide); have q1 : w1.cell? ⟨w.heap.size + 1, 1, none⟩ = some (.int .i64 u1) := hv.cell (k := 1) (by decide); have q2 : w1.cell? ⟨w.heap.size + 1, 2, none⟩ = some (.int .i64 u2) := hv.cell (k := 2) (by decide); have q3 : w1.cell? ⟨w.heap.size + 1, 3, none⟩ = some (.int .i64 u3) := hv.cell (k := 3) (by decide); have hvl := lt_of_block hv; clear hv; have HW1 := Lib.hid hw1; clear hw1))
      | (go_at_call 7; go_loud (refine (HS.out _ (HF0.out.then1 HW1.out)).mono ?_); rintro e w2 ⟨rfl, hw2⟩; clear y0 y1 y2 y3 y4 y5 y6 y7 y8 y9 q0 q1 q2 q3 hbl hvl; have hb := (HW1.out.then1 hw2).blk HB0.out id; have y0 := cell_at' hb 0 rfl; have y1 := cell_at' hb 1 rfl; have y2 := cell_at' hb 2 rfl; have y3 := cell_at' hb 3 rfl; have y4 := cell_at' hb 4 rfl; have y5 := cell_at' hb 5 rfl; have y6 := cell_at' hb 6 rfl; have y7 := cell_at' hb 7 rfl; have y8 := cell_at' hb 8 rfl; have y9 := cell_at' hb 9 rfl; have hbl := lt_of_block hb; clear hb; have hv := HV0.out.keep (HW1.out.then1 hw2); have q0 : w2.cell? ⟨w.heap.size + 1, 0, none⟩ = some (.int .i64 u0) := hv.cell (k := 0) (by decide); have q1 : w2.cell? ⟨w.heap.size + 1, 1, none⟩ = some (.int .i64 u1) := hv.cell (k := 1) (by decide); have q2 : w2.cell? ⟨w.heap.size + 1, 2, none⟩ = some (.int .i64 u2) := hv.cell (k := 2) (by decide); have q3 : w2.cell? ⟨w.heap.size + 1, 3, none⟩ = some (.int .i64 u3) := hv.cell (k := 3) (by decide); have hvl := lt_of_block hv; clear hv; have HW2 := Lib.hid (HW1.out.then1 hw2); clear hw2))
    go_ret
    exact ⟨rfl, HW9.out⟩
  | true =>
    have ok := small_ok hok hf hb
    rw [hb] at HS
    have HQ2 := Lib.hid (fun W f => HQ.out W f ok); clear HQ
    have HKN2 := Lib.hid (fun W f => HKN.out W f ok); clear HKN
    have HRE2 := Lib.hid (fun W f => HRE.out W f ok); clear HRE
    have HBO2 := Lib.hid (fun W f => HBO.out W f ok); clear HBO
    have HCL := Lib.hid ok.len
    clear hb hok hf hcl ok
    by_cases hr : BunRight dc af la (vecF v0 v1 v2 v3) es ks c
    rotate_left 1
    · rw [tf_false hr] at HQ2
      clear hr HKN2 HRE2 HBO2 HRR HMY HCX HCF HCL
      generalize es.length = n at *
      generalize ks.len = m at *
      generalize c.length = k at *
      obtain ⟨hv0, hf0, -⟩ := two_blocks w (.cells #[.int .i64 dc, .int .i64 af, .int .i64 la, .int .i64 v0, .int .i64 v1, .int .i64 v2, .int .i64 v3, .slice a0 n c0, .slice a1 m c1, .slice a2 k c2] 33) #[.int .i64 u0, .int .i64 u1, .int .i64 u2, .int .i64 u3] 23
      have hv0 : VecAt ((w.alloc (.cells #[.int .i64 dc, .int .i64 af, .int .i64 la, .int .i64 v0, .int .i64 v1, .int .i64 v2, .int .i64 v3, .slice a0 n c0, .slice a1 m c1, .slice a2 k c2] 33)).alloc (.cells #[.int .i64 u0, .int .i64 u1, .int .i64 u2, .int .i64 u3] 23)) (w.heap.size + 1) (vecF u0 u1 u2 u3) 23 := hv0
      have HV0 := Lib.hid hv0; clear hv0
      have HF0 := Lib.hid hf0; clear hf0
      have hb0 : ((w.alloc (.cells #[.int .i64 dc, .int .i64 af, .int .i64 la, .int .i64 v0, .int .i64 v1, .int .i64 v2, .int .i64 v3, .slice a0 n c0, .slice a1 m c1, .slice a2 k c2] 33)).alloc (.cells #[.int .i64 u0, .int .i64 u1, .int .i64 u2, .int .i64 u3] 23)).heap[w.heap.size]? = some (.cells #[.int .i64 dc, .int .i64 af, .int .i64 la, .int .i64 v0, .int .i64 v1, .int .i64 v2, .int .i64 v3, .slice a0 n c0, .slice a1 m c1, .slice a2 k c2] 33 (0, 0)) := (Frm.alloc NoS _ _).blk (heap_alloc_new w _) id
      have HB0 := Lib.hid hb0; clear hb0
      go_enter Tryz.func5, Tryz.ntmps5
      go_wp2_with (first
        | (go_at_call 6; first | (go_loud (refine (HA.out _).mono ?_); rintro e w9 ⟨rfl, hw9⟩; have HW9 := Lib.hid (HF0.out.then1 (HW3.out.then1 hw9)); clear hw9) | (go_loud (refine (HA.out _).mono ?_); rintro e w1 ⟨rfl, hw1⟩; have hb := (hw1).blk HB0.out id; have y0 := cell_at' hb 0 rfl; have y1 := cell_at' hb 1 rfl; have y2 := cell_at' hb 2 rfl; have y3 := cell_at' hb 3 rfl; have y4 := cell_at' hb 4 rfl; have y5 := cell_at' hb 5 rfl; have y6 := cell_at' hb 6 rfl; have y7 := cell_at' hb 7 rfl; have y8 := cell_at' hb 8 rfl; have y9 := cell_at' hb 9 rfl; have hbl := lt_of_block hb; clear hb; have hv := HV0.out.keep (hw1); have q0 : w1.cell? ⟨w.heap.size + 1, 0, none⟩ = some (.int .i64 u0) := hv.cell (k := 0) (by decide); have q1 : w1.cell? ⟨w.heap.size + 1, 1, none⟩ = some (.int .i64 u1) := hv.cell (k := 1) (by decide); have q2 : w1.cell? ⟨w.heap.size + 1, 2, none⟩ = some (.int .i64 u2) := hv.cell (k := 2) (by decide); have q3 : w1.cell? ⟨w.heap.size + 1, 3, none⟩ = some (.int .i64 u3) := hv.cell (k := 3) (by decide); have hvl := lt_of_block hv; clear hv; have HW1 := Lib.hid hw1; clear hw1))
        | (go_at_call 7; go_loud (refine (HS.out _ (HF0.out.then1 HW1.out)).mono ?_); rintro e w2 ⟨rfl, hw2⟩; clear y0 y1 y2 y3 y4 y5 y6 y7 y8 y9 q0 q1 q2 q3 hbl hvl; have hb := (HW1.out.then1 hw2).blk HB0.out id; have y0 := cell_at' hb 0 rfl; have y1 := cell_at' hb 1 rfl; have y2 := cell_at' hb 2 rfl; have y3 := cell_at' hb 3 rfl; have y4 := cell_at' hb 4 rfl; have y5 := cell_at' hb 5 rfl; have y6 := cell_at' hb 6 rfl; have y7 := cell_at' hb 7 rfl; have y8 := cell_at' hb 8 rfl; have y9 := cell_at' hb 9 rfl; have hbl := lt_of_block hb; clear hb; have hv := HV0.out.keep (HW1.out.then1 hw2); have q0 : w2.cell? ⟨w.heap.size + 1, 0, none⟩ = some (.int .i64 u0) := hv.cell (k := 0) (by decide); have q1 : w2.cell? ⟨w.heap.size + 1, 1, none⟩ = some (.int .i64 u1) := hv.cell (k := 1) (by decide); have q2 : w2.cell? ⟨w.heap.size + 1, 2, none⟩ = some (.int .i64 u2) := hv.cell (k := 2) (by decide); have q3 : w2.cell? ⟨w.heap.size + 1, 3, none⟩ = some (.int .i64 u3) := hv.cell (k := 3) (by decide); have hvl := lt_of_block hv; clear hv; have HW2 := Lib.hid (HW1.out.then1 hw2); clear hw2)
        | (go_at_call 8; go_loud (refine (HQ2.out _ (HF0.out.then1 HW2.out)).mono ?_); rintro e w3 ⟨rfl, hw3⟩; clear y0 y1 y2 y3 y4 y5 y6 y7 y8 y9 q0 q1 q2 q3 hbl hvl; have hb := (HW2.out.then1 hw3).blk HB0.out id; have y0 := cell_at' hb 0 rfl; have y1 := cell_at' hb 1 rfl; have y2 := cell_at' hb 2 rfl; have y3 := cell_at' hb 3 rfl; have y4 := cell_at' hb 4 rfl; have y5 := cell_at' hb 5 rfl; have y6 := cell_at' hb 6 rfl; have y7 := cell_at' hb 7 rfl; have y8 := cell_at' hb 8 rfl; have y9 := cell_at' hb 9 rfl; have hbl := lt_of_block hb; clear hb; have hv := HV0.out.keep (HW2.out.then1 hw3); have q0 : w3.cell? ⟨w.heap.size + 1, 0, none⟩ = some (.int .i64 u0) := hv.cell (k := 0) (by decide); have q1 : w3.cell? ⟨w.heap.size + 1, 1, none⟩ = some (.int .i64 u1) := hv.cell (k := 1) (by decide); have q2 : w3.cell? ⟨w.heap.size + 1, 2, none⟩ = some (.int .i64 u2) := hv.cell (k := 2) (by decide); have q3 : w3.cell? ⟨w.heap.size + 1, 3, none⟩ = some (.int .i64 u3) := hv.cell (k := 3) (by decide); have hvl := lt_of_block hv; clear hv; have HW3 := Lib.hid (HW2.out.then1 hw3); clear hw3))
      go_ret
      exact ⟨rfl, HW9.out⟩
    rw [tf_true hr] at HQ2
    by_cases hmu : MayV (vecF u0 u1 u2 u3)
    rotate_left 1
    · rw [tf_false hmu] at HMY
      clear hr hmu HKN2 HRE2 HBO2 HRR HCX HCF HCL
      generalize es.length = n at *
      generalize ks.len = m at *
      generalize c.length = k at *
      obtain ⟨hv0, hf0, -⟩ := two_blocks w (.cells #[.int .i64 dc, .int .i64 af, .int .i64 la, .int .i64 v0, .int .i64 v1, .int .i64 v2, .int .i64 v3, .slice a0 n c0, .slice a1 m c1, .slice a2 k c2] 33) #[.int .i64 u0, .int .i64 u1, .int .i64 u2, .int .i64 u3] 23
      have hv0 : VecAt ((w.alloc (.cells #[.int .i64 dc, .int .i64 af, .int .i64 la, .int .i64 v0, .int .i64 v1, .int .i64 v2, .int .i64 v3, .slice a0 n c0, .slice a1 m c1, .slice a2 k c2] 33)).alloc (.cells #[.int .i64 u0, .int .i64 u1, .int .i64 u2, .int .i64 u3] 23)) (w.heap.size + 1) (vecF u0 u1 u2 u3) 23 := hv0
      have HV0 := Lib.hid hv0; clear hv0
      have HF0 := Lib.hid hf0; clear hf0
      have hb0 : ((w.alloc (.cells #[.int .i64 dc, .int .i64 af, .int .i64 la, .int .i64 v0, .int .i64 v1, .int .i64 v2, .int .i64 v3, .slice a0 n c0, .slice a1 m c1, .slice a2 k c2] 33)).alloc (.cells #[.int .i64 u0, .int .i64 u1, .int .i64 u2, .int .i64 u3] 23)).heap[w.heap.size]? = some (.cells #[.int .i64 dc, .int .i64 af, .int .i64 la, .int .i64 v0, .int .i64 v1, .int .i64 v2, .int .i64 v3, .slice a0 n c0, .slice a1 m c1, .slice a2 k c2] 33 (0, 0)) := (Frm.alloc NoS _ _).blk (heap_alloc_new w _) id
      have HB0 := Lib.hid hb0; clear hb0
      go_enter Tryz.func5, Tryz.ntmps5
      go_wp2_with (first
        | (go_at_call 6; first | (go_loud (refine (HA.out _).mono ?_); rintro e w9 ⟨rfl, hw9⟩; have HW9 := Lib.hid (HF0.out.then1 (HW4.out.then1 hw9)); clear hw9) | (go_loud (refine (HA.out _).mono ?_); rintro e w1 ⟨rfl, hw1⟩; have hb := (hw1).blk HB0.out id; have y0 := cell_at' hb 0 rfl; have y1 := cell_at' hb 1 rfl; have y2 := cell_at' hb 2 rfl; have y3 := cell_at' hb 3 rfl; have y4 := cell_at' hb 4 rfl; have y5 := cell_at' hb 5 rfl; have y6 := cell_at' hb 6 rfl; have y7 := cell_at' hb 7 rfl; have y8 := cell_at' hb 8 rfl; have y9 := cell_at' hb 9 rfl; have hbl := lt_of_block hb; clear hb; have hv := HV0.out.keep (hw1); have q0 : w1.cell? ⟨w.heap.size + 1, 0, none⟩ = some (.int .i64 u0) := hv.cell (k := 0) (by decide); have q1 : w1.cell? ⟨w.heap.size + 1, 1, none⟩ = some (.int .i64 u1) := hv.cell (k := 1) (by decide); have q2 : w1.cell? ⟨w.heap.size + 1, 2, none⟩ = some (.int .i64 u2) := hv.cell (k := 2) (by decide); have q3 : w1.cell? ⟨w.heap.size + 1, 3, none⟩ = some (.int .i64 u3) := hv.cell (k := 3) (by decide); have hvl := lt_of_block hv; clear hv; have HW1 := Lib.hid hw1; clear hw1))
        | (go_at_call 7; go_loud (refine (HS.out _ (HF0.out.then1 HW1.out)).mono ?_); rintro e w2 ⟨rfl, hw2⟩; clear y0 y1 y2 y3 y4 y5 y6 y7 y8 y9 q0 q1 q2 q3 hbl hvl; have hb := (HW1.out.then1 hw2).blk HB0.out id; have y0 := cell_at' hb 0 rfl; have y1 := cell_at' hb 1 rfl; have y2 := cell_at' hb 2 rfl; have y3 := cell_at' hb 3 rfl; have y4 := cell_at' hb 4 rfl; have y5 := cell_at' hb 5 rfl; have y6 := cell_at' hb 6 rfl; have y7 := cell_at' hb 7 rfl; have y8 := cell_at' hb 8 rfl; have y9 := cell_at' hb 9 rfl; have hbl := lt_of_block hb; clear hb; have hv := HV0.out.keep (HW1.out.then1 hw2); have q0 : w2.cell? ⟨w.heap.size + 1, 0, none⟩ = some (.int .i64 u0) := hv.cell (k := 0) (by decide); have q1 : w2.cell? ⟨w.heap.size + 1, 1, none⟩ = some (.int .i64 u1) := hv.cell (k := 1) (by decide); have q2 : w2.cell? ⟨w.heap.size + 1, 2, none⟩ = some (.int .i64 u2) := hv.cell (k := 2) (by decide); have q3 : w2.cell? ⟨w.heap.size + 1, 3, none⟩ = some (.int .i64 u3) := hv.cell (k := 3) (by decide); have hvl := lt_of_block hv; clear hv; have HW2 := Lib.hid (HW1.out.then1 hw2); clear hw2)
        | (go_at_call 8; go_loud (refine (HQ2.out _ (HF0.out.then1 HW2.out)).mono ?_); rintro e w3 ⟨rfl, hw3⟩; clear y0 y1 y2 y3 y4 y5 y6 y7 y8 y9 q0 q1 q2 q3 hbl hvl; have hb := (HW2.out.then1 hw3).blk HB0.out id; have y0 := cell_at' hb 0 rfl; have y1 := cell_at' hb 1 rfl; have y2 := cell_at' hb 2 rfl; have y3 := cell_at' hb 3 rfl; have y4 := cell_at' hb 4 rfl; have y5 := cell_at' hb 5 rfl; have y6 := cell_at' hb 6 rfl; have y7 := cell_at' hb 7 rfl; have y8 := cell_at' hb 8 rfl; have y9 := cell_at' hb 9 rfl; have hbl := lt_of_block hb; clear hb; have hv := HV0.out.keep (HW2.out.then1 hw3); have q0 : w3.cell? ⟨w.heap.size + 1, 0, none⟩ = some (.int .i64 u0) := hv.cell (k := 0) (by decide); have q1 : w3.cell? ⟨w.heap.size + 1, 1, none⟩ = some (.int .i64 u1) := hv.cell (k := 1) (by decide); have q2 : w3.cell? ⟨w.heap.size + 1, 2, none⟩ = some (.int .i64 u2) := hv.cell (k := 2) (by decide); have q3 : w3.cell? ⟨w.heap.size + 1, 3, none⟩ = some (.int .i64 u3) := hv.cell (k := 3) (by decide); have hvl := lt_of_block hv; clear hv; have HW3 := Lib.hid (HW2.out.then1 hw3); clear hw3)
        | (go_at_call 20; go_loud (refine (HMY.out _).mono ?_); rintro e w4 ⟨rfl, hw4⟩; clear y0 y1 y2 y3 y4 y5 y6 y7 y8 y9 q0 q1 q2 q3 hbl hvl; have hb := (HW3.out.then1 hw4).blk HB0.out id; have y0 := cell_at' hb 0 rfl; have y1 := cell_at' hb 1 rfl; have y2 := cell_at' hb 2 rfl; have y3 := cell_at' hb 3 rfl; have y4 := cell_at' hb 4 rfl; have y5 := cell_at' hb 5 rfl; have y6 := cell_at' hb 6 rfl; have y7 := cell_at' hb 7 rfl; have y8 := cell_at' hb 8 rfl; have y9 := cell_at' hb 9 rfl; have hbl := lt_of_block hb; clear hb; have hv := HV0.out.keep (HW3.out.then1 hw4); have q0 : w4.cell? ⟨w.heap.size + 1, 0, none⟩ = some (.int .i64 u0) := hv.cell (k := 0) (by decide); have q1 : w4.cell? ⟨w.heap.size + 1, 1, none⟩ = some (.int .i64 u1) := hv.cell (k := 1) (by decide); have q2 : w4.cell? ⟨w.heap.size + 1, 2, none⟩ = some (.int .i64 u2) := hv.cell (k := 2) (by decide); have q3 : w4.cell? ⟨w.heap.size + 1, 3, none⟩ = some (.int .i64 u3) := hv.cell (k := 3) (by decide); have hvl := lt_of_block hv; clear hv; have HW4 := Lib.hid (HW3.out.then1 hw4); clear hw4))
      go_ret
      exact ⟨rfl, HW9.out⟩
    rw [tf_true hmu] at HMY
    have HRR2 := Lib.hid (fun W => HRR.out W hr.nums); clear HRR
    by_cases hrd : (vecF u0 u1 u2 u3) dc = af ∧ AtMostP (vecF v0 v1 v2 v3) (vecF u0 u1 u2 u3)
    rotate_left 1
    · rw [tf_false hrd] at HRR2
      clear hr hmu hrd HKN2 HRE2 HBO2 HCX HCF HCL
      generalize es.length = n at *
      generalize ks.len = m at *
      generalize c.length = k at *
      obtain ⟨hv0, hf0, -⟩ := two_blocks w (.cells #[.int .i64 dc, .int .i64 af, .int .i64 la, .int .i64 v0, .int .i64 v1, .int .i64 v2, .int .i64 v3, .slice a0 n c0, .slice a1 m c1, .slice a2 k c2] 33) #[.int .i64 u0, .int .i64 u1, .int .i64 u2, .int .i64 u3] 23
      have hv0 : VecAt ((w.alloc (.cells #[.int .i64 dc, .int .i64 af, .int .i64 la, .int .i64 v0, .int .i64 v1, .int .i64 v2, .int .i64 v3, .slice a0 n c0, .slice a1 m c1, .slice a2 k c2] 33)).alloc (.cells #[.int .i64 u0, .int .i64 u1, .int .i64 u2, .int .i64 u3] 23)) (w.heap.size + 1) (vecF u0 u1 u2 u3) 23 := hv0
      have HV0 := Lib.hid hv0; clear hv0
      have HF0 := Lib.hid hf0; clear hf0
      have hb0 : ((w.alloc (.cells #[.int .i64 dc, .int .i64 af, .int .i64 la, .int .i64 v0, .int .i64 v1, .int .i64 v2, .int .i64 v3, .slice a0 n c0, .slice a1 m c1, .slice a2 k c2] 33)).alloc (.cells #[.int .i64 u0, .int .i64 u1, .int .i64 u2, .int .i64 u3] 23)).heap[w.heap.size]? = some (.cells #[.int .i64 dc, .int .i64 af, .int .i64 la, .int .i64 v0, .int .i64 v1, .int .i64 v2, .int .i64 v3, .slice a0 n c0, .slice a1 m c1, .slice a2 k c2] 33 (0, 0)) := (Frm.alloc NoS _ _).blk (heap_alloc_new w _) id
      have HB0 := Lib.hid hb0; clear hb0
      go_enter Tryz.func5, Tryz.ntmps5
      go_wp2_with (first
        | (go_at_call 6; first | (go_loud (refine (HA.out _).mono ?_); rintro e w9 ⟨rfl, hw9⟩; have HW9 := Lib.hid (HF0.out.then1 (HW5.out.then1 hw9)); clear hw9) | (go_loud (refine (HA.out _).mono ?_); rintro e w1 ⟨rfl, hw1⟩; have hb := (hw1).blk HB0.out id; have y0 := cell_at' hb 0 rfl; have y1 := cell_at' hb 1 rfl; have y2 := cell_at' hb 2 rfl; have y3 := cell_at' hb 3 rfl; have y4 := cell_at' hb 4 rfl; have y5 := cell_at' hb 5 rfl; have y6 := cell_at' hb 6 rfl; have y7 := cell_at' hb 7 rfl; have y8 := cell_at' hb 8 rfl; have y9 := cell_at' hb 9 rfl; have hbl := lt_of_block hb; clear hb; have hv := HV0.out.keep (hw1); have q0 : w1.cell? ⟨w.heap.size + 1, 0, none⟩ = some (.int .i64 u0) := hv.cell (k := 0) (by decide); have q1 : w1.cell? ⟨w.heap.size + 1, 1, none⟩ = some (.int .i64 u1) := hv.cell (k := 1) (by decide); have q2 : w1.cell? ⟨w.heap.size + 1, 2, none⟩ = some (.int .i64 u2) := hv.cell (k := 2) (by decide); have q3 : w1.cell? ⟨w.heap.size + 1, 3, none⟩ = some (.int .i64 u3) := hv.cell (k := 3) (by decide); have hvl := lt_of_block hv; clear hv; have HW1 := Lib.hid hw1; clear hw1))
        | (go_at_call 7; go_loud (refine (HS.out _ (HF0.out.then1 HW1.out)).mono ?_); rintro e w2 ⟨rfl, hw2⟩; clear y0 y1 y2 y3 y4 y5 y6 y7 y8 y9 q0 q1 q2 q3 hbl hvl; have hb := (HW1.out.then1 hw2).blk HB0.out id; have y0 := cell_at' hb 0 rfl; have y1 := cell_at' hb 1 rfl; have y2 := cell_at' hb 2 rfl; have y3 := cell_at' hb 3 rfl; have y4 := cell_at' hb 4 rfl; have y5 := cell_at' hb 5 rfl; have y6 := cell_at' hb 6 rfl; have y7 := cell_at' hb 7 rfl; have y8 := cell_at' hb 8 rfl; have y9 := cell_at' hb 9 rfl; have hbl := lt_of_block hb; clear hb; have hv := HV0.out.keep (HW1.out.then1 hw2); have q0 : w2.cell? ⟨w.heap.size + 1, 0, none⟩ = some (.int .i64 u0) := hv.cell (k := 0) (by decide); have q1 : w2.cell? ⟨w.heap.size + 1, 1, none⟩ = some (.int .i64 u1) := hv.cell (k := 1) (by decide); have q2 : w2.cell? ⟨w.heap.size + 1, 2, none⟩ = some (.int .i64 u2) := hv.cell (k := 2) (by decide); have q3 : w2.cell? ⟨w.heap.size + 1, 3, none⟩ = some (.int .i64 u3) := hv.cell (k := 3) (by decide); have hvl := lt_of_block hv; clear hv; have HW2 := Lib.hid (HW1.out.then1 hw2); clear hw2)
        | (go_at_call 8; go_loud (refine (HQ2.out _ (HF0.out.then1 HW2.out)).mono ?_); rintro e w3 ⟨rfl, hw3⟩; clear y0 y1 y2 y3 y4 y5 y6 y7 y8 y9 q0 q1 q2 q3 hbl hvl; have hb := (HW2.out.then1 hw3).blk HB0.out id; have y0 := cell_at' hb 0 rfl; have y1 := cell_at' hb 1 rfl; have y2 := cell_at' hb 2 rfl; have y3 := cell_at' hb 3 rfl; have y4 := cell_at' hb 4 rfl; have y5 := cell_at' hb 5 rfl; have y6 := cell_at' hb 6 rfl; have y7 := cell_at' hb 7 rfl; have y8 := cell_at' hb 8 rfl; have y9 := cell_at' hb 9 rfl; have hbl := lt_of_block hb; clear hb; have hv := HV0.out.keep (HW2.out.then1 hw3); have q0 : w3.cell? ⟨w.heap.size + 1, 0, none⟩ = some (.int .i64 u0) := hv.cell (k := 0) (by decide); have q1 : w3.cell? ⟨w.heap.size + 1, 1, none⟩ = some (.int .i64 u1) := hv.cell (k := 1) (by decide); have q2 : w3.cell? ⟨w.heap.size + 1, 2, none⟩ = some (.int .i64 u2) := hv.cell (k := 2) (by decide); have q3 : w3.cell? ⟨w.heap.size + 1, 3, none⟩ = some (.int .i64 u3) := hv.cell (k := 3) (by decide); have hvl := lt_of_block hv; clear hv; have HW3 := Lib.hid (HW2.out.then1 hw3); clear hw3)
        | (go_at_call 20; go_loud (refine (HMY.out _).mono ?_); rintro e w4 ⟨rfl, hw4⟩; clear y0 y1 y2 y3 y4 y5 y6 y7 y8 y9 q0 q1 q2 q3 hbl hvl; have hb := (HW3.out.then1 hw4).blk HB0.out id; have y0 := cell_at' hb 0 rfl; have y1 := cell_at' hb 1 rfl; have y2 := cell_at' hb 2 rfl; have y3 := cell_at' hb 3 rfl; have y4 := cell_at' hb 4 rfl; have y5 := cell_at' hb 5 rfl; have y6 := cell_at' hb 6 rfl; have y7 := cell_at' hb 7 rfl; have y8 := cell_at' hb 8 rfl; have y9 := cell_at' hb 9 rfl; have hbl := lt_of_block hb; clear hb; have hv := HV0.out.keep (HW3.out.then1 hw4); have q0 : w4.cell? ⟨w.heap.size + 1, 0, none⟩ = some (.int .i64 u0) := hv.cell (k := 0) (by decide); have q1 : w4.cell? ⟨w.heap.size + 1, 1, none⟩ = some (.int .i64 u1) := hv.cell (k := 1) (by decide); have q2 : w4.cell? ⟨w.heap.size + 1, 2, none⟩ = some (.int .i64 u2) := hv.cell (k := 2) (by decide); have q3 : w4.cell? ⟨w.heap.size + 1, 3, none⟩ = some (.int .i64 u3) := hv.cell (k := 3) (by decide); have hvl := lt_of_block hv; clear hv; have HW4 := Lib.hid (HW3.out.then1 hw4); clear hw4)
        | (go_at_call 12; go_loud (refine (HRR2.out _).mono ?_); rintro e w5 ⟨rfl, hw5⟩; clear y0 y1 y2 y3 y4 y5 y6 y7 y8 y9 q0 q1 q2 q3 hbl hvl; have hb := (HW4.out.then1 hw5).blk HB0.out id; have y0 := cell_at' hb 0 rfl; have y1 := cell_at' hb 1 rfl; have y2 := cell_at' hb 2 rfl; have y3 := cell_at' hb 3 rfl; have y4 := cell_at' hb 4 rfl; have y5 := cell_at' hb 5 rfl; have y6 := cell_at' hb 6 rfl; have y7 := cell_at' hb 7 rfl; have y8 := cell_at' hb 8 rfl; have y9 := cell_at' hb 9 rfl; have hbl := lt_of_block hb; clear hb; have hv := HV0.out.keep (HW4.out.then1 hw5); have q0 : w5.cell? ⟨w.heap.size + 1, 0, none⟩ = some (.int .i64 u0) := hv.cell (k := 0) (by decide); have q1 : w5.cell? ⟨w.heap.size + 1, 1, none⟩ = some (.int .i64 u1) := hv.cell (k := 1) (by decide); have q2 : w5.cell? ⟨w.heap.size + 1, 2, none⟩ = some (.int .i64 u2) := hv.cell (k := 2) (by decide); have q3 : w5.cell? ⟨w.heap.size + 1, 3, none⟩ = some (.int .i64 u3) := hv.cell (k := 3) (by decide); have hvl := lt_of_block hv; clear hv; have HW5 := Lib.hid (HW4.out.then1 hw5); clear hw5))
      go_ret
      exact ⟨rfl, HW9.out⟩
    rw [tf_true hrd] at HRR2
    have HRC := Lib.hid hr.ctx
    have HMU := Lib.hid hmu
    have HRU := Lib.hid (right_full (v := (vecF u0 u1 u2 u3)) fun d h0 h4 => (hmu d h0 h4).2)
    have HTU := Lib.hid (fun cu hb => turns_union hr hmu hrd.1 hrd.2 (cu := cu) hb)
    have hmg := turns_may hr hmu
    obtain ⟨dn, hdn⟩ : ∃ dn : Nat, dc = dn := ⟨dc.toNat, by have := hr.nums.1; omega⟩
    have hd4 : dn < 4 := by have := hr.nums.2.1; omega
    have hd4i : (dn : Int) < 4 := by omega
    have hd4b : decide ((dn : Int) < 4) = true := by simpa using hd4i
    subst hdn
    have hbe : vecC (behF (vecF u0 u1 u2 u3) (vecF v0 v1 v2 v3) dn la) = vecC (setF (vecF u0 u1 u2 u3) dn la) := vecC_congr fun d h0 h4 => turns_behind hr hrd.1 hrd.2 d h0 h4
    have HBO3 := Lib.hid (fun W f => HBO2.out W f hr); clear HBO2
    rw [hbe] at HBO3
    have hgd : setF (vecF u0 u1 u2 u3) dn la dn = la := by simp [setF]
    have hgv : ∀ d, 0 ≤ d → d < 4 → vecF (setF (vecF u0 u1 u2 u3) dn la 0) (setF (vecF u0 u1 u2 u3) dn la 1) (setF (vecF u0 u1 u2 u3) dn la 2) (setF (vecF u0 u1 u2 u3) dn la 3) d = setF (vecF u0 u1 u2 u3) dn la d := fun d h0 h4 => by rcases four h0 h4 with rfl | rfl | rfl | rfl <;> simp [vecF]
    have hk1 : tf (BunRight dn af la (vecF v0 v1 v2 v3) es ks c ∧ la ≤ vecF (setF (vecF u0 u1 u2 u3) dn la 0) (setF (vecF u0 u1 u2 u3) dn la 1) (setF (vecF u0 u1 u2 u3) dn la 2) (setF (vecF u0 u1 u2 u3) dn la 3) dn) = true := tf_true ⟨hr, by rw [hgv dn (by omega) hd4i, hgd]; exact Int.le_refl _⟩
    have hk2 : tf (BunRight dn af la (vecF v0 v1 v2 v3) es ks c ∧ vecF (setF (vecF u0 u1 u2 u3) dn la 0) (setF (vecF u0 u1 u2 u3) dn la 1) (setF (vecF u0 u1 u2 u3) dn la 2) (setF (vecF u0 u1 u2 u3) dn la 3) dn = af ∧ AtMostP (vecF v0 v1 v2 v3) (vecF (setF (vecF u0 u1 u2 u3) dn la 0) (setF (vecF u0 u1 u2 u3) dn la 1) (setF (vecF u0 u1 u2 u3) dn la 2) (setF (vecF u0 u1 u2 u3) dn la 3))) = false := tf_false fun h => by
      have h1 := h.2.1
      rw [hgv dn (by omega) hd4i, hgd] at h1
      have := hr.nums.2.2.2.1
      omega
    have hk3 : tf (BunRight dn af la (vecF v0 v1 v2 v3) es ks c ∧ (vecF u0 u1 u2 u3) dn = af ∧ AtMostP (vecF v0 v1 v2 v3) (vecF u0 u1 u2 u3)) = true := tf_true ⟨hr, hrd⟩
    have HKN3 := Lib.hid (fun W f => hk1 ▸ HKN2.out W f (setF (vecF u0 u1 u2 u3) dn la 0) (setF (vecF u0 u1 u2 u3) dn la 1) (setF (vecF u0 u1 u2 u3) dn la 2) (setF (vecF u0 u1 u2 u3) dn la 3))
    have HRE3 := Lib.hid (fun W f => hk2 ▸ HRE2.out W f (setF (vecF u0 u1 u2 u3) dn la 0) (setF (vecF u0 u1 u2 u3) dn la 1) (setF (vecF u0 u1 u2 u3) dn la 2) (setF (vecF u0 u1 u2 u3) dn la 3))
    have HRE4 := Lib.hid (fun W f => hk3 ▸ HRE2.out W f u0 u1 u2 u3)
    have HVS := Lib.hid (fun W => vec_set W 23 u0 u1 u2 u3 la dn hd4)
    have HVC := Lib.hid (fun W => vec_cell W 23 u0 u1 u2 u3 dn hd4)
    have HMG := Lib.hid hmg; clear hmg
    have hgl : (fullL (setF (vecF u0 u1 u2 u3) dn la)).length ≤ 4 := by
      have := (HMG.out)
      rw [show fullL (setF (vecF u0 u1 u2 u3) dn la) = wholeL fun d => fullP (setF (vecF u0 u1 u2 u3) dn la d) from rfl, wholeL_length]
      have hp : ∀ n : Int, (fullP n).length ≤ 1 := fun n => by unfold fullP; split <;> simp
      have h0 := hp (setF (vecF u0 u1 u2 u3) dn la 0)
      have h1 := hp (setF (vecF u0 u1 u2 u3) dn la 1)
      have h2 := hp (setF (vecF u0 u1 u2 u3) dn la 2)
      have h3 := hp (setF (vecF u0 u1 u2 u3) dn la 3)
      omega
    have HGL := Lib.hid hgl; clear hgl
    clear hr hmu hrd hbe hgd hgv hk1 hk2 hk3 HKN2 HRE2
    generalize setF (vecF u0 u1 u2 u3) dn la = g at *
    unfold vecC at HBO3
    generalize es.length = n at *
    generalize ks.len = m at *
    generalize hck : c.length = k at *
    have HCK := Lib.hid hck; clear hck
    obtain ⟨hv0, hf0, -⟩ := two_blocks w (.cells #[.int .i64 dn, .int .i64 af, .int .i64 la, .int .i64 v0, .int .i64 v1, .int .i64 v2, .int .i64 v3, .slice a0 n c0, .slice a1 m c1, .slice a2 k c2] 33) #[.int .i64 u0, .int .i64 u1, .int .i64 u2, .int .i64 u3] 23
    have hv0 : VecAt ((w.alloc (.cells #[.int .i64 dn, .int .i64 af, .int .i64 la, .int .i64 v0, .int .i64 v1, .int .i64 v2, .int .i64 v3, .slice a0 n c0, .slice a1 m c1, .slice a2 k c2] 33)).alloc (.cells #[.int .i64 u0, .int .i64 u1, .int .i64 u2, .int .i64 u3] 23)) (w.heap.size + 1) (vecF u0 u1 u2 u3) 23 := hv0
    have HV0 := Lib.hid hv0; clear hv0
    have HF0 := Lib.hid hf0; clear hf0
    have hb0 : ((w.alloc (.cells #[.int .i64 dn, .int .i64 af, .int .i64 la, .int .i64 v0, .int .i64 v1, .int .i64 v2, .int .i64 v3, .slice a0 n c0, .slice a1 m c1, .slice a2 k c2] 33)).alloc (.cells #[.int .i64 u0, .int .i64 u1, .int .i64 u2, .int .i64 u3] 23)).heap[w.heap.size]? = some (.cells #[.int .i64 dn, .int .i64 af, .int .i64 la, .int .i64 v0, .int .i64 v1, .int .i64 v2, .int .i64 v3, .slice a0 n c0, .slice a1 m c1, .slice a2 k c2] 33 (0, 0)) := (Frm.alloc NoS _ _).blk (heap_alloc_new w _) id
    have HB0 := Lib.hid hb0; clear hb0
    go_enter Tryz.func5, Tryz.ntmps5
    go_wp2_with (first
      | (go_at_call 6; first | (go_loud (refine (HA.out _).mono ?_); rintro e w1 ⟨rfl, hw1⟩; have hb := (hw1).blk HB0.out id; have y0 := cell_at' hb 0 rfl; have y1 := cell_at' hb 1 rfl; have y2 := cell_at' hb 2 rfl; have y3 := cell_at' hb 3 rfl; have y4 := cell_at' hb 4 rfl; have y5 := cell_at' hb 5 rfl; have y6 := cell_at' hb 6 rfl; have y7 := cell_at' hb 7 rfl; have y8 := cell_at' hb 8 rfl; have y9 := cell_at' hb 9 rfl; have hbl := lt_of_block hb; clear hb; have hv := HV0.out.keep (hw1); have q0 : w1.cell? ⟨w.heap.size + 1, 0, none⟩ = some (.int .i64 u0) := hv.cell (k := 0) (by decide); have q1 : w1.cell? ⟨w.heap.size + 1, 1, none⟩ = some (.int .i64 u1) := hv.cell (k := 1) (by decide); have q2 : w1.cell? ⟨w.heap.size + 1, 2, none⟩ = some (.int .i64 u2) := hv.cell (k := 2) (by decide); have q3 : w1.cell? ⟨w.heap.size + 1, 3, none⟩ = some (.int .i64 u3) := hv.cell (k := 3) (by decide); have hvl := lt_of_block hv; clear hv; have HW1 := Lib.hid hw1; clear hw1))
      | (go_at_call 7; go_loud (refine (HS.out _ (HF0.out.then1 HW1.out)).mono ?_); rintro e w2 ⟨rfl, hw2⟩; clear y0 y1 y2 y3 y4 y5 y6 y7 y8 y9 q0 q1 q2 q3 hbl hvl; have hb := (HW1.out.then1 hw2).blk HB0.out id; have y0 := cell_at' hb 0 rfl; have y1 := cell_at' hb 1 rfl; have y2 := cell_at' hb 2 rfl; have y3 := cell_at' hb 3 rfl; have y4 := cell_at' hb 4 rfl; have y5 := cell_at' hb 5 rfl; have y6 := cell_at' hb 6 rfl; have y7 := cell_at' hb 7 rfl; have y8 := cell_at' hb 8 rfl; have y9 := cell_at' hb 9 rfl; have hbl := lt_of_block hb; clear hb; have hv := HV0.out.keep (HW1.out.then1 hw2); have q0 : w2.cell? ⟨w.heap.size + 1, 0, none⟩ = some (.int .i64 u0) := hv.cell (k := 0) (by decide); have q1 : w2.cell? ⟨w.heap.size + 1, 1, none⟩ = some (.int .i64 u1) := hv.cell (k := 1) (by decide); have q2 : w2.cell? ⟨w.heap.size + 1, 2, none⟩ = some (.int .i64 u2) := hv.cell (k := 2) (by decide); have q3 : w2.cell? ⟨w.heap.size + 1, 3, none⟩ = some (.int .i64 u3) := hv.cell (k := 3) (by decide); have hvl := lt_of_block hv; clear hv; have HW2 := Lib.hid (HW1.out.then1 hw2); clear hw2)
      | (go_at_call 8; go_loud (refine (HQ2.out _ (HF0.out.then1 HW2.out)).mono ?_); rintro e w3 ⟨rfl, hw3⟩; clear y0 y1 y2 y3 y4 y5 y6 y7 y8 y9 q0 q1 q2 q3 hbl hvl; have hb := (HW2.out.then1 hw3).blk HB0.out id; have y0 := cell_at' hb 0 rfl; have y1 := cell_at' hb 1 rfl; have y2 := cell_at' hb 2 rfl; have y3 := cell_at' hb 3 rfl; have y4 := cell_at' hb 4 rfl; have y5 := cell_at' hb 5 rfl; have y6 := cell_at' hb 6 rfl; have y7 := cell_at' hb 7 rfl; have y8 := cell_at' hb 8 rfl; have y9 := cell_at' hb 9 rfl; have hbl := lt_of_block hb; clear hb; have hv := HV0.out.keep (HW2.out.then1 hw3); have q0 : w3.cell? ⟨w.heap.size + 1, 0, none⟩ = some (.int .i64 u0) := hv.cell (k := 0) (by decide); have q1 : w3.cell? ⟨w.heap.size + 1, 1, none⟩ = some (.int .i64 u1) := hv.cell (k := 1) (by decide); have q2 : w3.cell? ⟨w.heap.size + 1, 2, none⟩ = some (.int .i64 u2) := hv.cell (k := 2) (by decide); have q3 : w3.cell? ⟨w.heap.size + 1, 3, none⟩ = some (.int .i64 u3) := hv.cell (k := 3) (by decide); have hvl := lt_of_block hv; clear hv; have HW3 := Lib.hid (HW2.out.then1 hw3); clear hw3)
      | (go_at_call 20; go_loud (refine (HMY.out _).mono ?_); rintro e w4 ⟨rfl, hw4⟩; clear y0 y1 y2 y3 y4 y5 y6 y7 y8 y9 q0 q1 q2 q3 hbl hvl; have hb := (HW3.out.then1 hw4).blk HB0.out id; have y0 := cell_at' hb 0 rfl; have y1 := cell_at' hb 1 rfl; have y2 := cell_at' hb 2 rfl; have y3 := cell_at' hb 3 rfl; have y4 := cell_at' hb 4 rfl; have y5 := cell_at' hb 5 rfl; have y6 := cell_at' hb 6 rfl; have y7 := cell_at' hb 7 rfl; have y8 := cell_at' hb 8 rfl; have y9 := cell_at' hb 9 rfl; have hbl := lt_of_block hb; clear hb; have hv := HV0.out.keep (HW3.out.then1 hw4); have q0 : w4.cell? ⟨w.heap.size + 1, 0, none⟩ = some (.int .i64 u0) := hv.cell (k := 0) (by decide); have q1 : w4.cell? ⟨w.heap.size + 1, 1, none⟩ = some (.int .i64 u1) := hv.cell (k := 1) (by decide); have q2 : w4.cell? ⟨w.heap.size + 1, 2, none⟩ = some (.int .i64 u2) := hv.cell (k := 2) (by decide); have q3 : w4.cell? ⟨w.heap.size + 1, 3, none⟩ = some (.int .i64 u3) := hv.cell (k := 3) (by decide); have hvl := lt_of_block hv; clear hv; have HW4 := Lib.hid (HW3.out.then1 hw4); clear hw4)
      | (go_at_call 12; go_loud (refine (HRR2.out _).mono ?_); rintro e w5 ⟨rfl, hw5⟩; clear y0 y1 y2 y3 y4 y5 y6 y7 y8 y9 q0 q1 q2 q3 hbl hvl; have hb := (HW4.out.then1 hw5).blk HB0.out id; have y0 := cell_at' hb 0 rfl; have y1 := cell_at' hb 1 rfl; have y2 := cell_at' hb 2 rfl; have y3 := cell_at' hb 3 rfl; have y4 := cell_at' hb 4 rfl; have y5 := cell_at' hb 5 rfl; have y6 := cell_at' hb 6 rfl; have y7 := cell_at' hb 7 rfl; have y8 := cell_at' hb 8 rfl; have y9 := cell_at' hb 9 rfl; have hbl := lt_of_block hb; clear hb; have hv := HV0.out.keep (HW4.out.then1 hw5); have q0 : w5.cell? ⟨w.heap.size + 1, 0, none⟩ = some (.int .i64 u0) := hv.cell (k := 0) (by decide); have q1 : w5.cell? ⟨w.heap.size + 1, 1, none⟩ = some (.int .i64 u1) := hv.cell (k := 1) (by decide); have q2 : w5.cell? ⟨w.heap.size + 1, 2, none⟩ = some (.int .i64 u2) := hv.cell (k := 2) (by decide); have q3 : w5.cell? ⟨w.heap.size + 1, 3, none⟩ = some (.int .i64 u3) := hv.cell (k := 3) (by decide); have hvl := lt_of_block hv; clear hv; have HW5 := Lib.hid (HW4.out.then1 hw5); clear hw5)
      | (go_at_call 21; go_loud (refine (cFull_any _ u0 u1 u2 u3).mono ?_); rintro e w6 ⟨-, hp6, -⟩; obtain ⟨v6, rfl, ho6, hl6⟩ := hp6 HMU.out; clear hp6; obtain ⟨b6, d6, rfl⟩ := ho6.shape; have hx6 := ho6.frm.blk (heap_alloc_new w5 _) id; have HX6 := Lib.hid hx6; clear hx6; have hw6 := HW5.out.then1 ((Frm.alloc NoS w5 _).then1 ho6.frm); clear y0 y1 y2 y3 y4 y5 y6 y7 y8 y9 q0 q1 q2 q3 hbl hvl; have hb := (hw6).blk HB0.out id; have y0 := cell_at' hb 0 rfl; have y1 := cell_at' hb 1 rfl; have y2 := cell_at' hb 2 rfl; have y3 := cell_at' hb 3 rfl; have y4 := cell_at' hb 4 rfl; have y5 := cell_at' hb 5 rfl; have y6 := cell_at' hb 6 rfl; have y7 := cell_at' hb 7 rfl; have y8 := cell_at' hb 8 rfl; have y9 := cell_at' hb 9 rfl; have hbl := lt_of_block hb; clear hb; have hv := HV0.out.keep (hw6); have q0 : w6.cell? ⟨w.heap.size + 1, 0, none⟩ = some (.int .i64 u0) := hv.cell (k := 0) (by decide); have q1 : w6.cell? ⟨w.heap.size + 1, 1, none⟩ = some (.int .i64 u1) := hv.cell (k := 1) (by decide); have q2 : w6.cell? ⟨w.heap.size + 1, 2, none⟩ = some (.int .i64 u2) := hv.cell (k := 2) (by decide); have q3 : w6.cell? ⟨w.heap.size + 1, 3, none⟩ = some (.int .i64 u3) := hv.cell (k := 3) (by decide); have hvl := lt_of_block hv; clear hv; have HW6 := Lib.hid hw6; clear hw6; have HO6 := Lib.hid ho6; clear ho6; have HL6 := Lib.hid hl6; clear hl6)
      | (go_at_call 22; go_loud (refine (cUnion_ok _ _ _ (fullL (vecF u0 u1 u2 u3)) c HO6.out.rd (HCX.out _ (HF0.out.then1 HW6.out)) HRU.out.fits HCF.out HRU.out HRC.out (by have := HL6.out; omega) (by have := HCL.out; have := HCK.out; omega)).mono ?_); rintro e w7 ⟨v7, cu, rfl, ho7, hby, -⟩; obtain rfl := HTU.out _ hby; obtain ⟨b7, d7, rfl⟩ := ho7.shape; have hx7 := ho7.frm.blk HX6.out id; have HX7 := Lib.hid hx7; clear hx7; have hw7 := HW6.out.then1 ho7.frm; clear y0 y1 y2 y3 y4 y5 y6 y7 y8 y9 q0 q1 q2 q3 hbl hvl; have hb := (hw7).blk HB0.out id; have y0 := cell_at' hb 0 rfl; have y1 := cell_at' hb 1 rfl; have y2 := cell_at' hb 2 rfl; have y3 := cell_at' hb 3 rfl; have y4 := cell_at' hb 4 rfl; have y5 := cell_at' hb 5 rfl; have y6 := cell_at' hb 6 rfl; have y7 := cell_at' hb 7 rfl; have y8 := cell_at' hb 8 rfl; have y9 := cell_at' hb 9 rfl; have hbl := lt_of_block hb; clear hb; have hv := HV0.out.keep (hw7); have q0 : w7.cell? ⟨w.heap.size + 1, 0, none⟩ = some (.int .i64 u0) := hv.cell (k := 0) (by decide); have q1 : w7.cell? ⟨w.heap.size + 1, 1, none⟩ = some (.int .i64 u1) := hv.cell (k := 1) (by decide); have q2 : w7.cell? ⟨w.heap.size + 1, 2, none⟩ = some (.int .i64 u2) := hv.cell (k := 2) (by decide); have q3 : w7.cell? ⟨w.heap.size + 1, 3, none⟩ = some (.int .i64 u3) := hv.cell (k := 3) (by decide); have hvl := lt_of_block hv; clear hv; have HW7 := Lib.hid hw7; clear hw7; have HO7 := Lib.hid ho7.rd; clear ho7 hby; obtain ⟨hvc, hvf⟩ := HVC.out w7))
    clear y0 y1 y2 y3 y4 y5 y6 y7 y8 y9 q0 q1 q2 q3 hbl hvl hvc hvf
    have hvs := HVS.out w7
    have HFX := Lib.hid (HW7.out.then1 hvs.2)
    have HX8 := Lib.hid (hvs.2.blk HX7.out id)
    have HO8 := Lib.hid (HO7.out.keep0 hvs.2)
    have HGS := Lib.hid hvs.1
    clear hvs
    generalize w5.heap.size = xb at *
    generalize w7.heap.size = vb at *
    generalize (w7.alloc (.cells (([.int .i64 u0, .int .i64 u1, .int .i64 u2, .int .i64 u3] : List Value).set dn (.int .i64 la)).toArray 23)) = X0 at *
    generalize hn8 : (fullL g).length = n8 at *
    have HN8 := Lib.hid hn8; clear hn8
    obtain ⟨α, hne, K, hK1, hK0, hK2⟩ := worlds X0
    have HFK := Lib.hid (fun s => HF0.out.then1 (HFX.out.then1 (hK1 s)))
    have HOK := Lib.hid (fun s => (show CtxAt (K s) (.slice b7 n8 d7) (fullL g) from by have := HO8.out.keep0 (hK1 s); unfold CtxAt; rw [HN8.out]; exact this))
    have hxk := fun s => (hK1 s).blk HX8.out id
    have hxb := fun s => (hK1 s).blk (HFX.out.blk HB0.out id) id
    have hxv := fun s => (HV0.out.keep HFX.out).keep (hK1 s)
    have k0 := fun s => cell_at' (hxb s) 0 rfl
    have p0 := fun s => cell_at' (hxk s) 0 rfl
    have k1 := fun s => cell_at' (hxb s) 1 rfl
    have p1 := fun s => cell_at' (hxk s) 1 rfl
    have k2 := fun s => cell_at' (hxb s) 2 rfl
    have p2 := fun s => cell_at' (hxk s) 2 rfl
    have k3 := fun s => cell_at' (hxb s) 3 rfl
    have p3 := fun s => cell_at' (hxk s) 3 rfl
    have k4 := fun s => cell_at' (hxb s) 4 rfl
    have p4 := fun s => cell_at' (hxk s) 4 rfl
    have k5 := fun s => cell_at' (hxb s) 5 rfl
    have p5 := fun s => cell_at' (hxk s) 5 rfl
    have k6 := fun s => cell_at' (hxb s) 6 rfl
    have p6 := fun s => cell_at' (hxk s) 6 rfl
    have k7 := fun s => cell_at' (hxb s) 7 rfl
    have p7 := fun s => cell_at' (hxk s) 7 rfl
    have k8 := fun s => cell_at' (hxb s) 8 rfl
    have p8 := fun s => cell_at' (hxk s) 8 rfl
    have k9 := fun s => cell_at' (hxb s) 9 rfl
    have p9 := fun s => cell_at' (hxk s) 9 rfl
    have q0 : ∀ s, (K s).cell? ⟨w.heap.size + 1, 0, none⟩ = some (.int .i64 u0) := fun s => (hxv s).cell (k := 0) (by decide)
    have m0 : ∀ s, (K s).cell? ⟨vb, 0, none⟩ = some (.int .i64 (g 0)) := fun s => (hK1 s).cell' (HGS.out 0 (by decide)) id
    have q1 : ∀ s, (K s).cell? ⟨w.heap.size + 1, 1, none⟩ = some (.int .i64 u1) := fun s => (hxv s).cell (k := 1) (by decide)
    have m1 : ∀ s, (K s).cell? ⟨vb, 1, none⟩ = some (.int .i64 (g 1)) := fun s => (hK1 s).cell' (HGS.out 1 (by decide)) id
    have q2 : ∀ s, (K s).cell? ⟨w.heap.size + 1, 2, none⟩ = some (.int .i64 u2) := fun s => (hxv s).cell (k := 2) (by decide)
    have m2 : ∀ s, (K s).cell? ⟨vb, 2, none⟩ = some (.int .i64 (g 2)) := fun s => (hK1 s).cell' (HGS.out 2 (by decide)) id
    have q3 : ∀ s, (K s).cell? ⟨w.heap.size + 1, 3, none⟩ = some (.int .i64 u3) := fun s => (hxv s).cell (k := 3) (by decide)
    have m3 : ∀ s, (K s).cell? ⟨vb, 3, none⟩ = some (.int .i64 (g 3)) := fun s => (hK1 s).cell' (HGS.out 3 (by decide)) id
    clear hxk hxb hxv
    have hveq := vec_same (g 0) (g 1) (g 2) (g 3)
    have HSO := Lib.hid (fun s => cSolid_full (K s) _ g (HOK.out s) HMG.out (by have := HGL.out; have := HN8.out; omega))
    have HVE := Lib.hid (fun s => cVector_full (K s) _ g (HOK.out s) HMG.out (by have := HGL.out; have := HN8.out; omega))
    unfold vecC at HVE
    refine wp_region_new K (by kernel_rfl) (by kernel_rfl) hK0 ?_
    repeat (go_big_quiet_step ((first | (go_at_call_of 9 u0; exact Calls.in_class hK2 (HRE4.out _ (HFK.out _))) | (go_at_call_of 9 g; exact Calls.in_class hK2 (HRE3.out _ (HFK.out _))) | (go_at_call 10; exact Calls.in_class hK2 (HKN3.out _ (HFK.out _))) | (go_at_call 11; exact Calls.in_class hK2 (HBO3.out _ (HFK.out _))) | (go_at_call 23; exact Calls.in_class hK2 (HSO.out _)) | (go_at_call 24; exact Calls.in_class hK2 (HVE.out _)))))
    refine wpQuiet_nil ?_
    intro w' hw'
    obtain ⟨s, rfl⟩ := hw'
    go_wp2
    go_ret
    exact ⟨by simp, HFK.out s⟩
theorem bundleTurns_walk (w : World) (v : Value) (h : BunIn w v) (u : Value) (hu : VecIn u) : Calls Tryz.prog 5 #[v, u] w fun e w' => e = .returned (.bool true) ∧ Frm (fun _ => False) w w' := by
  obtain ⟨u0, u1, u2, u3, rfl⟩ := hu
  exact bundleTurns_law w u0 u1 u2 u3 v h
end Go.Proofs.YtclfajhdonabhaaGreat

/- The law BundleTurns' walk beside what opens its arguments. -/
namespace Go.Proofs.YtclfajhdonabhaaGreat
end Go.Proofs.YtclfajhdonabhaaGreat
