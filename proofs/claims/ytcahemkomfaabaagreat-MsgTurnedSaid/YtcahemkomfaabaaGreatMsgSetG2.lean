/- Words for the law MsgSet: Ctx, BSmall, Reg, BDot, RunAt, R6, SpRight. -/
import Derived.Test.YtcahemkomfaabaaGreatMsgSetG1
import Derived.Test.YtcahemkomfaabaaGreatChecked
import Derived.Deep.RegionHeld
import Derived.Deep.RegionHeld3
import Derived.Deep.DeepCutAuto
import Derived.Deep.RegionWith
set_option linter.unusedSimpArgs false
set_option linter.unusedVariables false
set_option maxHeartbeats 32000000
set_option maxRecDepth 1000000
namespace Go.Proofs.YtcahemkomfaabaaGreat
open Go.RowKit
noncomputable def tf (p : Prop) : Bool := @decide p (Classical.propDecidable p)
theorem tf_true {p : Prop} (h : p) : tf p = true := by unfold tf; exact @decide_eq_true p (Classical.propDecidable p) h
theorem tf_false {p : Prop} (h : ¬ p) : tf p = false := by unfold tf; exact @decide_eq_false p (Classical.propDecidable p) h
theorem tf_iff {p : Prop} : tf p = true ↔ p := ⟨fun h => Classical.byContradiction fun hn => (by rw [tf_false hn] at h; cases h), tf_true⟩
theorem tf_not {p : Prop} : tf p = false ↔ ¬ p := ⟨fun h hp => (by rw [tf_true hp] at h; cases h), tf_false⟩
theorem tf_congr {p q : Prop} (h : p ↔ q) : tf p = tf q := by rw [propext h]
theorem tf_bool {b : Bool} {p : Prop} (h : b = true ↔ p) : b = tf p := by
 cases b with
 | true => exact (tf_true (h.1 rfl)).symm
 | false => exact (tf_false fun hp => by cases h.2 hp).symm
def RightR (l : RunL) : Prop := RunsFrom 1 l ∧ ∀ r ∈ l, r.2 ≤ 1099511627776
theorem runsFrom_ge : ∀ {l : RunL} {lo : Int}, RunsFrom lo l → ∀ r ∈ l, lo ≤ r.1 ∧ r.1 ≤ r.2
 | [], _, _, r, hr => by cases hr
 | y :: l, lo, h, r, hr => by
  rcases List.mem_cons.1 hr with rfl | hr
  · exact ⟨h.1, h.2.1⟩
  · have := runsFrom_ge h.2.2 r hr
    have := h.1
    have := h.2.1
    omega
theorem RightR.in_ {l : RunL} (h : RightR l) {n : Int} (hn : InR l n) : 1 ≤ n ∧ n ≤ 1099511627776 := by
 obtain ⟨r, hr, h1, h2⟩ := hn
 have := runsFrom_ge h.1 r hr
 have := h.2 r hr
 omega
theorem RightR.of {l : RunL} (h : RunsFrom 1 l) (hn : ∀ n, InR l n → n ≤ 1099511627776) : RightR l :=
 ⟨h, fun r hr => hn r.2 ⟨r, hr, (runsFrom_ge h r hr).2, Int.le_refl _⟩⟩
theorem rightR_nil : RightR [] := ⟨trivial, fun r hr => by cases hr⟩
theorem RightR.nil_iff {l : RunL} (h : RightR l) : l = [] ↔ ∀ n, ¬ InR l n := by
 constructor
 · rintro rfl n; exact inR_nil n
 · intro hn
   cases l with
   | nil => rfl
   | cons r l => exact absurd ⟨r, List.mem_cons_self, Int.le_refl _, h.1.2.1⟩ (hn r.1)
abbrev CtxL := List (Int × Int × Int)
def partL (c : CtxL) (d : Int) : RunL := (c.filter fun s => s.1 == d).map (·.2)
def InC (c : CtxL) (d n : Int) : Prop := InR (partL c d) n
def DcFrom : Int → CtxL → Prop
 | _, [] => True
 | lo, s :: c => lo ≤ s.1 ∧ s.1 < 4 ∧ DcFrom s.1 c
def RightC (c : CtxL) : Prop := DcFrom 0 c ∧ ∀ d, 0 ≤ d → d < 4 → RightR (partL c d)
def spansL (d : Int) (l : RunL) : CtxL := l.map fun r => (d, r.1, r.2)
def wholeL (p : Int → RunL) : CtxL := spansL 0 (p 0) ++ (spansL 1 (p 1) ++ (spansL 2 (p 2) ++ spansL 3 (p 3)))
theorem partL_nil (d : Int) : partL [] d = [] := rfl
theorem partL_append (a b : CtxL) (d : Int) : partL (a ++ b) d = partL a d ++ partL b d := by simp [partL]
theorem partL_cons_eq (s : Int × Int × Int) (c : CtxL) : partL (s :: c) s.1 = s.2 :: partL c s.1 := by simp [partL]
theorem partL_cons_ne (s : Int × Int × Int) (c : CtxL) {d : Int} (h : s.1 ≠ d) : partL (s :: c) d = partL c d := by simp [partL, h]
theorem partL_spans_eq (d : Int) (l : RunL) : partL (spansL d l) d = l := by
 unfold partL spansL
 rw [List.filter_eq_self.2 (by intro s hs; simp at hs; obtain ⟨a, b, _, rfl⟩ := hs; simp), List.map_map]
 exact List.map_id l
theorem partL_spans_ne {d d' : Int} (l : RunL) (h : d ≠ d') : partL (spansL d l) d' = [] := by
 unfold partL spansL
 rw [List.filter_eq_nil_iff.2 (by intro s hs; simp at hs; obtain ⟨a, b, _, rfl⟩ := hs; simpa using h)]
 rfl
theorem four {d : Int} (h0 : 0 ≤ d) (h4 : d < 4) : d = 0 ∨ d = 1 ∨ d = 2 ∨ d = 3 := by omega
theorem partL_whole (p : Int → RunL) {d : Int} (h0 : 0 ≤ d) (h4 : d < 4) : partL (wholeL p) d = p d := by
 unfold wholeL
 rw [partL_append, partL_append, partL_append]
 rcases four h0 h4 with rfl | rfl | rfl | rfl
 · rw [partL_spans_eq, partL_spans_ne (d := 1) _ (by decide), partL_spans_ne (d := 2) _ (by decide), partL_spans_ne (d := 3) _ (by decide)]; simp
 · rw [partL_spans_eq, partL_spans_ne (d := 0) _ (by decide), partL_spans_ne (d := 2) _ (by decide), partL_spans_ne (d := 3) _ (by decide)]; simp
 · rw [partL_spans_eq, partL_spans_ne (d := 0) _ (by decide), partL_spans_ne (d := 1) _ (by decide), partL_spans_ne (d := 3) _ (by decide)]; simp
 · rw [partL_spans_eq, partL_spans_ne (d := 0) _ (by decide), partL_spans_ne (d := 1) _ (by decide), partL_spans_ne (d := 2) _ (by decide)]; simp
theorem DcFrom.mono {lo lo' : Int} {c : CtxL} (h : DcFrom lo c) (hl : lo' ≤ lo) : DcFrom lo' c := by
 cases c with
 | nil => trivial
 | cons s c => exact ⟨Int.le_trans hl h.1, h.2⟩
theorem dcFrom_spans {d lo : Int} (h : lo ≤ d) (h4 : d < 4) : ∀ (l : RunL) {c : CtxL}, DcFrom d c → DcFrom lo (spansL d l ++ c)
 | [], _, hc => hc.mono h
 | _ :: l, _, hc => ⟨h, h4, dcFrom_spans (Int.le_refl _) h4 l hc⟩
theorem dcFrom_whole (p : Int → RunL) : DcFrom 0 (wholeL p) := by
 have h3 : DcFrom 3 (spansL 3 (p 3)) := by
  have := dcFrom_spans (lo := 3) (d := 3) (by decide) (by decide) (p 3) (c := []) trivial
  rwa [List.append_nil] at this
 exact dcFrom_spans (d := 0) (by decide) (by decide) _ ((dcFrom_spans (d := 1) (lo := 1) (by decide) (by decide) _ ((dcFrom_spans (d := 2) (lo := 2) (by decide) (by decide) _ (h3.mono (by decide))).mono (by decide))).mono (by decide))
theorem right_whole {p : Int → RunL} (h : ∀ d, 0 ≤ d → d < 4 → RightR (p d)) : RightC (wholeL p) :=
 ⟨dcFrom_whole p, fun d h0 h4 => by rw [partL_whole p h0 h4]; exact h d h0 h4⟩
theorem partL_lt : ∀ {c : CtxL} {lo d : Int}, DcFrom lo c → d < lo → partL c d = []
 | [], _, _, _, _ => rfl
 | s :: c, lo, d, h, hd => by
  have := h.1
  rw [partL_cons_ne s c (by omega), partL_lt h.2.2 (by omega)]
theorem whole_parts : ∀ {c : CtxL} {lo : Int}, 0 ≤ lo → DcFrom lo c → wholeL (partL c) = c
 | [], _, _, _ => rfl
 | s :: c, lo, hl, h => by
  have h1 := h.1
  have h2 := h.2.1
  have ih := whole_parts (by omega) h.2.2
  obtain ⟨k, r⟩ := s
  simp only at h1 h2
  have hk := four (d := k) (by omega) h2
  have hd := h.2.2
  simp only at hd ih
  have e : ∀ d, k ≠ d → partL ((k, r) :: c) d = partL c d := fun d hd => partL_cons_ne _ _ hd
  have e0 : partL ((k, r) :: c) k = r :: partL c k := partL_cons_eq (k, r) c
  unfold wholeL at ih ⊢
  rcases hk with rfl | rfl | rfl | rfl
  · rw [e0, e 1 (by decide), e 2 (by decide), e 3 (by decide)]
    show (0, r) :: (spansL 0 (partL c 0) ++ _) = _
    rw [ih]
  · rw [e0, e 0 (by decide), e 2 (by decide), e 3 (by decide), partL_lt hd (by decide)] 
    rw [partL_lt hd (by decide)] at ih
    show (1, r) :: (spansL 0 [] ++ (spansL 1 (partL c 1) ++ _)) = _
    rw [ih]
  · rw [e0, e 0 (by decide), e 1 (by decide), e 3 (by decide), partL_lt (d := 0) hd (by decide), partL_lt (d := 1) hd (by decide)]
    rw [partL_lt (d := 0) hd (by decide), partL_lt (d := 1) hd (by decide)] at ih
    show (2, r) :: (spansL 0 [] ++ (spansL 1 [] ++ (spansL 2 (partL c 2) ++ _))) = _
    rw [ih]
  · rw [e0, e 0 (by decide), e 1 (by decide), e 2 (by decide), partL_lt (d := 0) hd (by decide), partL_lt (d := 1) hd (by decide), partL_lt (d := 2) hd (by decide)]
    rw [partL_lt (d := 0) hd (by decide), partL_lt (d := 1) hd (by decide), partL_lt (d := 2) hd (by decide)] at ih
    show (3, r) :: (spansL 0 [] ++ (spansL 1 [] ++ (spansL 2 [] ++ spansL 3 (partL c 3)))) = _
    rw [ih]
theorem spansL_nil {d : Int} {l : RunL} : spansL d l = [] ↔ l = [] := by simp [spansL]
theorem wholeL_nil {p : Int → RunL} : wholeL p = [] ↔ ∀ d, 0 ≤ d → d < 4 → p d = [] := by
 unfold wholeL
 simp only [List.append_eq_nil_iff, spansL_nil]
 constructor
 · rintro ⟨h0, h1, h2, h3⟩ d hd hd4
   rcases four hd hd4 with rfl | rfl | rfl | rfl <;> assumption
 · exact fun h => ⟨h 0 (by decide) (by decide), h 1 (by decide) (by decide), h 2 (by decide) (by decide), h 3 (by decide) (by decide)⟩
def LeqC (a b : CtxL) : Prop := ∀ d n, 0 ≤ d → d < 4 → InC a d n → InC b d n
structure ByC (how : Int) (a b c : CtxL) : Prop where
 right : RightC c
 mem : ∀ d n, 0 ≤ d → d < 4 → (InC c d n ↔ ByIn how (InC a d n) (InC b d n))
theorem ByC.whole {how : Int} {a b : CtxL} {p : Int → RunL} (hp : ∀ d, 0 ≤ d → d < 4 → RightR (p d)) (hm : ∀ d n, 0 ≤ d → d < 4 → (InR (p d) n ↔ ByIn how (InC a d n) (InC b d n))) : ByC how a b (wholeL p) :=
 ⟨right_whole hp, fun d n h0 h4 => by unfold InC; rw [partL_whole p h0 h4]; exact hm d n h0 h4⟩
theorem RightC.nil_iff {c : CtxL} (h : RightC c) : c = [] ↔ ∀ d n, 0 ≤ d → d < 4 → ¬ InC c d n := by
 constructor
 · rintro rfl d n _ _ hn
   exact inR_nil n hn
 · intro hn
   rw [← whole_parts (Int.le_refl 0) h.1, wholeL_nil]
   exact fun d h0 h4 => (h.2 d h0 h4).nil_iff.2 fun n => hn d n h0 h4
theorem ByC.minus_nil {a b c : CtxL} (h : ByC 2 a b c) : c = [] ↔ LeqC a b := by
 rw [h.right.nil_iff]
 constructor
 · intro hn d n h0 h4 hi
   exact Classical.byContradiction fun hb => hn d n h0 h4 ((h.mem d n h0 h4).2 (by unfold ByIn; rw [if_pos rfl]; exact ⟨hi, hb⟩))
 · intro hl d n h0 h4 hi
   have := (h.mem d n h0 h4).1 hi
   unfold ByIn at this
   rw [if_pos rfl] at this
   exact this.2 (hl d n h0 h4 this.1)
def fullP (n : Int) : RunL := if 0 < n then [(1, n)] else []
def fullL (v : Int → Int) : CtxL := wholeL fun d => fullP (v d)
theorem inR_fullP (m n : Int) : InR (fullP m) n ↔ 1 ≤ n ∧ n ≤ m := by
 unfold fullP
 split
 · rw [inR_one]
 · exact ⟨fun h => absurd h (inR_nil n), fun h => by omega⟩
theorem right_fullP {m : Int} (h : m ≤ 1099511627776) : RightR (fullP m) := by
 unfold fullP
 split
 · exact ⟨⟨Int.le_refl _, by omega, trivial⟩, fun r hr => by simp at hr; subst hr; exact h⟩
 · exact rightR_nil
theorem inC_full (v : Int → Int) {d : Int} (n : Int) (h0 : 0 ≤ d) (h4 : d < 4) : InC (fullL v) d n ↔ 1 ≤ n ∧ n ≤ v d := by
 unfold InC fullL
 rw [partL_whole _ h0 h4, inR_fullP]
theorem right_full {v : Int → Int} (h : ∀ d, 0 ≤ d → d < 4 → v d ≤ 1099511627776) : RightC (fullL v) := right_whole fun d h0 h4 => right_fullP (h d h0 h4)
theorem inC_one (d a b d' n : Int) : InC [(d, a, b)] d' n ↔ d' = d ∧ a ≤ n ∧ n ≤ b := by
 unfold InC
 by_cases h : d = d'
 · subst h
   rw [partL_cons_eq (d, a, b) [], partL_nil, inR_one]
   exact ⟨fun h => ⟨rfl, h⟩, fun h => h.2⟩
 · rw [partL_cons_ne (d, a, b) [] h, partL_nil]
   exact ⟨fun h => absurd h (inR_nil n), fun h1 => absurd h1.1.symm h⟩
theorem right_one {d a b : Int} (h0 : 0 ≤ d) (h4 : d < 4) (ha : 1 ≤ a) (hab : a ≤ b) (hb : b ≤ 1099511627776) : RightC [(d, a, b)] := by
 refine ⟨⟨h0, h4, trivial⟩, fun d' _ _ => ?_⟩
 by_cases h : d = d'
 · subst h
   rw [partL_cons_eq (d, a, b) [], partL_nil]
   exact ⟨⟨ha, hab, trivial⟩, fun r hr => by simp at hr; subst hr; exact hb⟩
 · rw [partL_cons_ne (d, a, b) [] h, partL_nil]
   exact rightR_nil
theorem right_nilC : RightC [] := ⟨trivial, fun _ _ _ => rightR_nil⟩
structure OfC (l : List (Int × Int)) (c : CtxL) : Prop where
 right : RightC c
 mem : ∀ d n, 0 ≤ d → d < 4 → (InC c d n ↔ (d, n) ∈ l)
abbrev NoS : Nat → Prop := fun _ => False
def numB1 (n : Int) : Bool := decide (1 ≤ n ∧ n ≤ 1099511627776)
def dotB (d n : Int) : Bool := decide (0 ≤ d ∧ d < 4 ∧ 1 ≤ n ∧ n ≤ 1099511627776)
theorem number_any (n : Int) (w : World) : Calls Tryz.prog 199 #[.int .i64 n] w fun e w' => e = .returned (.bool (numB1 n)) ∧ w' = w := by
 go_enter Tryz.func199, Tryz.ntmps199
 go_wp2
 all_goals
  go_ret
  refine ⟨ret_bool ?_, rfl⟩
  rw [Bool.eq_iff_iff]
  simp [numB1] <;> omega
theorem dotRight_any (d n : Int) (w : World) : Calls Tryz.prog 167 #[.agg #[.int .i64 d, .int .i64 n]] w fun e w' => e = .returned (.bool (dotB d n)) ∧ Frm NoS w w' := by
 go_enter Tryz.func167, Tryz.ntmps167
 go_wp2
 all_goals
  go_ret
  refine ⟨ret_bool ?_, Frm.alloc _ _ _⟩
  rw [Bool.eq_iff_iff]
  simp [dotB] <;> omega
theorem r5Right_any (d n : Int) (w : World) : Calls Tryz.prog 205 #[.agg #[.int .i64 d, .int .i64 n]] w fun e w' => e = .returned (.bool (dotB d n)) ∧ Frm NoS w w' := by
 go_enter Tryz.func205, Tryz.ntmps205
 go_wp2
 all_goals
  go_ret
  refine ⟨ret_bool ?_, Frm.alloc _ _ _⟩
  rw [Bool.eq_iff_iff]
  simp [dotB] <;> omega
def keyB (s : ByteArray) : Bool := decide (1 ≤ s.size ∧ s.size ≤ 30)
theorem tkey_any (s : ByteArray) (w : World) (h : s.size ≤ 9223372036854775807) : Calls Tryz.prog 198 #[.string s] w fun e w' => e = .returned (.bool (keyB s)) ∧ w' = w := by
 go_enter Tryz.func198, Tryz.ntmps198
 go_wp2
 all_goals
  go_ret
  refine ⟨ret_bool ?_, rfl⟩
  rw [Bool.eq_iff_iff]
  simp [keyB] <;> omega
theorem r8Key_any (s : ByteArray) (w : World) (h : s.size ≤ 9223372036854775807) : Calls Tryz.prog 187 #[.string s] w fun e w' => e = .returned (.bool (keyB s)) ∧ w' = w := by
 go_enter Tryz.func187, Tryz.ntmps187
 go_wp2
 all_goals
  go_ret
  refine ⟨ret_bool ?_, rfl⟩
  rw [Bool.eq_iff_iff]
  simp [keyB] <;> omega
theorem empty_any (a b : Option Addr) (n m c d : Nat) (w : World) : Calls Tryz.prog 162 #[.agg #[.slice a n c, .slice b m d]] w fun e w' => e = .returned (.bool (decide (n = 0 ∧ m = 0))) ∧ Frm NoS w w' := by
 go_enter Tryz.func162, Tryz.ntmps162
 go_wp2
 all_goals
  go_ret
  refine ⟨ret_bool ?_, Frm.alloc _ _ _⟩
  rw [Bool.eq_iff_iff]
  simp <;> omega
def dotLt (d n e m : Int) : Bool := decide (d < e ∨ d = e ∧ n < m)
theorem r5Less_any (d n e m : Int) (w : World) : Calls Tryz.prog 186 #[.agg #[.int .i64 d, .int .i64 n], .agg #[.int .i64 e, .int .i64 m]] w fun x w' => x = .returned (.bool (dotLt d n e m)) ∧ Frm NoS w w' := by
 by_cases h : d = e
 · subst h
   go_enter Tryz.func186, Tryz.ntmps186
   go_wp2
   go_ret
   refine ⟨ret_bool ?_, (Frm.alloc _ _ _).trans (Frm.alloc _ _ _) (fun _ _ h => h)⟩
   rw [Bool.eq_iff_iff]
   simp [dotLt]
 · have h1 : ((d : Int) == e) = false := by simpa using h
   go_enter Tryz.func186, Tryz.ntmps186
   go_wp2
   go_ret
   refine ⟨ret_bool ?_, (Frm.alloc _ _ _).trans (Frm.alloc _ _ _) (fun _ _ h => h)⟩
   rw [Bool.eq_iff_iff]
   simp [dotLt] <;> omega
theorem nan64_any (a : Int) (w : World) : Calls Tryz.prog 204 #[.int .i64 a] w fun e w' => e = .returned (.bool false) ∧ w' = w := by
 go_enter Tryz.func204, Tryz.ntmps204
 go_wp2
 go_ret
 exact ⟨rfl, rfl⟩
theorem nanInt_any (a : Int) (w : World) : Calls Tryz.prog 229 #[.int .i64 a] w fun e w' => e = .returned (.bool false) ∧ w' = w := by
 go_enter Tryz.func229, Tryz.ntmps229
 go_wp2
 go_ret
 exact ⟨rfl, rfl⟩
def cmpI (a b : Int) : Int := if a < b then -1 else if b < a then 1 else 0
theorem cmp64_any (a b : Int) (w : World) : Calls Tryz.prog 183 #[.int .i64 a, .int .i64 b] w fun e w' => e = .returned (.int .i64 (cmpI a b)) ∧ w' = w := by
 go_enter Tryz.func183, Tryz.ntmps183
 go_wp2_with (go_at_call 204; refine (nan64_any _ _).mono ?_; rintro e w' ⟨rfl, rfl⟩)
 all_goals
  go_ret
  refine ⟨ret_int ?_, rfl⟩
  unfold cmpI
  split
  · omega
  · first | omega | (split <;> omega)
theorem cmpInt_any (a b : Int) (w : World) : Calls Tryz.prog 207 #[.int .i64 a, .int .i64 b] w fun e w' => e = .returned (.int .i64 (cmpI a b)) ∧ w' = w := by
 go_enter Tryz.func207, Tryz.ntmps207
 go_wp2_with (go_at_call 229; refine (nanInt_any _ _).mono ?_; rintro e w' ⟨rfl, rfl⟩)
 all_goals
  go_ret
  refine ⟨ret_int ?_, rfl⟩
  unfold cmpI
  split
  · omega
  · first | omega | (split <;> omega)
end Go.Proofs.YtcahemkomfaabaaGreat
namespace Go.Proofs.YtcahemkomfaabaaGreat
open Go.RowKit
def orI (x y : Int) : Int := if x = 0 then y else x
theorem cmpOr_two (b c : Nat) (x y : Int) (w : World) (hx : w.cell? ⟨b, 0, none⟩ = some (.int .i64 x)) (hy : w.cell? ⟨b, 1, none⟩ = some (.int .i64 y)) :
 Calls Tryz.prog 206 #[.slice (some ⟨b, 0, none⟩) 2 c] w fun e w' => e = .returned (.int .i64 (orI x y)) ∧ w' = w := by
 by_cases h0 : x = 0
 · subst h0
   by_cases h1 : y = 0
   · subst h1
     go_enter Tryz.func206, Tryz.ntmps206
     go_wp2
     go_loop [8] (fun i => ∃ k : Nat, k ≤ 2 ∧ i = .int .i64 k) (fun i => 2 - (intOf i).toNat)
     case atStart => exact ⟨0, by omega, rfl⟩
     case round =>
      obtain ⟨k, hk, rfl⟩ := hrel
      rcases (by omega : k = 0 ∨ k = 1 ∨ k = 2) with rfl | rfl | rfl
      · go_wp2
        go_round
        case rel => exact ⟨1, by omega, rfl⟩
        case measure => simp [intOf]
      · go_wp2
        go_round
        case rel => exact ⟨2, by omega, rfl⟩
        case measure => simp [intOf]
      · go_wp2
        go_ret
        exact ⟨rfl, rfl⟩
   · have h2 : ((y : Int) == 0) = false := by simpa using h1
     go_enter Tryz.func206, Tryz.ntmps206
     go_wp2
     go_loop [8] (fun i => ∃ k : Nat, k ≤ 1 ∧ i = .int .i64 k) (fun i => 2 - (intOf i).toNat)
     case atStart => exact ⟨0, by omega, rfl⟩
     case round =>
      obtain ⟨k, hk, rfl⟩ := hrel
      rcases (by omega : k = 0 ∨ k = 1) with rfl | rfl
      · go_wp2
        go_round
        case rel => exact ⟨1, by omega, rfl⟩
        case measure => simp [intOf]
      · go_wp2
        go_ret
        exact ⟨rfl, rfl⟩
 · have h2 : ((x : Int) == 0) = false := by simpa using h0
   go_enter Tryz.func206, Tryz.ntmps206
   go_wp2
   go_loop [8] (fun i => i = .int .i64 0) (fun i => 2 - (intOf i).toNat)
   case atStart => rfl
   case round =>
    obtain rfl := hrel
    go_wp2
    go_ret
    exact ⟨ret_int (by simp [orI, h0]), rfl⟩
def dotC (d n e m : Int) : Int := orI (cmpI d e) (cmpI n m)
theorem dotC_lt (d n e m : Int) : decide (dotC d n e m < 0) = dotLt d n e m := by
 rw [Bool.eq_iff_iff]
 simp only [dotC, dotLt, decide_eq_true_eq]
 unfold orI cmpI
 by_cases h1 : d < e
 · simp [h1]
 · by_cases h2 : e < d
   · simp [h1, h2]; omega
   · have : d = e := by omega
     subst this
     by_cases h3 : n < m
     · simp [h3]
     · by_cases h4 : m < n <;> simp [h3, h4] <;> omega
theorem dotCmp_any (d n e m : Int) (w : World) : Calls Tryz.prog 188 #[.agg #[.int .i64 d, .int .i64 n], .agg #[.int .i64 e, .int .i64 m]] w fun x w' => x = .returned (.int .i64 (dotC d n e m)) ∧ Frm NoS w w' := by
 go_enter Tryz.func188, Tryz.ntmps188
 go_wp2_with fail
 go_region_held3 (fun w' => w'.cell? ⟨w.heap.size, 0, none⟩ = some (.int .i64 d) ∧ w'.cell? ⟨w.heap.size, 1, none⟩ = some (.int .i64 n) ∧ w'.cell? ⟨w.heap.size + 1, 0, none⟩ = some (.int .i64 e) ∧ w'.cell? ⟨w.heap.size + 1, 1, none⟩ = some (.int .i64 m))
  (go_keep)
  (first
   | (go_at_call 207; refine (cmpInt_any _ _ _).mono ?_; rintro e w' ⟨rfl, rfl⟩)
   | (go_at_call 183; refine (cmp64_any _ _ _).mono ?_; rintro e w' ⟨rfl, rfl⟩)
   | (go_at_call 206; refine (cmpOr_two _ _ (cmpI d e) (cmpI n m) _ (by go_simp) (by go_simp)).mono ?_; rintro e w' ⟨rfl, rfl⟩))
 all_goals
  go_wp2
  go_ret
  exact ⟨rfl, by repeat (first | exact Frm.refl _ _ | refine Frm.alloc1 ?_ | refine Frm.drew1 ?_)⟩
def ruC (l : RunL) : List Value := l.flatMap fun r => [.int .i64 r.1, .int .i64 r.2]
def inV (l : List Int) : List Value := l.map fun n => .int .i64 n
def spC (c : CtxL) : List Value := c.flatMap fun s => [.int .i64 s.1, .int .i64 s.2.1, .int .i64 s.2.2]
theorem ruC_append (a b : RunL) : ruC (a ++ b) = ruC a ++ ruC b := by simp [ruC]
theorem inV_append (a b : List Int) : inV (a ++ b) = inV a ++ inV b := by simp [inV]
theorem spC_append (a b : CtxL) : spC (a ++ b) = spC a ++ spC b := by simp [spC]
theorem ruC_length : ∀ l : RunL, (ruC l).length = l.length * 2
 | [] => rfl
 | r :: l => by
  have e : ruC (r :: l) = [.int .i64 r.1, .int .i64 r.2] ++ ruC l := rfl
  rw [e, List.length_append, ruC_length l]; simp; omega
theorem spC_length : ∀ c : CtxL, (spC c).length = c.length * 3
 | [] => rfl
 | s :: c => by
  have e : spC (s :: c) = [.int .i64 s.1, .int .i64 s.2.1, .int .i64 s.2.2] ++ spC c := rfl
  rw [e, List.length_append, spC_length c]; simp; omega
@[simp] theorem inV_length (l : List Int) : (inV l).length = l.length := by simp [inV]
theorem ruC_oneCell (l : RunL) : ∀ v ∈ ruC l, v.oneCell' = true := by
 intro v hv
 simp only [ruC, List.mem_flatMap] at hv
 obtain ⟨r, _, hv⟩ := hv
 simp at hv
 rcases hv with rfl | rfl <;> rfl
theorem spC_oneCell (c : CtxL) : ∀ v ∈ spC c, v.oneCell' = true := by
 intro v hv
 simp only [spC, List.mem_flatMap] at hv
 obtain ⟨r, _, hv⟩ := hv
 simp at hv
 rcases hv with rfl | rfl | rfl <;> rfl
theorem inV_oneCell (l : List Int) : ∀ v ∈ inV l, v.oneCell' = true := by
 intro v hv
 simp only [inV, List.mem_map] at hv
 obtain ⟨r, _, rfl⟩ := hv
 rfl
theorem ruC_at : ∀ (l : RunL) (k : Nat), k < l.length → (ruC l)[k * 2]? = some (.int .i64 (l.getD k (0, 0)).1) ∧ (ruC l)[k * 2 + 1]? = some (.int .i64 (l.getD k (0, 0)).2)
 | [], _, h => by cases h
 | r :: l, 0, _ => ⟨rfl, rfl⟩
 | r :: l, k + 1, h => by
  obtain ⟨h1, h2⟩ := ruC_at l k (by simpa using h)
  have e : ruC (r :: l) = .int .i64 r.1 :: .int .i64 r.2 :: ruC l := rfl
  rw [e, show (k + 1) * 2 = k * 2 + 1 + 1 by omega, show k * 2 + 1 + 1 + 1 = (k * 2 + 1) + 1 + 1 by omega]
  exact ⟨h1, h2⟩
theorem spC_at : ∀ (c : CtxL) (k : Nat), k < c.length → (spC c)[k * 3]? = some (.int .i64 (c.getD k (0, 0, 0)).1) ∧ (spC c)[k * 3 + 1]? = some (.int .i64 (c.getD k (0, 0, 0)).2.1) ∧ (spC c)[k * 3 + 2]? = some (.int .i64 (c.getD k (0, 0, 0)).2.2)
 | [], _, h => by cases h
 | r :: l, 0, _ => ⟨rfl, rfl, rfl⟩
 | r :: l, k + 1, h => by
  obtain ⟨h1, h2, h3⟩ := spC_at l k (by simpa using h)
  have e : spC (r :: l) = .int .i64 r.1 :: .int .i64 r.2.1 :: .int .i64 r.2.2 :: spC l := rfl
  rw [e, show (k + 1) * 3 = k * 3 + 1 + 1 + 1 by omega, show k * 3 + 1 + 1 + 1 + 1 = (k * 3 + 1) + 1 + 1 + 1 by omega, show k * 3 + 1 + 1 + 1 + 2 = (k * 3 + 2) + 1 + 1 + 1 by omega]
  exact ⟨h1, h2, h3⟩
def RunAt (w : World) (v : Value) (l : RunL) : Prop := Rd w v l.length (ruC l)
def CtxAt (w : World) (v : Value) (c : CtxL) : Prop := Rd w v c.length (spC c)
def NumAt (w : World) (v : Value) (l : List Int) : Prop := Rd w v l.length (inV l)
theorem Rd.keep0 {w w' : World} {v : Value} {n : Nat} {xs : List Value} (h : Rd w v n xs) (f : Frm NoS w w') : Rd w' v n xs := h.keep f fun _ _ h => h
theorem Rd.shape {w : World} {v : Value} {n : Nat} {xs : List Value} (h : Rd w v n xs) : (∃ ad, v = .slice ad 0 0 ∧ n = 0) ∨ ∃ b off c, v = .slice (some ⟨b, off, none⟩) n c ∧ (n : Int) ≤ 9223372036854775807 := by
 rcases h with ⟨ad, h1, h2, _⟩ | ⟨b, off, c, h1, h2, h3, _⟩
 · exact .inl ⟨ad, h1, h2⟩
 · exact .inr ⟨b, off, c, h1, by simp only [maxLen] at h3; omega⟩
theorem Rd.sl {w : World} {v : Value} {n : Nat} {xs : List Value} (h : Rd w v n xs) : ∃ a c, v = .slice a n c := by
 rcases h with ⟨ad, h1, h2, _⟩ | ⟨b, off, c, h1, _⟩
 · exact ⟨ad, 0, by rw [h1, h2]⟩
 · exact ⟨_, c, h1⟩
theorem Rd.cell {w : World} {b off c n : Nat} {xs : List Value} (h : Rd w (.slice (some ⟨b, off, none⟩) n c) n xs) (j : Nat) (u : Value) (hu : xs[j]? = some u) : w.cell? ⟨b, off + j, none⟩ = some u := by
 rcases h with ⟨ad, h1, h2, h3⟩ | ⟨b', off', c', h1, _, _, h4⟩
 · subst h3; simp at hu
 · injection h1 with e1 e2 e3
   injection e1 with e1
   injection e1 with e4 e5
   subst e4 e5
   exact h4 j u hu
theorem run_at {w : World} {b off c n : Nat} {l : RunL} (h : RunAt w (.slice (some ⟨b, off, none⟩) n c) l) (hn : n = l.length) (k : Nat) (hk : k < l.length) :
 w.cell? ⟨b, off + k * 2, none⟩ = some (.int .i64 (l.getD k (0, 0)).1) ∧ w.cell? ⟨b, off + k * 2 + 1, none⟩ = some (.int .i64 (l.getD k (0, 0)).2) := by
 subst hn
 exact ⟨h.cell _ _ (ruC_at l k hk).1, h.cell (k * 2 + 1) _ (ruC_at l k hk).2⟩
theorem spn_at {w : World} {b off c n : Nat} {l : CtxL} (h : CtxAt w (.slice (some ⟨b, off, none⟩) n c) l) (hn : n = l.length) (k : Nat) (hk : k < l.length) :
 w.cell? ⟨b, off + k * 3, none⟩ = some (.int .i64 (l.getD k (0, 0, 0)).1) ∧ w.cell? ⟨b, off + k * 3 + 1, none⟩ = some (.int .i64 (l.getD k (0, 0, 0)).2.1) ∧ w.cell? ⟨b, off + k * 3 + 2, none⟩ = some (.int .i64 (l.getD k (0, 0, 0)).2.2) := by
 subst hn
 obtain ⟨h1, h2, h3⟩ := spC_at l k hk
 exact ⟨h.cell _ _ h1, h.cell (k * 3 + 1) _ h2, h.cell (k * 3 + 2) _ h3⟩
theorem num_at {w : World} {b off c n : Nat} {l : List Int} (h : NumAt w (.slice (some ⟨b, off, none⟩) n c) l) (hn : n = l.length) (k : Nat) (hk : k < l.length) : w.cell? ⟨b, off + k, none⟩ = some (.int .i64 (l.getD k 0)) := by
 subst hn
 exact h.cell _ _ (by simp [inV, List.getD, hk])
theorem getD_at {α : Type} {l : List α} {k : Nat} (d : α) (h : k < l.length) : l.getD k d = l[k] := by simp [List.getD, h]
theorem getD_mem {α : Type} {l : List α} {k : Nat} (d : α) (h : k < l.length) : l.getD k d ∈ l := by rw [getD_at d h]; exact List.getElem_mem h
theorem take_succ {α : Type} {l : List α} {k : Nat} (d : α) (h : k < l.length) : l.take (k + 1) = l.take k ++ [l.getD k d] := by rw [List.take_succ_eq_append_getElem h, getD_at d h]
theorem runsFrom_prefix : ∀ {a b : RunL} {lo : Int}, RunsFrom lo (a ++ b) → RunsFrom lo a
 | [], _, _, _ => trivial
 | _ :: _, _, _, h => ⟨h.1, h.2.1, runsFrom_prefix h.2.2⟩
theorem RightR.take {l : RunL} (h : RightR l) (k : Nat) : RightR (l.take k) := by
 refine ⟨runsFrom_prefix (b := l.drop k) (by rw [List.take_append_drop]; exact h.1), fun r hr => h.2 r (List.mem_of_mem_take hr)⟩
theorem rightR_step {l : RunL} {k : Nat} (h : RightR (l.take k)) (hk : k < l.length) :
 RightR (l.take (k + 1)) ↔ 1 ≤ (l.getD k (0, 0)).1 ∧ (l.getD k (0, 0)).2 ≤ 1099511627776 ∧ (l.getD k (0, 0)).1 ≤ (l.getD k (0, 0)).2 ∧ (0 < k → (l.getD (k - 1) (0, 0)).2 + 2 ≤ (l.getD k (0, 0)).1) := by
 rw [take_succ (0, 0) hk]
 generalize l.getD k (0, 0) = r
 unfold RightR
 rw [runsFrom_snoc]
 constructor
 · rintro ⟨⟨_, h2, h3, h4⟩, h5⟩
   refine ⟨h2, h5 r (by simp), h3, fun h0 => h4 _ ?_⟩
   obtain ⟨j, rfl⟩ : ∃ j, k = j + 1 := ⟨k - 1, by omega⟩
   rw [take_succ (0, 0) (by omega)]
   simp
 · rintro ⟨h1, h2, h3, h4⟩
   refine ⟨⟨h.1, h1, h3, fun x hx => ?_⟩, fun x hx => ?_⟩
   · rcases Nat.eq_zero_or_pos k with rfl | h0
     · simp at hx
     · have h5 := h4 h0
       obtain ⟨j, rfl⟩ : ∃ j, k = j + 1 := ⟨k - 1, by omega⟩
       have h6 := h.1
       rw [take_succ (0, 0) (by omega)] at hx h6
       obtain ⟨_, _, h8, h9⟩ := runsFrom_snoc.1 h6
       rw [show j + 1 - 1 = j by omega] at h5
       rcases List.mem_append.1 hx with hx | hx
       · have := h9 x hx; omega
       · simp only [List.mem_singleton] at hx; subst hx; exact h5
   · rcases List.mem_append.1 hx with hx | hx
     · exact h.2 x hx
     · simp only [List.mem_singleton] at hx; subst hx; exact h2
theorem not_rightR {l : RunL} {k : Nat} (h : RightR (l.take k)) (hk : k < l.length)
 (hn : ¬ (1 ≤ (l.getD k (0, 0)).1 ∧ (l.getD k (0, 0)).2 ≤ 1099511627776 ∧ (l.getD k (0, 0)).1 ≤ (l.getD k (0, 0)).2 ∧ (0 < k → (l.getD (k - 1) (0, 0)).2 + 2 ≤ (l.getD k (0, 0)).1))) : ¬ RightR l :=
 fun hl => hn ((rightR_step h hk).1 (hl.take (k + 1)))
def Fits (l : RunL) : Prop := ∀ r ∈ l, -9223372036854775808 ≤ r.1 ∧ r.1 ≤ 9223372036854775807 ∧ -9223372036854775808 ≤ r.2 ∧ r.2 ≤ 9223372036854775807
theorem RightR.fits {l : RunL} (h : RightR l) : Fits l := fun r hr => by
 have := runsFrom_ge h.1 r hr
 have := h.2 r hr
 omega
theorem r6Right_any (w : World) (v : Value) (l : RunL) (hv : RunAt w v l) (hf : Fits l) :
 Calls Tryz.prog 151 #[v] w fun e w' => e = .returned (.bool (tf (RightR l))) ∧ Frm NoS w w' := by
 rcases Rd.shape hv with ⟨ad, rfl, h0⟩ | ⟨b, off, c, rfl, hmax⟩
 · obtain rfl : l = [] := List.eq_nil_of_length_eq_zero h0
   rw [tf_true rightR_nil]
   clear hv hf
   go_enter Tryz.func151, Tryz.ntmps151
   go_wp2
   go_loop [6] (fun i => i = .int .i64 0) (fun _ => 0)
   case atStart => rfl
   case round =>
    obtain rfl := hrel
    go_wp2
    go_ret
    exact ⟨rfl, Frm.refl _ _⟩
 · have HH := Lib.hid hv; clear hv
   have HF := Lib.hid hf; clear hf
   generalize hn : l.length = n at *
   have HN := Lib.hid hn; clear hn
   go_enter Tryz.func151, Tryz.ntmps151
   go_wp2
   go_loopw [6] (fun i ww => ∃ k : Nat, k ≤ n ∧ i = .int .i64 k ∧ RightR (l.take k) ∧ ∃ q, ww = w.drewN q) (fun i _ => n - (intOf i).toNat)
   case atStart => exact ⟨0, Nat.zero_le _, rfl, rightR_nil, 0, rfl⟩
   case round =>
    obtain ⟨k, hk, rfl, hr, q, rfl⟩ := hrel
    have HR := Lib.hid hr; clear hr
    by_cases hlt : k < n
    · obtain ⟨q1, q2⟩ := run_at HH.out HN.out.symm k (by rw [HN.out]; exact hlt)
      have hfit := HF.out _ (getD_mem (0, 0) (show k < l.length by rw [HN.out]; exact hlt))
      have HS := Lib.hid (rightR_step HR.out (show k < l.length by rw [HN.out]; exact hlt))
      have HX := Lib.hid (not_rightR HR.out (show k < l.length by rw [HN.out]; exact hlt))
      generalize l.getD k (0, 0) = r at *
      by_cases c1 : r.1 < 1
      · go_wp2_with fail
        go_big_quiet (fail)
        go_wp2
        go_ret
        exact ⟨ret_bool (tf_false (HX.out (by omega))).symm, (Frm.drewN _ _ _).drewN1⟩
      · have d1 : decide (r.1 < 1) = false := by simpa using c1
        by_cases c2 : 1099511627776 < r.2
        · go_wp2_with fail
          go_big_quiet (fail)
          go_wp2
          go_ret
          exact ⟨ret_bool (tf_false (HX.out (by omega))).symm, (Frm.drewN _ _ _).drewN1⟩
        · have d2 : decide (1099511627776 < r.2) = false := by simpa using c2
          by_cases c3 : r.2 < r.1
          · go_wp2_with fail
            go_big_quiet (fail)
            go_wp2
            go_ret
            exact ⟨ret_bool (tf_false (HX.out (by omega))).symm, (Frm.drewN _ _ _).drewN1⟩
          · have d3 : decide (r.2 < r.1) = false := by simpa using c3
            rcases Nat.eq_zero_or_pos k with rfl | hk0
            · simp only [Nat.zero_mul, Nat.add_zero] at q1 q2
              go_wp2_with fail
              go_big_quiet (fail)
              go_wp2
              go_roundw
              case rel => exact ⟨0 + 1, by omega, by go_num, HS.out.2 ⟨by omega, by omega, by omega, by omega⟩, q + nq, by first | rfl | rw [World.drewN_drewN]⟩
              case measure => simp [intOf]; omega
            · obtain ⟨j, rfl⟩ : ∃ j, k = j + 1 := ⟨k - 1, by omega⟩
              obtain ⟨-, p2⟩ := run_at HH.out HN.out.symm j (by rw [HN.out]; omega)
              have hfitp := HF.out _ (getD_mem (0, 0) (show j < l.length by rw [HN.out]; omega))
              rw [show j + 1 - 1 = j by omega] at HS HX
              have hprev : 1 ≤ (l.getD j (0, 0)).2 ∧ (l.getD j (0, 0)).2 ≤ 1099511627776 := by
               have hm := getD_mem (0, 0) (show j < (l.take (j + 1)).length by rw [List.length_take, HN.out]; omega)
               have he : (l.take (j + 1)).getD j (0, 0) = l.getD j (0, 0) := by simp [List.getD]
               rw [he] at hm
               have := runsFrom_ge HR.out.1 _ hm
               have := HR.out.2 _ hm
               omega
              generalize l.getD j (0, 0) = p at *
              have hd : wrap64 (j : Int) = j := by unfold wrap64; omega
              by_cases c4 : r.1 - p.2 < 2
              · go_wp2_with fail
                go_big_quiet (fail)
                go_wp2
                go_ret
                exact ⟨ret_bool (tf_false (HX.out (by omega))).symm, (Frm.drewN _ _ _).drewN1⟩
              · go_wp2_with fail
                go_big_quiet (fail)
                go_wp2
                go_roundw
                case rel => exact ⟨j + 1 + 1, by omega, by go_num, HS.out.2 ⟨by omega, by omega, by omega, by omega⟩, q + nq, by first | rfl | rw [World.drewN_drewN]⟩
                case measure => simp [intOf]; omega
    · obtain rfl : k = n := by omega
      have hall : RightR l := by
       have := HR.out
       rwa [List.take_of_length_le (by rw [HN.out]; exact Nat.le_refl _)] at this
      have HA := Lib.hid hall; clear hall
      go_wp2
      go_ret
      exact ⟨ret_bool (tf_true HA.out).symm, Frm.drewN _ _ _⟩
theorem sRight_any (w : World) (v : Value) (l : RunL) (hv : RunAt w v l) (hf : Fits l) :
 Calls Tryz.prog 171 #[v] w fun e w' => e = .returned (.bool (tf (RightR l))) ∧ Frm NoS w w' := by
 rcases Rd.shape hv with ⟨ad, rfl, h0⟩ | ⟨b, off, c, rfl, hmax⟩
 · obtain rfl : l = [] := List.eq_nil_of_length_eq_zero h0
   rw [tf_true rightR_nil]
   clear hv hf
   go_enter Tryz.func171, Tryz.ntmps171
   go_wp2
   go_loop [7] (fun i => i = .int .i64 0) (fun _ => 0)
   case atStart => rfl
   case round =>
    obtain rfl := hrel
    go_wp2
    go_ret
    exact ⟨rfl, Frm.refl _ _⟩
 · have HH := Lib.hid hv; clear hv
   have HF := Lib.hid hf; clear hf
   generalize hn : l.length = n at *
   have HN := Lib.hid hn; clear hn
   go_enter Tryz.func171, Tryz.ntmps171
   go_wp2
   go_loopw [7] (fun i ww => ∃ k : Nat, k ≤ n ∧ i = .int .i64 k ∧ RightR (l.take k) ∧ Frm NoS w ww) (fun i _ => n - (intOf i).toNat)
   case atStart => exact ⟨0, Nat.zero_le _, rfl, rightR_nil, Frm.refl _ _⟩
   case round =>
    obtain ⟨k, hk, rfl, hr, hw⟩ := hrel
    have HR := Lib.hid hr; clear hr
    have HW := Lib.hid hw; clear hw
    by_cases hlt : k < n
    · obtain ⟨q1, q2⟩ := run_at (HH.out.keep0 HW.out) HN.out.symm k (by rw [HN.out]; exact hlt)
      have hbl := World.block_lt_of_cell? _ _ q1
      have hbl : b < wr.heap.size := hbl
      have hfit := HF.out _ (getD_mem (0, 0) (show k < l.length by rw [HN.out]; exact hlt))
      have HS := Lib.hid (rightR_step HR.out (show k < l.length by rw [HN.out]; exact hlt))
      have HX := Lib.hid (not_rightR HR.out (show k < l.length by rw [HN.out]; exact hlt))
      generalize l.getD k (0, 0) = r at *
      cases n1 : numB1 r.1 with
      | false =>
       go_wp2_with fail
       go_big_quiet ((go_at_call 199; exact Calls.quiet_of_same (number_any _ _)))
       go_wp2
       go_ret
       exact ⟨ret_bool (tf_false (HX.out (by unfold numB1 at n1; simp at n1; omega))).symm, HW.out.alloc1.drewN1⟩
      | true =>
       cases n2 : numB1 r.2 with
       | false =>
        go_wp2_with fail
        go_big_quiet ((go_at_call 199; exact Calls.quiet_of_same (number_any _ _)))
        go_wp2
        go_ret
        exact ⟨ret_bool (tf_false (HX.out (by unfold numB1 at n1 n2; simp at n1 n2; omega))).symm, HW.out.alloc1.drewN1⟩
       | true =>
        by_cases c3 : r.2 < r.1
        · go_wp2_with fail
          go_big_quiet ((go_at_call 199; exact Calls.quiet_of_same (number_any _ _)))
          go_wp2
          go_ret
          exact ⟨ret_bool (tf_false (HX.out (by omega))).symm, HW.out.alloc1.drewN1⟩
        · have d3 : decide (r.2 < r.1) = false := by simpa using c3
          rcases Nat.eq_zero_or_pos k with rfl | hk0
          · simp only [Nat.zero_mul, Nat.add_zero] at q1 q2
            go_wp2_with fail
            go_big_quiet ((go_at_call 199; exact Calls.quiet_of_same (number_any _ _)))
            go_wp2
            go_roundw
            case rel => exact ⟨0 + 1, by omega, by go_num, HS.out.2 (by unfold numB1 at n1 n2; simp at n1 n2; omega), HW.out.alloc1.drewN1⟩
            case measure => simp [intOf]; omega
          · obtain ⟨j, rfl⟩ : ∃ j, k = j + 1 := ⟨k - 1, by omega⟩
            obtain ⟨-, p2⟩ := run_at (HH.out.keep0 HW.out) HN.out.symm j (by rw [HN.out]; omega)
            have hfitp := HF.out _ (getD_mem (0, 0) (show j < l.length by rw [HN.out]; omega))
            rw [show j + 1 - 1 = j by omega] at HS HX
            have hprev : 1 ≤ (l.getD j (0, 0)).2 ∧ (l.getD j (0, 0)).2 ≤ 1099511627776 := by
             have hm := getD_mem (0, 0) (show j < (l.take (j + 1)).length by rw [List.length_take, HN.out]; omega)
             have he : (l.take (j + 1)).getD j (0, 0) = l.getD j (0, 0) := by simp [List.getD]
             rw [he] at hm
             have := runsFrom_ge HR.out.1 _ hm
             have := HR.out.2 _ hm
             omega
            generalize l.getD j (0, 0) = p at *
            have hd : wrap64 (j : Int) = j := by unfold wrap64; omega
            by_cases c4 : r.1 ≤ p.2 + 1
            · go_wp2_with fail
              go_big_quiet ((go_at_call 199; exact Calls.quiet_of_same (number_any _ _)))
              go_wp2
              go_ret
              exact ⟨ret_bool (tf_false (HX.out (by omega))).symm, HW.out.alloc1.drewN1⟩
            · go_wp2_with fail
              go_big_quiet ((go_at_call 199; exact Calls.quiet_of_same (number_any _ _)))
              go_wp2
              go_roundw
              case rel => exact ⟨j + 1 + 1, by omega, by go_num, HS.out.2 (by unfold numB1 at n1 n2; simp at n1 n2; omega), HW.out.alloc1.drewN1⟩
              case measure => simp [intOf]; omega
    · obtain rfl : k = n := by omega
      have hall : RightR l := by
       have := HR.out
       rwa [List.take_of_length_le (by rw [HN.out]; exact Nat.le_refl _)] at this
      have HA := Lib.hid hall; clear hall
      go_wp2
      go_ret
      exact ⟨ret_bool (tf_true HA.out).symm, HW.out⟩
end Go.Proofs.YtcahemkomfaabaaGreat
