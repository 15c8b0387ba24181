/- Words for the law PackBack: SortLay, SUnion, SUnion2, CBy, BunLaw, Size, SOf. -/
import Derived.Test.YtggfoihfenlckaaGreatPackBackG3
import Derived.Test.YtggfoihfenlckaaGreatPackBackG4
import Derived.Test.YtggfoihfenlckaaGreatPackBackG6
import Derived.Shelf.SlSortCmp.WholeK
import Derived.Ground.SlsfProg
import Derived.Test.YtggfoihfenlckaaGreatProg
import Derived.Shelf.SlSortCmp.NoneTotal
import Derived.Lib.AppendZerosOnto
set_option linter.unusedSimpArgs false
set_option linter.unusedVariables false
/- slices.SortFunc at runs: the shelf laid at this program (the text is what the kit writes in plain words). -/
namespace Go.Proofs
open Go.Shelf
def Tryz.sortRun_ren : Go.Shelf.Ren := ⟨fun | 6 => 201 | 15 => 209 | 14 => 208 | 28 => 218 | 29 => 219 | 20 => 210 | 21 => 211 | 22 => 212 | 23 => 213 | 24 => 214 | 25 => 215 | 26 => 216 | 27 => 217 | 46 => 220 | 47 => 221 | 48 => 222 | 49 => 223 | 50 => 224 | 57 => 225 | n => n, fun | 22 => 195 | 24 => 225 | 25 => 259 | 3 => 3 | 39 => 194 | 0 => 0 | 53 => 89 | 55 => 191 | 4 => 4 | 46 => 267 | 45 => 266 | 50 => 210 | 5 => 5 | 9 => 9 | 66 => 274 | 70 => 278 | 76 => 280 | 77 => 281 | n => n, fun | n => n⟩
theorem Tryz.sortRun : Go.Proofs.SlLaysF0.n6 Tryz.prog Tryz.sortRun_ren := {
  mixed := by kernel_rfl
  f6 := ⟨Tryz.f201.name, by decide, Tryz.func201.trans (congrArg some (by kernel_rfl))⟩
  f14 := ⟨Tryz.f208.name, by decide, Tryz.func208.trans (congrArg some (by kernel_rfl))⟩
  f15 := Tryz.func209.trans (congrArg some (by kernel_rfl))
  f20 := ⟨Tryz.f210.name, by decide, Tryz.func210.trans (congrArg some (by kernel_rfl))⟩
  f21 := ⟨Tryz.f211.name, by decide, Tryz.func211.trans (congrArg some (by kernel_rfl))⟩
  f22 := ⟨Tryz.f212.name, by decide, Tryz.func212.trans (congrArg some (by kernel_rfl))⟩
  f23 := ⟨Tryz.f213.name, by decide, Tryz.func213.trans (congrArg some (by kernel_rfl))⟩
  f24 := ⟨Tryz.f214.name, by decide, Tryz.func214.trans (congrArg some (by kernel_rfl))⟩
  f25 := ⟨Tryz.f215.name, by decide, Tryz.func215.trans (congrArg some (by kernel_rfl))⟩
  f26 := ⟨Tryz.f216.name, by decide, Tryz.func216.trans (congrArg some (by kernel_rfl))⟩
  f27 := ⟨Tryz.f217.name, by decide, Tryz.func217.trans (congrArg some (by kernel_rfl))⟩
  f28 := Tryz.func218.trans (congrArg some (by kernel_rfl))
  f29 := Tryz.func219.trans (congrArg some (by kernel_rfl))
  f46 := ⟨Tryz.f220.name, by decide, Tryz.func220.trans (congrArg some (by kernel_rfl))⟩
  f47 := Tryz.func221.trans (congrArg some (by kernel_rfl))
  f48 := Tryz.func222.trans (congrArg some (by kernel_rfl))
  f49 := ⟨Tryz.f223.name, by decide, Tryz.func223.trans (congrArg some (by kernel_rfl))⟩
  f50 := ⟨Tryz.f224.name, by decide, Tryz.func224.trans (congrArg some (by kernel_rfl))⟩
  f57 := ⟨Tryz.f225.name, by decide, Tryz.func225.trans (congrArg some (by kernel_rfl))⟩
  t0 := Tryz.underlying0
  a0 := Tryz.isAgg0
  z0 := Tryz.sizeOf0
  v0 := Tryz.zeroValue0
  t3 := Tryz.underlying3
  a3 := Tryz.isAgg3
  z3 := Tryz.sizeOf3
  v3 := Tryz.zeroValue3
  t4 := Tryz.underlying4
  a4 := Tryz.isAgg4
  z4 := Tryz.sizeOf4
  v4 := Tryz.zeroValue4
  t5 := Tryz.underlying5
  a5 := Tryz.isAgg5
  z5 := Tryz.sizeOf5
  v5 := Tryz.zeroValue5
  t9 := Tryz.underlying9
  a9 := Tryz.isAgg9
  z9 := Tryz.sizeOf9
  v9 := Tryz.zeroValue9
  t22 := Tryz.underlying195
  a22 := Tryz.isAgg195
  z22 := Tryz.sizeOf195
  v22 := Tryz.zeroValue195
  t25 := Tryz.underlying259
  a25 := Tryz.isAgg259
  z25 := Tryz.sizeOf259
  v25 := Tryz.zeroValue259
  t39 := Tryz.underlying194
  a39 := Tryz.isAgg194
  z39 := Tryz.sizeOf194
  v39 := Tryz.zeroValue194
  t45 := Tryz.underlying266
  a45 := Tryz.isAgg266
  z45 := Tryz.sizeOf266
  v45 := Tryz.zeroValue266
  t46 := Tryz.underlying267
  a46 := Tryz.isAgg267
  z46 := Tryz.sizeOf267
  v46 := Tryz.zeroValue267
  t50 := Tryz.underlying210
  a50 := Tryz.isAgg210
  z50 := Tryz.sizeOf210
  v50 := Tryz.zeroValue210
  t53 := Tryz.underlying89
  a53 := Tryz.isAgg89
  z53 := Tryz.sizeOf89
  v53 := Tryz.zeroValue89
  t55 := Tryz.underlying191
  a55 := Tryz.isAgg191
  z55 := Tryz.sizeOf191
  v55 := Tryz.zeroValue191
  t66 := Tryz.underlying274
  a66 := Tryz.isAgg274
  z66 := Tryz.sizeOf274
  v66 := Tryz.zeroValue274
  t70 := Tryz.underlying278
  a70 := Tryz.isAgg278
  z70 := Tryz.sizeOf278
  v70 := Tryz.zeroValue278
  t76 := Tryz.underlying280
  a76 := Tryz.isAgg280
  z76 := Tryz.sizeOf280
  v76 := Tryz.zeroValue280
  t77 := Tryz.underlying281
  a77 := Tryz.isAgg281
  z77 := Tryz.sizeOf281
  v77 := Tryz.zeroValue281 }
end Go.Proofs
/- span: Union, Of: the walks, and what of the library they call. -/
namespace Go.Proofs.YtggfoihfenlckaaGreat
open Go.RowKit Go.Sort
set_option maxRecDepth 100000 in
theorem sOf1_any (x y : Int × Int) (W : World) : Calls Tryz.prog 202 #[.agg #[.int .i64 x.1, .int .i64 x.2], .agg #[.int .i64 y.1, .int .i64 y.2]] W fun e w' => e = .returned (.int .i64 (cmpR x y)) ∧ ∃ q os', w' = grow (W.drewN q) os' := by
  unfold cmpR
  go_enter Tryz.func202, Tryz.ntmps202
  go_wp2_with (go_at_call 200; refine (cmp64_any _ _ _).mono ?_; rintro e w' ⟨rfl, rfl⟩)
  go_ret
  exact ⟨rfl, 0, _, by rw [alloc_eq_grow, alloc_eq_grow, grow_grow]; rfl⟩
/-- slices.SortFunc at runs of one's own, by what begins first. -/
theorem sSort_any (g : Nat) (eg : ∀ args w, (callFunc g args).run Tryz.prog w = .ok (.enter g args) w)
    (hg : ∀ x y W, Calls Tryz.prog g #[.agg #[.int .i64 x.1, .int .i64 x.2], .agg #[.int .i64 y.1, .int .i64 y.2]] W fun e w' => e = .returned (.int .i64 (cmpR x y)) ∧ ∃ q os', w' = grow (W.drewN q) os')
    (w0 w : World) (v : Value) (n : Nat) (l : RunL) (h : OwnAt w0 w 225 2 v n (ruC l)) (hl : l.length = n) (hn : n ≤ 1000000) :
    Calls Tryz.prog 201 #[v, .func (.func g) #[] #[]] w fun e w' => e = .returned (.tuple #[]) ∧ ∃ l' : RunL, l'.Perm l ∧ l'.Pairwise (fun a b => a.1 ≤ b.1) ∧ OwnAt w0 w' 225 2 v n (ruC l') := by
  rcases Nat.eq_zero_or_pos n with rfl | h0
  · obtain ⟨a, c, rfl⟩ := h.shape
    obtain rfl : l = [] := List.eq_nil_of_length_eq_zero hl
    exact (AnyF.slices_SortFunc_none Tryz.sortRun a c _ w).mono fun _ _ ⟨he, hw⟩ => ⟨he, [], List.Perm.refl _, List.Pairwise.nil, by rw [hw]; exact h⟩
  · obtain ⟨g', c', rfl, _, hlt, _⟩ := h.row h0
    have hc := AnyQ.slices_SortFunc Tryz.sortRun 2 Tryz.isAgg225 Tryz.sizeOf225 encR (fun _ => rfl) (fun x v hv => by simp [encR] at hv; rcases hv with rfl | rfl <;> rfl) cmpR swoR g #[] g' 0 c' l.toArray w eg (fun _ _ _ _ x y => hg x y _) (h.holdsK h0 hl) hlt (by simp; omega)
    have hs : l.toArray.size = n := by simpa using hl
    rw [hs] at hc
    refine Calls.mono hc fun e w' ⟨he, d', m, os, hp, hq, hw⟩ => ⟨he, d'.toList, ?_, ?_, ?_⟩
    · have := perm_list (d := l.toArray) (d' := d') (by rw [hs]; exact hp)
      simpa using this
    · have e1 : d'.size = n := by rw [hp.1, hs]
      exact sorted_list (by rw [e1]; exact hq)
    · rw [hw]
      exact h.sorted d' (by rw [hp.1, hs]) h0 m os
theorem joined_sorted {l l' : RunL} (hp : l'.Perm l) (hs : l'.Pairwise (fun a b => a.1 ≤ b.1)) (hb : ∀ r ∈ l, 1 ≤ r.1 ∧ r.1 ≤ r.2 ∧ r.2 ≤ 1099511627776) : RightR (joinedL l') ∧ (∀ n, InR (joinedL l') n ↔ InR l n) ∧ ∀ r ∈ l', Bd r := by
  have hb' : ∀ r ∈ l', 1 ≤ r.1 ∧ r.1 ≤ r.2 ∧ r.2 ≤ 1099511627776 := fun r hr => hb r (hp.mem_iff.1 hr)
  have hri : Rising 1 l' := Rising.of_pairwise hs fun r hr => ⟨(hb' r hr).1, (hb' r hr).2.1⟩
  have hm : ∀ n, InR (joinedL l') n ↔ InR l n := fun n => by
    rw [joinedL_mem hri]
    exact ⟨fun ⟨r, hr, h⟩ => ⟨r, hp.mem_iff.1 hr, h⟩, fun ⟨r, hr, h⟩ => ⟨r, hp.mem_iff.2 hr, h⟩⟩
  refine ⟨RightR.of (joinedL_from hri) fun n hn => ?_, hm, fun r hr => by have := hb' r hr; unfold Bd; omega⟩
  obtain ⟨r, hr, h⟩ := (hm n).1 hn
  have := hb r hr
  omega
theorem jn_length : ∀ (l : RunL) (c : Int × Int), (jn c l).length ≤ l.length + 1
  | [], c => by simp [jn]
  | r :: l, c => by
    unfold jn
    split
    · have := jn_length l (c.1, max c.2 r.2); simp only [List.length_cons]; omega
    · have := jn_length l r; simp only [List.length_cons]; omega
theorem joinedL_length (l : RunL) : (joinedL l).length ≤ l.length := by
  cases l with
  | nil => exact Nat.le_refl _
  | cons r l => exact jn_length l r
end Go.Proofs.YtggfoihfenlckaaGreat
/- span: Union, Of: the walks. -/
namespace Go.Proofs.YtggfoihfenlckaaGreat
open Go.RowKit Go.Sort
end Go.Proofs.YtggfoihfenlckaaGreat
/- context: by, Union, Minus, Leq, Right: the walks. -/
namespace Go.Proofs.YtggfoihfenlckaaGreat
open Go.RowKit
/-- A function of two sets of runs: what is in a new one. -/
def RunFun (g : Nat) (how : Int) : Prop := ∀ (w : World) (va vb : Value) (a b : RunL), RunAt w va a → RunAt w vb b → RightR a → RightR b → a.length ≤ 20000 → b.length ≤ 20000 →
  Calls Tryz.prog g #[va, vb] w fun e w' => ∃ v' out, e = .returned v' ∧ OwnAt w w' 225 2 v' out.length (ruC out) ∧ RightR out ∧ (∀ n, InR out n ↔ ByIn how (InR a n) (InR b n)) ∧ out.length ≤ 200000
theorem short_of_sub : ∀ {s l : List Int}, s.Nodup → (∀ x ∈ s, x ∈ l) → s.length ≤ l.length
  | [], _, _, _ => Nat.zero_le _
  | x :: s, l, hn, h => by
    have hx := h x List.mem_cons_self
    have hn2 := List.nodup_cons.1 hn
    have := short_of_sub (s := s) (l := l.erase x) hn2.2 fun y hy => (List.mem_erase_of_ne (by intro e; subst e; exact hn2.1 hy)).2 (h y (List.mem_cons_of_mem _ hy))
    rw [List.length_erase_of_mem hx] at this
    have hl : 0 < l.length := List.length_pos_of_mem hx
    simp only [List.length_cons]
    omega
theorem minusIn_starts : ∀ (b : RunL) (lo hi : Int) (r : Int × Int), r ∈ minusIn lo hi b → r.1 = lo ∨ ∃ x ∈ b, r.1 = x.2 + 1
  | [], lo, hi, r, h => by
    have h : r ∈ (if lo ≤ hi then [(lo, hi)] else [] : RunL) := h
    split at h
    · simp at h; subst h; exact .inl rfl
    · cases h
  | x :: b, lo, hi, r, h => by
    have h : r ∈ (if x.2 < lo ∨ hi < x.1 then minusIn lo hi b else (if lo < x.1 then [(lo, x.1 - 1)] else []) ++ minusIn (x.2 + 1) hi b) := h
    split at h
    · rcases minusIn_starts b lo hi r h with h | ⟨y, hy, h⟩
      · exact .inl h
      · exact .inr ⟨y, List.mem_cons_of_mem _ hy, h⟩
    · rcases List.mem_append.1 h with h | h
      · split at h
        · simp at h; subst h; exact .inl rfl
        · cases h
      · rcases minusIn_starts b _ hi r h with h | ⟨y, hy, h⟩
        · exact .inr ⟨x, List.mem_cons_self, h⟩
        · exact .inr ⟨y, List.mem_cons_of_mem _ hy, h⟩
theorem runsFrom_nodup : ∀ {l : RunL} {lo : Int}, RunsFrom lo l → (l.map (·.1)).Nodup
  | [], _, _ => List.nodup_nil
  | r :: l, lo, h => by
    rw [List.map_cons, List.nodup_cons]
    refine ⟨fun hm => ?_, runsFrom_nodup h.2.2⟩
    obtain ⟨x, hx, he⟩ := List.mem_map.1 hm
    have := runsFrom_ge h.2.2 x hx
    have := h.2.1
    omega
/-- Who takes away from a set has no more runs than both together. -/
theorem minusL_length {a b : RunL} (ra : RightR a) (rb : RightR b) : (minusL a b).length ≤ a.length + b.length := by
  have hn := runsFrom_nodup (minusL_from a b 1 1 ra.1 rb.1)
  have := short_of_sub (l := a.map (·.1) ++ b.map (fun x => x.2 + 1)) hn fun x hx => by
    obtain ⟨r, hr, rfl⟩ := List.mem_map.1 hx
    obtain ⟨y, hy, hr⟩ := List.mem_flatMap.1 hr
    rcases minusIn_starts b y.1 y.2 r hr with h | ⟨z, hz, h⟩
    · exact List.mem_append_left _ (List.mem_map.2 ⟨y, hy, h.symm⟩)
    · exact List.mem_append_right _ (List.mem_map.2 ⟨z, hz, h.symm⟩)
  simpa using this
theorem minus_fun : RunFun 191 2 := fun w va vb a b ha hb ra rb la lb =>
  (sMinus_any w va vb a b ha hb ra rb la lb).mono fun _ _ ⟨v', h1, h2⟩ => ⟨v', minusL a b, h1, h2, RightR.of (minusL_from a b 1 1 ra.1 rb.1) fun n hn => (ra.in_ ((minusL_mem a b 1 n rb.1).1 hn).1).2, fun n => by rw [minusL_mem a b 1 n rb.1]; unfold ByIn; simp, by have := minusL_length ra rb; omega⟩
/-- What is put together of the first k centers. -/
structure ByUp (how : Int) (a b : CtxL) (k : Nat) (p : Nat → RunL) : Prop where
  done : ∀ d, d < k → RightR (p d) ∧ (∀ n, InR (p d) n ↔ ByIn how (InC a d n) (InC b d n)) ∧ (p d).length ≤ 200000
  todo : ∀ d, k ≤ d → d < 4 → p d = partL a d
theorem ByUp.byC {how : Int} {a b : CtxL} {p : Nat → RunL} (h : ByUp how a b 4 p) : ByC how a b (wholeL fun d => p d.toNat) := by
  refine ByC.whole (fun d h0 h4 => ?_) fun d n h0 h4 => ?_
  · exact (h.done d.toNat (by omega)).1
  · have := (h.done d.toNat (by omega)).2.1 n
    rwa [Int.toNat_of_nonneg h0] at this
/-- A block of four slices of one's own. -/
structure ParIn (w0 w : World) (pb : Nat) (A : Nat → Sl) (p : Nat → RunL) : Prop where
  blk : w.heap[pb]? = some (.cells #[.slice (A 0).1 (A 0).2.1 (A 0).2.2, .slice (A 1).1 (A 1).2.1 (A 1).2.2, .slice (A 2).1 (A 2).2.1 (A 2).2.2, .slice (A 3).1 (A 3).2.1 (A 3).2.2] 197 (0, 0))
  new : w0.heap.size ≤ pb
  own : ∀ d, d < 4 → OwnBut (fun k => k = pb) w0 w 225 2 (.slice (A d).1 (A d).2.1 (A d).2.2) (p d).length (ruC (p d))
theorem ParIn.cell {w0 w : World} {pb : Nat} {A : Nat → Sl} {p : Nat → RunL} (h : ParIn w0 w pb A p) {d : Nat} (hd : d < 4) : w.cell? ⟨pb, d, none⟩ = some (.slice (A d).1 (A d).2.1 (A d).2.2) := by
  refine cell_at' h.blk d ?_
  rcases (by omega : d = 0 ∨ d = 1 ∨ d = 2 ∨ d = 3) with rfl | rfl | rfl | rfl <;> rfl
theorem ParIn.keep {w0 w w' : World} {pb : Nat} {A : Nat → Sl} {p : Nat → RunL} (h : ParIn w0 w pb A p) (f : Frm NoS w w') : ParIn w0 w' pb A p :=
  ⟨f.blk h.blk id, h.new, fun d hd => (h.own d hd).keep f⟩
theorem ParIn.start {w0 w : World} {A : Nat → Sl} {p : Nat → RunL} (h : PartsAt w0 w (fun d => .slice (A d).1 (A d).2.1 (A d).2.2) p) :
    ParIn w0 (w.alloc (.cells #[.slice (A 0).1 (A 0).2.1 (A 0).2.2, .slice (A 1).1 (A 1).2.1 (A 1).2.2, .slice (A 2).1 (A 2).2.1 (A 2).2.2, .slice (A 3).1 (A 3).2.1 (A 3).2.2] 197)) w.heap.size A p :=
  ⟨heap_alloc_new w _, (h.own 0 (by omega)).frm.size, fun d hd => (h.own d hd).away (Frm.alloc _ _ _) fun k hk => by rw [hk]; exact Nat.le_refl _⟩
theorem ParIn.set {w0 w w' : World} {pb : Nat} {A : Nat → Sl} {p : Nat → RunL} (h : ParIn w0 w pb A p) {d : Nat} (hd : d < 4) {t : Sl} {out : RunL} (ho : OwnAt w w' 225 2 (.slice t.1 t.2.1 t.2.2) out.length (ruC out)) :
    ParIn w0 (w'.setCell ⟨pb, d, none⟩ (.slice t.1 t.2.1 t.2.2)) pb (upd A d t) (upd p d out) := by
  have hk := h.keep ho.frm
  have hs := set_at' hk.blk d (.slice t.1 t.2.1 t.2.2)
  refine ⟨?_, h.new, fun c hc => ?_⟩
  · rw [hs]
    rcases (by omega : d = 0 ∨ d = 1 ∨ d = 2 ∨ d = 3) with rfl | rfl | rfl | rfl <;> rfl
  · by_cases he : c = d
    · subst he
      rw [upd_same, upd_same]
      have hb : OwnBut (fun k => k = pb) w0 w' 225 2 (.slice t.1 t.2.1 t.2.2) out.length (ruC out) :=
        ⟨⟨ho.own, fun k hk2 => by have := ho.new k hk2; have := (h.own c hc).at_.frm.size; omega, (h.own c hc).at_.frm.then1 ho.frm⟩, fun k hk2 hp => by have := ho.new k hk2; have := lt_of_block h.blk; omega⟩
      exact hb.set rfl h.new _
    · rw [upd_other _ _ he, upd_other _ _ he]
      exact (hk.own c hc).set rfl h.new _
set_option maxHeartbeats 4000000 in
set_option maxRecDepth 1000000 in
theorem cby_ok (g : Nat) (how : Int) (eg : ∀ args w, (callFunc g args).run Tryz.prog w = .ok (.enter g args) w) (HG : RunFun g how)
    (w : World) (va vb : Value) (a b : CtxL) (ha : CtxAt w va a) (hb : CtxAt w vb b) (fa : FitsC a) (fb : FitsC b) (ra : RightC a) (rb : RightC b) (la : a.length ≤ 20000) (lb : b.length ≤ 20000) :
    Calls Tryz.prog 190 #[va, vb, .func (.func g) #[] #[]] w fun e w' => ∃ v' c, e = .returned v' ∧ OwnAt w w' 122 3 v' c.length (spC c) ∧ ByC how a b c ∧ c.length ≤ 800000 := by
  obtain ⟨aA, cA, rfl⟩ := ha.sl
  obtain ⟨aB, cB, rfl⟩ := hb.sl
  have HA := Lib.hid (fun w' (h : Frm NoS w w') => capart_any w' _ a (Rd.keep0 ha h) fa (by omega))
  have HB := Lib.hid (fun w' (h : Frm NoS w w') => capart_any w' _ b (Rd.keep0 hb h) fb (by omega))
  have LA := Lib.hid (fun d => Nat.le_trans (partL_length_le a d) la)
  have LB := Lib.hid (fun d => Nat.le_trans (partL_length_le b d) lb)
  have RA := Lib.hid ra; clear ra
  have RB := Lib.hid rb; clear rb
  have HGG := Lib.hid HG; clear HG
  clear ha hb fa fb la lb
  go_enter Tryz.func190, Tryz.ntmps190
  go_wp2_with (first
    | (go_at_call_of 127 aA; refine (HA.out _ (Frm.refl _ _)).mono ?_; rintro e w1 ⟨hf1, hp1, -⟩; obtain ⟨A, rfl, hvs⟩ := hp1 RA.out; clear hp1; have HF1 := Lib.hid hf1; clear hf1; have HVS := Lib.hid hvs; clear hvs)
    | (go_at_call_of 127 aB; refine (HB.out _ (HF1.out.alloc1)).mono ?_; rintro e w2 ⟨hf2, hp2, -⟩; obtain ⟨B, rfl, hus⟩ := hp2 RB.out; clear hp2; have HF2 := Lib.hid hf2; clear hf2; have HUS := Lib.hid hus; clear hus))
  have HP0 := Lib.hid (((ParIn.start HVS.out).keep HF2.out).keep (Frm.alloc NoS w2 (.cells #[.slice (B 0).1 (B 0).2.1 (B 0).2.2, .slice (B 1).1 (B 1).2.1 (B 1).2.2, .slice (B 2).1 (B 2).2.1 (B 2).2.2, .slice (B 3).1 (B 3).2.1 (B 3).2.2] 197)))
  have HQ0 := Lib.hid (ParIn.start HUS.out)
  have hpq : w1.heap.size < w2.heap.size := by have := HF2.out.size; simp at this; omega
  have HPQ := Lib.hid hpq; clear hpq
  clear HVS HUS HA HB
  go_loopw [28] (fun i ww => ∃ (k : Nat) (A' : Nat → Sl) (p : Nat → RunL), k ≤ 4 ∧ i = .int .i64 k ∧ ParIn w ww w1.heap.size A' p ∧ ByUp how a b k p ∧
    Frm (fun k => k = w1.heap.size) (w2.alloc (.cells #[.slice (B 0).1 (B 0).2.1 (B 0).2.2, .slice (B 1).1 (B 1).2.1 (B 1).2.2, .slice (B 2).1 (B 2).2.1 (B 2).2.2, .slice (B 3).1 (B 3).2.1 (B 3).2.2] 197)) ww) (fun i _ => 4 - (intOf i).toNat)
  case atStart => exact ⟨0, A, fun d => partL a d, by omega, rfl, HP0.out, ⟨fun d hd => by omega, fun d _ _ => rfl⟩, Frm.refl _ _⟩
  case round =>
    obtain ⟨k, A', p, hk, rfl, hp, hbu, hfq⟩ := hrel
    have HP := Lib.hid hp; clear hp
    have HBU := Lib.hid hbu; clear hbu
    have HFQ := Lib.hid hfq; clear hfq
    by_cases hlt : k < 4
    · have hki : (k : Int) < 4 := by omega
      have hkd : decide ((k : Int) < 4) = true := by simpa using hki
      have hpc := HP.out.cell hlt
      have hqc := HFQ.out.cell' (HQ0.out.cell hlt) (fun h => by have := HPQ.out; have h : w2.heap.size = w1.heap.size := h; omega)
      have hqo := Rd.keep (HQ0.out.own k hlt).at_.rd HFQ.out (fun j hj h => by have := (HQ0.out.own k hlt).at_.new j hj; have := HPQ.out; have := HF2.out.size; have h : j = w1.heap.size := h; simp at *; omega)
      have htd := HBU.out.todo k (Nat.le_refl _) hlt
      have hpo := (HP.out.own k hlt).at_.rd
      rw [htd] at hpo
      have HPO := Lib.hid hpo; clear hpo htd
      have HQO := Lib.hid hqo; clear hqo
      have HCL := Lib.hid (fun w' (h : Frm NoS wr w') => HGG.out w' _ _ (partL a k) (partL b k) (HPO.out.keep0 h) (HQO.out.keep0 h) (RA.out.2 k (by omega) (by omega)) (RB.out.2 k (by omega) (by omega)) (LA.out k) (LB.out k))
      generalize A' k = t at *
      generalize B k = u at *
      have hst : Frm NoS wr wr.drew := Frm.drew _ _
      go_wp2_with fail
      refine wp_region_G (S := fun w' => w'.cell? ⟨w1.heap.size, k, none⟩ = some (.slice t.1 t.2.1 t.2.2) ∧ w'.cell? ⟨w2.heap.size, k, none⟩ = some (.slice u.1 u.2.1 u.2.2)) 10 (by kernel_rfl) ⟨hpc, hqc⟩ ?_
      intro hS
      refine take_opG 0 31 (v := ?_) rfl rfl (by kernel_rfl) (by kernel_rfl) (by decide) (by kernel_rfl) (by kernel_rfl) (fun _ _ _ h => h) (Or.inl ⟨by rfl, ?_⟩) (by assumption) ?_
      rotate_left 1
      · (intro w hSw; (try dsimp only at hSw); go_simp; (try with_reducible rfl))
      try simp only [Act.put, List.setIfInBounds_toArray, List.set_cons_zero, List.set_cons_succ]
      refine take_opG 1 32 (v := ?_) rfl rfl (by kernel_rfl) (by kernel_rfl) (by decide) (by kernel_rfl) (by kernel_rfl) (fun _ _ _ h => h) (Or.inl ⟨by rfl, ?_⟩) (by assumption) ?_
      rotate_left 1
      · (intro w hSw; (try dsimp only at hSw); go_simp; (try with_reducible rfl))
      try simp only [Act.put, List.setIfInBounds_toArray, List.set_cons_zero, List.set_cons_succ]
      refine take_opG 2 33 (v := ?_) rfl rfl (by kernel_rfl) (by kernel_rfl) (by decide) (by kernel_rfl) (by kernel_rfl) (fun _ _ _ h => h) (Or.inl ⟨by rfl, ?_⟩) (by assumption) ?_
      rotate_left 1
      · (intro w hSw; (try dsimp only at hSw); go_simp; (try with_reducible rfl))
      try simp only [Act.put, List.setIfInBounds_toArray, List.set_cons_zero, List.set_cons_succ]
      refine take_opG 3 34 (v := ?_) rfl rfl (by kernel_rfl) (by kernel_rfl) (by decide) (by kernel_rfl) (by kernel_rfl) (fun _ _ _ h => h) (Or.inl ⟨by rfl, ?_⟩) (by assumption) ?_
      rotate_left 1
      · (intro w hSw; (try dsimp only at hSw); go_simp; (try with_reducible rfl))
      try simp only [Act.put, List.setIfInBounds_toArray, List.set_cons_zero, List.set_cons_succ]
      refine take_opG 4 35 (v := ?_) rfl rfl (by kernel_rfl) (by kernel_rfl) (by decide) (by kernel_rfl) (by kernel_rfl) (fun _ _ _ h => h) (Or.inl ⟨by rfl, ?_⟩) (by assumption) ?_
      rotate_left 1
      · (intro w hSw; (try dsimp only at hSw); go_simp; (try with_reducible rfl))
      try simp only [Act.put, List.setIfInBounds_toArray, List.set_cons_zero, List.set_cons_succ]
      refine take_opG 5 36 (v := ?_) rfl rfl (by kernel_rfl) (by kernel_rfl) (by decide) (by kernel_rfl) (by kernel_rfl) (fun _ _ _ h => h) (Or.inl ⟨by rfl, ?_⟩) (by assumption) ?_
      rotate_left 1
      · (intro w hSw; (try dsimp only at hSw); go_simp; (try with_reducible rfl))
      try simp only [Act.put, List.setIfInBounds_toArray, List.set_cons_zero, List.set_cons_succ]
      refine take_opG 6 37 (v := ?_) rfl rfl (by kernel_rfl) (by kernel_rfl) (by decide) (by kernel_rfl) (by kernel_rfl) (fun _ _ _ h => h) (Or.inl ⟨by rfl, ?_⟩) (by assumption) ?_
      rotate_left 1
      · (intro w hSw; (try dsimp only at hSw); go_simp; (try with_reducible rfl))
      try simp only [Act.put, List.setIfInBounds_toArray, List.set_cons_zero, List.set_cons_succ]
      refine take_opG 7 38 (v := ?_) rfl rfl (by kernel_rfl) (by kernel_rfl) (by decide) (by kernel_rfl) (by kernel_rfl) (fun _ _ _ h => h) (Or.inl ⟨by rfl, ?_⟩) (by assumption) ?_
      rotate_left 1
      · (intro w hSw; (try dsimp only at hSw); go_simp; (try with_reducible rfl))
      try simp only [Act.put, List.setIfInBounds_toArray, List.set_cons_zero, List.set_cons_succ]
      refine one_opG (i := 8) (by kernel_rfl) rfl (fun K hK => ?_)
      go_simp
      refine (HCL.out _ hst).mono ?_
      rintro e w3 ⟨v3, out, rfl, ho3, hr3, hm3, hl3⟩
      obtain ⟨a3, c3, rfl⟩ := ho3.shape
      have HO3 := Lib.hid ho3; clear ho3
      have HR3 := Lib.hid hr3; clear hr3
      have HM3 := Lib.hid hm3; clear hm3
      have HL3 := Lib.hid hl3; clear hl3
      have hS3 : w3.cell? ⟨w1.heap.size, k, none⟩ = some (.slice t.1 t.2.1 t.2.2) ∧ w3.cell? ⟨w2.heap.size, k, none⟩ = some (.slice u.1 u.2.1 u.2.2) := ⟨HO3.out.frm.cell' hS.1 id, HO3.out.frm.cell' hS.2 id⟩
      refine hK.out _ _ hS3 ?_
      clear hK K
      try simp only [Act.put, List.setIfInBounds_toArray, List.set_cons_zero, List.set_cons_succ]
      refine take_opG 9 40 (v := ?_) rfl rfl (by kernel_rfl) (by kernel_rfl) (by decide) (by kernel_rfl) (by kernel_rfl) (fun _ _ _ h => h) (Or.inl ⟨by rfl, ?_⟩) (by assumption) ?_
      rotate_left 1
      · (intro w hSw; (try dsimp only at hSw); go_simp; (try with_reducible rfl))
      try simp only [Act.put, List.setIfInBounds_toArray, List.set_cons_zero, List.set_cons_succ]
      refine last_opG (by kernel_rfl) (by kernel_rfl) rfl (fun K hK => ?_)
      have hcz := hS3.1
      have hfz : w3.frozen? ⟨w1.heap.size, k, none⟩ = false := free_at' ((HP.out.keep hst).keep HO3.out.frm).blk k
      have HSET := Lib.hid ((HP.out.keep hst).set hlt (t := (a3, out.length, c3)) HO3.out)
      clear hS hS3 hpc hqc
      go_simp
      refine hK.out _ _ ?_
      clear hK K hcz hfz
      go_wp2
      go_roundw
      case rel => exact ⟨k + 1, _, _, by omega, by go_num, HSET.out, ⟨fun d hd => by
          by_cases he : d = k
          · subst he; rw [upd_same]; exact ⟨HR3.out, HM3.out, HL3.out⟩
          · rw [upd_other _ _ he]; exact HBU.out.done d (by omega), fun d h1 h2 => by
          rw [upd_other _ _ (by omega)]; exact HBU.out.todo d (by omega) h2⟩, ((HFQ.out.then1 hst).then1 HO3.out.frm).trans (Frm.setCell (S := fun k => k = w1.heap.size) w3 (p := ⟨w1.heap.size, k, none⟩) (.inl rfl) _) fun _ _ h => h⟩
      case measure => simp [intOf]; omega
    · obtain rfl : k = 4 := by omega
      have c0 : wr.cell? ⟨w1.heap.size, 0, none⟩ = some (.slice (A' 0).1 (A' 0).2.1 (A' 0).2.2) := HP.out.cell (by omega)
      have c1 : wr.cell? ⟨w1.heap.size, 1, none⟩ = some (.slice (A' 1).1 (A' 1).2.1 (A' 1).2.2) := HP.out.cell (by omega)
      have c2 : wr.cell? ⟨w1.heap.size, 2, none⟩ = some (.slice (A' 2).1 (A' 2).2.1 (A' 2).2.2) := HP.out.cell (by omega)
      have c3 : wr.cell? ⟨w1.heap.size, 3, none⟩ = some (.slice (A' 3).1 (A' 3).2.1 (A' 3).2.2) := HP.out.cell (by omega)
      go_wp2_with (go_at_call 189; refine (cwhole_any _ A' p (fun d hd => (HP.out.own d hd).at_.rd) (fun d hd => (HBU.out.done d hd).2.2)).mono ?_; rintro e w3 ⟨v3, c, rfl, ho3, hc3, hl3⟩; obtain ⟨a3, k3, rfl⟩ := ho3.shape; have HO3 := Lib.hid ho3; clear ho3; have HC3 := Lib.hid hc3; clear hc3; have HL3 := Lib.hid hl3; clear hl3)
      go_ret
      exact ⟨_, c, rfl, HO3.out.base (HP.out.own 0 (by omega)).at_.frm, by rw [HC3.out]; exact HBU.out.byC, HL3.out⟩
theorem enters_minus : ∀ args w, (callFunc 191 args).run Tryz.prog w = .ok (.enter 191 args) w := enters_of Tryz.func191 (by kernel_rfl) rfl
set_option maxRecDepth 100000 in
theorem cMinus_ok (w : World) (va vb : Value) (a b : CtxL) (ha : CtxAt w va a) (hb : CtxAt w vb b) (fa : FitsC a) (fb : FitsC b) (ra : RightC a) (rb : RightC b) (la : a.length ≤ 20000) (lb : b.length ≤ 20000) :
    Calls Tryz.prog 169 #[va, vb] w fun e w' => ∃ v' c, e = .returned v' ∧ OwnAt w w' 122 3 v' c.length (spC c) ∧ ByC 2 a b c ∧ c.length ≤ 800000 := by
  have HC := Lib.hid (cby_ok _ 2 enters_minus minus_fun w va vb a b ha hb fa fb ra rb la lb)
  clear ha hb fa fb ra rb la lb
  go_enter Tryz.func169, Tryz.ntmps169
  go_wp2_with (go_at_call 190; refine HC.out.mono ?_; rintro e w1 ⟨v1, c, rfl, ho1, hby, hol⟩; obtain ⟨a1, c1, rfl⟩ := ho1.shape; have HO1 := Lib.hid ho1; clear ho1; have HB := Lib.hid hby; clear hby; have HL := Lib.hid hol; clear hol)
  go_ret
  exact ⟨_, c, rfl, HO1.out, HB.out, HL.out⟩
set_option maxRecDepth 100000 in
theorem cRight_any (w : World) (v : Value) (c : CtxL) (hv : CtxAt w v c) (hf : FitsC c) (hl : c.length ≤ 100000) :
    Calls Tryz.prog 78 #[v] w fun e w' => e = .returned (.bool (tf (RightC c))) ∧ Frm NoS w w' := by
  have HC := Lib.hid (capart_any w v c hv hf hl)
  obtain ⟨aA, cA, rfl⟩ := hv.sl
  clear hv hf hl
  by_cases hr : RightC c
  · rw [tf_true hr]
    go_enter Tryz.func78, Tryz.ntmps78
    go_wp2_with (go_at_call 127; refine HC.out.mono ?_; rintro e w1 ⟨hf1, hp1, -⟩; obtain ⟨A, rfl, -⟩ := hp1 hr; clear hp1; have HF1 := Lib.hid hf1; clear hf1)
    go_ret
    exact ⟨rfl, HF1.out.alloc1⟩
  · rw [tf_false hr]
    go_enter Tryz.func78, Tryz.ntmps78
    go_wp2_with (go_at_call 127; refine HC.out.mono ?_; rintro e w1 ⟨hf1, -, hp1⟩; obtain rfl := hp1 hr; clear hp1; have HF1 := Lib.hid hf1; clear hf1)
    go_ret
    exact ⟨rfl, HF1.out.alloc1⟩
set_option maxRecDepth 100000 in
theorem cLeq_any (w : World) (va vb : Value) (a b : CtxL) (ha : CtxAt w va a) (hb : CtxAt w vb b) (fa : FitsC a) (fb : FitsC b) (la : a.length ≤ 20000) (lb : b.length ≤ 20000) :
    Calls Tryz.prog 130 #[va, vb] w fun e w' => e = .returned (.bool (tf (RightC a ∧ RightC b ∧ LeqC a b))) ∧ Frm NoS w w' := by
  obtain ⟨aA, cA, rfl⟩ := ha.sl
  obtain ⟨aB, cB, rfl⟩ := hb.sl
  have HRA := Lib.hid (cRight_any w _ a ha fa (by omega))
  have HRB := Lib.hid (fun w' (h : Frm NoS w w') => cRight_any w' _ b (Rd.keep0 hb h) fb (by omega))
  have HCM := Lib.hid (fun w' (h : Frm NoS w w') ra rb => cMinus_ok w' _ _ a b (Rd.keep0 ha h) (Rd.keep0 hb h) fa fb ra rb la lb)
  clear ha hb fa fb la lb
  by_cases ra : RightC a
  · rw [tf_true ra] at HRA
    by_cases rb : RightC b
    · rw [tf_true rb] at HRB
      have RA := Lib.hid ra
      have RB := Lib.hid rb
      have hall : tf (RightC a ∧ RightC b ∧ LeqC a b) = tf (LeqC a b) := tf_congr ⟨fun h => h.2.2, fun h => ⟨ra, rb, h⟩⟩
      rw [hall]
      clear ra rb hall
      go_enter Tryz.func130, Tryz.ntmps130
      go_wp2_with (first
        | (go_at_call_of 78 aA; refine HRA.out.mono ?_; rintro e w1 ⟨rfl, hw1⟩; have HW1 := Lib.hid hw1; clear hw1)
        | (go_at_call_of 78 aB; refine (HRB.out _ HW1.out).mono ?_; rintro e w2 ⟨rfl, hw2⟩; have HW2 := Lib.hid (HW1.out.then1 hw2); clear hw2)
        | (go_at_call 169; refine (HCM.out _ HW2.out RA.out RB.out).mono ?_; rintro e w3 ⟨v3, c, rfl, ho3, hby, hol⟩; obtain ⟨a3, c3, rfl⟩ := ho3.shape; have HO3 := Lib.hid ho3; clear ho3; have HB := Lib.hid hby; clear hby; clear hol))
      go_ret
      refine ⟨ret_bool (tf_bool ?_), HW2.out.then1 HO3.out.frm⟩
      rw [← HB.out.minus_nil]
      simp
    · rw [tf_false rb] at HRB
      rw [tf_false fun h => rb h.2.1]
      clear ra rb
      go_enter Tryz.func130, Tryz.ntmps130
      go_wp2_with (first
        | (go_at_call_of 78 aA; refine HRA.out.mono ?_; rintro e w1 ⟨rfl, hw1⟩; have HW1 := Lib.hid hw1; clear hw1)
        | (go_at_call_of 78 aB; refine (HRB.out _ HW1.out).mono ?_; rintro e w2 ⟨rfl, hw2⟩; have HW2 := Lib.hid (HW1.out.then1 hw2); clear hw2))
      go_ret
      exact ⟨rfl, HW2.out⟩
  · rw [tf_false ra] at HRA
    rw [tf_false fun h => ra h.1]
    clear ra
    go_enter Tryz.func130, Tryz.ntmps130
    go_wp2_with (go_at_call_of 78 aA; refine HRA.out.mono ?_; rintro e w1 ⟨rfl, hw1⟩; have HW1 := Lib.hid hw1; clear hw1)
    go_ret
    exact ⟨rfl, HW1.out⟩
end Go.Proofs.YtggfoihfenlckaaGreat
/- Bundles: the plain law. -/
namespace Go.Proofs.YtggfoihfenlckaaGreat
/-- All dots are a context's. -/
def DotsLeq (l : RunL) (c : CtxL) : Prop := ∀ r ∈ l, InC c r.1 r.2
theorem OfC.leq {l : RunL} {c d : CtxL} (hd : DotsOk l) (h : OfC l d) : LeqC d c ↔ DotsLeq l c := by
  constructor
  · intro hl r hr
    obtain ⟨h0, h4, _⟩ := hd r hr
    exact hl r.1 r.2 h0 h4 ((h.mem r.1 r.2 h0 h4).2 hr)
  · intro hl e n h0 h4 hi
    exact hl (e, n) ((h.mem e n h0 h4).1 hi)
theorem rightEs_dots : ∀ {l : List Ent} {p : Option Ent}, rightEs p l = true → DotsOk (dotsE l)
  | [], _, _ => fun r hr => by cases hr
  | e :: l, p, h => by
    have h : (entB e && ltE p e && rightEs (some e) l) = true := h
    simp only [Bool.and_eq_true] at h
    intro r hr
    rcases List.mem_cons.1 hr with rfl | hr
    · have := h.1.1
      unfold entB dotB at this
      simp at this
      exact this.1
    · exact rightEs_dots h.2 r hr
theorem rightKs_dots : ∀ {ks : KidsL} {d : Nat} {p : Option ByteArray}, rightKs ks d p = true → DotsOk (dotsK ks)
  | .nil, _, _, _ => fun r hr => by cases hr
  | .cons key es sub rest, d, p, h => by
    rw [rightKs_cons] at h
    unfold rightT at h
    simp only [Bool.and_eq_true] at h
    intro r hr
    have hr : r ∈ dotsE es ++ dotsK sub ++ dotsK rest := hr
    rcases List.mem_append.1 hr with hr | hr
    · rcases List.mem_append.1 hr with hr | hr
      · exact rightEs_dots h.1.2.1.2 r hr
      · exact rightKs_dots h.1.2.2 r hr
    · exact rightKs_dots h.2 r hr
theorem rightT_dots {d : Nat} {es : List Ent} {ks : KidsL} (h : rightT d es ks = true) : DotsOk (dotsT es ks) := by
  unfold rightT at h
  simp only [Bool.and_eq_true] at h
  intro r hr
  rcases List.mem_append.1 hr with hr | hr
  · exact rightEs_dots h.1.2 r hr
  · exact rightKs_dots h.2 r hr
theorem dotsE_length (es : List Ent) : (dotsE es).length = es.length := by simp [dotsE]
theorem dotsK_length_le : ∀ ks : KidsL, (dotsK ks).length ≤ sizeK ks
  | .nil => Nat.le_refl _
  | .cons _ es sub rest => by
    have h1 := dotsK_length_le sub
    have h2 := dotsK_length_le rest
    show (dotsE es ++ dotsK sub ++ dotsK rest).length ≤ 1 + es.length + sizeK sub + sizeK rest
    rw [List.length_append, List.length_append, dotsE_length]
    omega
theorem dotsT_length_le (es : List Ent) (ks : KidsL) : (dotsT es ks).length ≤ sizeT es ks := by
  have := dotsK_length_le ks
  unfold dotsT sizeT
  rw [List.length_append, dotsE_length]
  omega
end Go.Proofs.YtggfoihfenlckaaGreat
/- How many spans there may be: the plain law. -/
namespace Go.Proofs.YtggfoihfenlckaaGreat
theorem wholeL_length (p : Int → RunL) : (wholeL p).length = (p 0).length + ((p 1).length + ((p 2).length + (p 3).length)) := by simp [wholeL, spansL]
theorem RightC.length {c : CtxL} (h : RightC c) {n : Nat} (hp : ∀ d, 0 ≤ d → d < 4 → (partL c d).length ≤ n) : c.length ≤ 4 * n := by
  have e := congrArg List.length (whole_parts (Int.le_refl 0) h.1)
  rw [wholeL_length] at e
  have h0 := hp 0 (by decide) (by decide)
  have h1 := hp 1 (by decide) (by decide)
  have h2 := hp 2 (by decide) (by decide)
  have h3 := hp 3 (by decide) (by decide)
  omega
theorem OfC.length {l : RunL} {c : CtxL} (h : OfC l c) : c.length ≤ 4 * l.length := by
  refine h.right.length fun d h0 h4 => ?_
  have hr := (h.right.2 d h0 h4).1
  have hn := runsFrom_nodup hr
  have hs : ∀ x ∈ (partL c d).map (·.1), x ∈ l.map (·.2) := fun x hx => by
    obtain ⟨r, hr1, rfl⟩ := List.mem_map.1 hx
    have hi : InC c d r.1 := ⟨r, hr1, Int.le_refl _, (runsFrom_ge hr r hr1).2⟩
    exact List.mem_map.2 ⟨_, (h.mem d r.1 h0 h4).1 hi, rfl⟩
  have := short_of_sub hn hs
  simpa using this
theorem RightC.fits {c : CtxL} (h : RightC c) : FitsC c := fun s hs => by
  have hd : ∀ {c : CtxL} {lo : Int}, DcFrom lo c → ∀ s ∈ c, lo ≤ s.1 ∧ s.1 < 4 := by
    intro c
    induction c with
    | nil => intro lo _ s hs; cases hs
    | cons x c ih =>
      intro lo h s hs
      rcases List.mem_cons.1 hs with rfl | hs
      · exact ⟨h.1, h.2.1⟩
      · have := ih h.2.2 s hs
        have := h.1
        omega
  have h1 := hd h.1 s hs
  have h2 := (h.2 s.1 h1.1 h1.2)
  have hm : s.2 ∈ partL c s.1 := by
    unfold partL
    exact List.mem_map.2 ⟨s, List.mem_filter.2 ⟨hs, by simp⟩, rfl⟩
  have h3 := runsFrom_ge h2.1 s.2 hm
  have h4 := h2.2 s.2 hm
  omega
end Go.Proofs.YtggfoihfenlckaaGreat
/- span: Of: the walk. -/
namespace Go.Proofs.YtggfoihfenlckaaGreat
open Go.RowKit Go.Sort
def oneR (l : List Int) : RunL := l.map fun x => (x, x)
theorem oneR_take_succ {l : List Int} {k : Nat} (hk : k < l.length) : oneR (l.take (k + 1)) = oneR (l.take k) ++ [(l.getD k 0, l.getD k 0)] := by
  rw [take_succ 0 hk]; simp [oneR]
theorem inR_oneR (l : List Int) (n : Int) : InR (oneR l) n ↔ n ∈ l := by
  constructor
  · rintro ⟨r, hr, h⟩
    obtain ⟨x, hx, rfl⟩ := List.mem_map.1 hr
    have : n = x := by have h1 : x ≤ n := h.1; have h2 : n ≤ x := h.2; omega
    rw [this]; exact hx
  · exact fun h => ⟨(n, n), List.mem_map.2 ⟨n, h, rfl⟩, Int.le_refl _, Int.le_refl _⟩
set_option maxHeartbeats 2000000 in
set_option maxRecDepth 1000000 in
theorem sOf_ok (w : World) (v : Value) (l : List Int) (hv : NumAt w v l) (hl : l.length ≤ 100000) (hb : ∀ x ∈ l, 1 ≤ x ∧ x ≤ 1099511627776) :
    Calls Tryz.prog 188 #[v] w fun e w' => ∃ v' out, e = .returned (.tuple #[v', .int .i64 0]) ∧ OwnAt w w' 225 2 v' out.length (ruC out) ∧ RightR out ∧ (∀ n, InR out n ↔ n ∈ l) ∧ out.length ≤ l.length := by
  obtain ⟨i0, hi, hz0, hz1, hz2⟩ := info_parts info_srun
  obtain ⟨aA, cA, rfl⟩ := hv.sl
  have HH := Lib.hid hv; clear hv
  have HB := Lib.hid hb; clear hb
  have hone : (oneR l).length = l.length := by simp [oneR]
  have HONE := Lib.hid hone; clear hone
  have HL := Lib.hid hl; clear hl
  generalize hn : l.length = n at *
  have HN := Lib.hid hn; clear hn
  have eg : ∀ args w, (callFunc 202 args).run Tryz.prog w = .ok (.enter 202 args) w := enters_of Tryz.func202 (by kernel_rfl) rfl
  go_enter Tryz.func188, Tryz.ntmps188
  go_wp2
  go_loopw [4, 9] (fun v i ww => ∃ k : Nat, k ≤ n ∧ i = .int .i64 k ∧ OwnAt w ww 225 2 v k (ruC (oneR (l.take k)))) (fun _ i _ => n - (intOf i).toNat)
  case atStart => exact ⟨0, Nat.zero_le _, rfl, OwnAt.nil (Frm.refl _ _) _ _⟩
  case round =>
    obtain ⟨k, hk, rfl, ho⟩ := hrel
    obtain ⟨av, cv, rfl⟩ := ho.shape
    have HO := Lib.hid ho; clear ho
    by_cases hlt : k < n
    · rcases Rd.shape HH.out with ⟨ad, he, h0⟩ | ⟨b, off, cc, he, hmax⟩
      · exfalso; have := HN.out; omega
      · injection he with e1 e2 e3
        subst e1 e3
        clear e2
        rw [HN.out] at hmax
        have hlk : k < l.length := by rw [HN.out]; exact hlt
        have p0 := num_at HH.out HN.out.symm k hlk
        have q0 := HO.out.frm.cell' p0 id
        clear p0
        have hbx := HB.out _ (getD_mem 0 hlk)
        have hE := oneR_take_succ hlk
        generalize l.getD k 0 = x at *
        have HE := Lib.hid hE; clear hE
        have hnb : numB1 x = true := by unfold numB1; simpa using hbx
        have HNB := Lib.hid (fun W => hnb ▸ number_any x W); clear hnb
        have hk1 : k ≤ 100000 := Nat.le_trans hk HL.out
        go_wp2_with (first
          | (go_at_call 185; refine (HNB.out _).mono ?_; rintro e w1 ⟨rfl, hw1⟩; rw [hw1]; clear hw1 w1)
          | (at_builtin; go_loud (refine wpList_appO w _ [.int .i64 x, .int .i64 x] rfl (.tmp 16) (.tmp 20) 195 rfl 225 i0 _ 2 16 Tryz.underlying195 hi hz0 hz1 hz2 (by decide) (by decide) _ _ _ HO.out 1 1 rfl (by simp [Act.eval]) rfl (by simp [Value.oneCell']) (by simp only [maxLen]; omega) (by omega) ?_); intro ad2 cc2 w2 own2; have OW := Lib.hid own2; clear own2))
        go_roundw
        case rel => exact ⟨k + 1, by omega, by go_num, by rw [HE.out, ruC_append]; exact OW.out⟩
        case measure => simp [intOf]; omega
    · obtain rfl : n = k := by omega
      rw [List.take_of_length_le (by rw [HN.out]; exact Nat.le_refl _)] at HO
      have hbd : ∀ r ∈ oneR l, 1 ≤ r.1 ∧ r.1 ≤ r.2 ∧ r.2 ≤ 1099511627776 := fun r hr => by
        obtain ⟨x, hx, rfl⟩ := List.mem_map.1 hr
        have := HB.out x hx
        exact ⟨this.1, Int.le_refl _, this.2⟩
      have HBD := Lib.hid hbd; clear hbd
      have hl5 := HL.out
      go_wp2_with (first
        | (go_at_call 201; refine (sSort_any 202 eg sOf1_any _ _ _ n (oneR l) HO.out HONE.out (Nat.le_trans HL.out (by decide))).mono ?_; rintro e w3 ⟨rfl, l', hp, hs, ho3⟩; have HP := Lib.hid hp; clear hp; have HS := Lib.hid hs; clear hs; have HO3 := Lib.hid ho3; clear ho3)
        | (go_at_call 203; refine (sjoined_any _ _ l' (by have := HO3.out.rd; rw [← HONE.out, ← HP.out.length_eq] at this; rw [← HONE.out, ← HP.out.length_eq]; exact this) (by rw [HP.out.length_eq, HONE.out]; exact Nat.le_trans HL.out (by decide)) (joined_sorted HP.out HS.out HBD.out).2.2).mono ?_; rintro e w4 ⟨v4, rfl, ho4⟩; obtain ⟨a4, c4, rfl⟩ := ho4.shape; have HO4 := Lib.hid ho4; clear ho4))
      go_ret2
      have hj := joined_sorted HP.out HS.out HBD.out
      exact ⟨_, joinedL l', rfl, HO4.out.base HO3.out.frm, hj.1, fun x => by rw [hj.2.1, inR_oneR], Nat.le_trans (joinedL_length l') (by rw [HP.out.length_eq, HONE.out]; exact Nat.le_refl _)⟩
end Go.Proofs.YtggfoihfenlckaaGreat