/- Words for the law MsgSet: SortLay, SUnion, SUnion2, CBy, R7e, Tree, BunLaw. -/
import Derived.Test.YtcahemkomfaabaaGreatMsgSetG4
import Derived.Test.YtcahemkomfaabaaGreatMsgSetG5
import Derived.Shelf.SlSortCmp.WholeK
import Derived.Ground.SlsfProg
import Derived.Test.YtcahemkomfaabaaGreatProg
import Derived.Shelf.SlSortCmp.NoneTotal
import Derived.Lib.AppendZerosOnto
set_option linter.unusedSimpArgs false
set_option linter.unusedVariables false
set_option maxHeartbeats 32000000
set_option maxRecDepth 1000000
namespace Go.Proofs
open Go.Shelf
def Tryz.sortRun_ren : Go.Shelf.Ren := ⟨fun | 6 => 181 | 15 => 193 | 14 => 203 | 28 => 218 | 29 => 219 | 20 => 221 | 21 => 222 | 22 => 223 | 23 => 224 | 24 => 225 | 25 => 226 | 26 => 227 | 27 => 228 | 46 => 237 | 47 => 233 | 48 => 234 | 49 => 238 | 50 => 239 | 57 => 242 | n => n, fun | 22 => 188 | 24 => 194 | 25 => 240 | 3 => 3 | 39 => 139 | 0 => 0 | 53 => 56 | 55 => 138 | 4 => 4 | 46 => 266 | 45 => 265 | 50 => 150 | 5 => 5 | 9 => 9 | 66 => 281 | 70 => 285 | 76 => 290 | 77 => 291 | n => n, fun | n => n⟩
theorem Tryz.sortRun : Go.Proofs.SlLaysF0.n6 Tryz.prog Tryz.sortRun_ren := {
 mixed := by kernel_rfl
 f6 := ⟨Tryz.f181.name, by decide, Tryz.func181.trans (congrArg some (by kernel_rfl))⟩
 f14 := ⟨Tryz.f203.name, by decide, Tryz.func203.trans (congrArg some (by kernel_rfl))⟩
 f15 := Tryz.func193.trans (congrArg some (by kernel_rfl))
 f20 := ⟨Tryz.f221.name, by decide, Tryz.func221.trans (congrArg some (by kernel_rfl))⟩
 f21 := ⟨Tryz.f222.name, by decide, Tryz.func222.trans (congrArg some (by kernel_rfl))⟩
 f22 := ⟨Tryz.f223.name, by decide, Tryz.func223.trans (congrArg some (by kernel_rfl))⟩
 f23 := ⟨Tryz.f224.name, by decide, Tryz.func224.trans (congrArg some (by kernel_rfl))⟩
 f24 := ⟨Tryz.f225.name, by decide, Tryz.func225.trans (congrArg some (by kernel_rfl))⟩
 f25 := ⟨Tryz.f226.name, by decide, Tryz.func226.trans (congrArg some (by kernel_rfl))⟩
 f26 := ⟨Tryz.f227.name, by decide, Tryz.func227.trans (congrArg some (by kernel_rfl))⟩
 f27 := ⟨Tryz.f228.name, by decide, Tryz.func228.trans (congrArg some (by kernel_rfl))⟩
 f28 := Tryz.func218.trans (congrArg some (by kernel_rfl))
 f29 := Tryz.func219.trans (congrArg some (by kernel_rfl))
 f46 := ⟨Tryz.f237.name, by decide, Tryz.func237.trans (congrArg some (by kernel_rfl))⟩
 f47 := Tryz.func233.trans (congrArg some (by kernel_rfl))
 f48 := Tryz.func234.trans (congrArg some (by kernel_rfl))
 f49 := ⟨Tryz.f238.name, by decide, Tryz.func238.trans (congrArg some (by kernel_rfl))⟩
 f50 := ⟨Tryz.f239.name, by decide, Tryz.func239.trans (congrArg some (by kernel_rfl))⟩
 f57 := ⟨Tryz.f242.name, by decide, Tryz.func242.trans (congrArg some (by kernel_rfl))⟩
 t0 := Tryz.underlying0
 a0 := Tryz.isAgg0
 z0 := Tryz.sizeOf0
 v0 := Tryz.zeroValue0
 t3 := Tryz.underlying3
 a3 := Tryz.isAgg3
 z3 := Tryz.sizeOf3
 v3 := Tryz.zeroValue3
 t4 := Tryz.underlying4
 a4 := Tryz.isAgg4
 z4 := Tryz.sizeOf4
 v4 := Tryz.zeroValue4
 t5 := Tryz.underlying5
 a5 := Tryz.isAgg5
 z5 := Tryz.sizeOf5
 v5 := Tryz.zeroValue5
 t9 := Tryz.underlying9
 a9 := Tryz.isAgg9
 z9 := Tryz.sizeOf9
 v9 := Tryz.zeroValue9
 t22 := Tryz.underlying188
 a22 := Tryz.isAgg188
 z22 := Tryz.sizeOf188
 v22 := Tryz.zeroValue188
 t25 := Tryz.underlying240
 a25 := Tryz.isAgg240
 z25 := Tryz.sizeOf240
 v25 := Tryz.zeroValue240
 t39 := Tryz.underlying139
 a39 := Tryz.isAgg139
 z39 := Tryz.sizeOf139
 v39 := Tryz.zeroValue139
 t45 := Tryz.underlying265
 a45 := Tryz.isAgg265
 z45 := Tryz.sizeOf265
 v45 := Tryz.zeroValue265
 t46 := Tryz.underlying266
 a46 := Tryz.isAgg266
 z46 := Tryz.sizeOf266
 v46 := Tryz.zeroValue266
 t50 := Tryz.underlying150
 a50 := Tryz.isAgg150
 z50 := Tryz.sizeOf150
 v50 := Tryz.zeroValue150
 t53 := Tryz.underlying56
 a53 := Tryz.isAgg56
 z53 := Tryz.sizeOf56
 v53 := Tryz.zeroValue56
 t55 := Tryz.underlying138
 a55 := Tryz.isAgg138
 z55 := Tryz.sizeOf138
 v55 := Tryz.zeroValue138
 t66 := Tryz.underlying281
 a66 := Tryz.isAgg281
 z66 := Tryz.sizeOf281
 v66 := Tryz.zeroValue281
 t70 := Tryz.underlying285
 a70 := Tryz.isAgg285
 z70 := Tryz.sizeOf285
 v70 := Tryz.zeroValue285
 t76 := Tryz.underlying290
 a76 := Tryz.isAgg290
 z76 := Tryz.sizeOf290
 v76 := Tryz.zeroValue290
 t77 := Tryz.underlying291
 a77 := Tryz.isAgg291
 z77 := Tryz.sizeOf291
 v77 := Tryz.zeroValue291 }
end Go.Proofs
namespace Go.Proofs.YtcahemkomfaabaaGreat
open Go.RowKit Go.Sort
theorem sOf1_any (x y : Int × Int) (W : World) : Calls Tryz.prog 200 #[.agg #[.int .i64 x.1, .int .i64 x.2], .agg #[.int .i64 y.1, .int .i64 y.2]] W fun e w' => e = .returned (.int .i64 (cmpR x y)) ∧ ∃ q os', w' = grow (W.drewN q) os' := by
 unfold cmpR
 go_enter Tryz.func200, Tryz.ntmps200
 go_wp2_with (go_at_call 183; refine (cmp64_any _ _ _).mono ?_; rintro e w' ⟨rfl, rfl⟩)
 go_ret
 exact ⟨rfl, 0, _, by rw [alloc_eq_grow, alloc_eq_grow, grow_grow]; rfl⟩
theorem sSort_any (g : Nat) (eg : ∀ args w, (callFunc g args).run Tryz.prog w = .ok (.enter g args) w)
 (hg : ∀ x y W, Calls Tryz.prog g #[.agg #[.int .i64 x.1, .int .i64 x.2], .agg #[.int .i64 y.1, .int .i64 y.2]] W fun e w' => e = .returned (.int .i64 (cmpR x y)) ∧ ∃ q os', w' = grow (W.drewN q) os')
 (w0 w : World) (v : Value) (n : Nat) (l : RunL) (h : OwnAt w0 w 194 2 v n (ruC l)) (hl : l.length = n) (hn : n ≤ 1000000) :
 Calls Tryz.prog 181 #[v, .func (.func g) #[] #[]] w fun e w' => e = .returned (.tuple #[]) ∧ ∃ l' : RunL, l'.Perm l ∧ l'.Pairwise (fun a b => a.1 ≤ b.1) ∧ OwnAt w0 w' 194 2 v n (ruC l') := by
 rcases Nat.eq_zero_or_pos n with rfl | h0
 · obtain ⟨a, c, rfl⟩ := h.shape
   obtain rfl : l = [] := List.eq_nil_of_length_eq_zero hl
   exact (AnyF.slices_SortFunc_none Tryz.sortRun a c _ w).mono fun _ _ ⟨he, hw⟩ => ⟨he, [], List.Perm.refl _, List.Pairwise.nil, by rw [hw]; exact h⟩
 · obtain ⟨g', c', rfl, _, hlt, _⟩ := h.row h0
   have hc := AnyQ.slices_SortFunc Tryz.sortRun 2 Tryz.isAgg194 Tryz.sizeOf194 encR (fun _ => rfl) (fun x v hv => by simp [encR] at hv; rcases hv with rfl | rfl <;> rfl) cmpR swoR g #[] g' 0 c' l.toArray w eg (fun _ _ _ _ x y => hg x y _) (h.holdsK h0 hl) hlt (by simp; omega)
   have hs : l.toArray.size = n := by simpa using hl
   rw [hs] at hc
   refine Calls.mono hc fun e w' ⟨he, d', m, os, hp, hq, hw⟩ => ⟨he, d'.toList, ?_, ?_, ?_⟩
   · have := perm_list (d := l.toArray) (d' := d') (by rw [hs]; exact hp)
     simpa using this
   · have e1 : d'.size = n := by rw [hp.1, hs]
     exact sorted_list (by rw [e1]; exact hq)
   · rw [hw]
     exact h.sorted d' (by rw [hp.1, hs]) h0 m os
theorem joined_sorted {l l' : RunL} (hp : l'.Perm l) (hs : l'.Pairwise (fun a b => a.1 ≤ b.1)) (hb : ∀ r ∈ l, 1 ≤ r.1 ∧ r.1 ≤ r.2 ∧ r.2 ≤ 1099511627776) : RightR (joinedL l') ∧ (∀ n, InR (joinedL l') n ↔ InR l n) ∧ ∀ r ∈ l', Bd r := by
 have hb' : ∀ r ∈ l', 1 ≤ r.1 ∧ r.1 ≤ r.2 ∧ r.2 ≤ 1099511627776 := fun r hr => hb r (hp.mem_iff.1 hr)
 have hri : Rising 1 l' := Rising.of_pairwise hs fun r hr => ⟨(hb' r hr).1, (hb' r hr).2.1⟩
 have hm : ∀ n, InR (joinedL l') n ↔ InR l n := fun n => by
  rw [joinedL_mem hri]
  exact ⟨fun ⟨r, hr, h⟩ => ⟨r, hp.mem_iff.1 hr, h⟩, fun ⟨r, hr, h⟩ => ⟨r, hp.mem_iff.2 hr, h⟩⟩
 refine ⟨RightR.of (joinedL_from hri) fun n hn => ?_, hm, fun r hr => by have := hb' r hr; unfold Bd; omega⟩
 obtain ⟨r, hr, h⟩ := (hm n).1 hn
 have := hb r hr
 omega
theorem jn_length : ∀ (l : RunL) (c : Int × Int), (jn c l).length ≤ l.length + 1
 | [], c => by simp [jn]
 | r :: l, c => by
  unfold jn
  split
  · have := jn_length l (c.1, max c.2 r.2); simp only [List.length_cons]; omega
  · have := jn_length l r; simp only [List.length_cons]; omega
theorem joinedL_length (l : RunL) : (joinedL l).length ≤ l.length := by
 cases l with
 | nil => exact Nat.le_refl _
 | cons r l => exact jn_length l r
end Go.Proofs.YtcahemkomfaabaaGreat
namespace Go.Proofs.YtcahemkomfaabaaGreat
open Go.RowKit Go.Sort
def RunFun (g : Nat) (how : Int) : Prop := ∀ (w : World) (va vb : Value) (a b : RunL), RunAt w va a → RunAt w vb b → RightR a → RightR b → a.length ≤ 20000 → b.length ≤ 20000 →
 Calls Tryz.prog g #[va, vb] w fun e w' => ∃ v' out, e = .returned v' ∧ OwnAt w w' 194 2 v' out.length (ruC out) ∧ RightR out ∧ (∀ n, InR out n ↔ ByIn how (InR a n) (InR b n)) ∧ out.length ≤ 200000
theorem short_of_sub : ∀ {s l : List Int}, s.Nodup → (∀ x ∈ s, x ∈ l) → s.length ≤ l.length
 | [], _, _, _ => Nat.zero_le _
 | x :: s, l, hn, h => by
  have hx := h x List.mem_cons_self
  have hn2 := List.nodup_cons.1 hn
  have := short_of_sub (s := s) (l := l.erase x) hn2.2 fun y hy => (List.mem_erase_of_ne (by intro e; subst e; exact hn2.1 hy)).2 (h y (List.mem_cons_of_mem _ hy))
  rw [List.length_erase_of_mem hx] at this
  have hl : 0 < l.length := List.length_pos_of_mem hx
  simp only [List.length_cons]
  omega
theorem minusIn_starts : ∀ (b : RunL) (lo hi : Int) (r : Int × Int), r ∈ minusIn lo hi b → r.1 = lo ∨ ∃ x ∈ b, r.1 = x.2 + 1
 | [], lo, hi, r, h => by
  have h : r ∈ (if lo ≤ hi then [(lo, hi)] else [] : RunL) := h
  split at h
  · simp at h; subst h; exact .inl rfl
  · cases h
 | x :: b, lo, hi, r, h => by
  have h : r ∈ (if x.2 < lo ∨ hi < x.1 then minusIn lo hi b else (if lo < x.1 then [(lo, x.1 - 1)] else []) ++ minusIn (x.2 + 1) hi b) := h
  split at h
  · rcases minusIn_starts b lo hi r h with h | ⟨y, hy, h⟩
    · exact .inl h
    · exact .inr ⟨y, List.mem_cons_of_mem _ hy, h⟩
  · rcases List.mem_append.1 h with h | h
    · split at h
      · simp at h; subst h; exact .inl rfl
      · cases h
    · rcases minusIn_starts b _ hi r h with h | ⟨y, hy, h⟩
      · exact .inr ⟨x, List.mem_cons_self, h⟩
      · exact .inr ⟨y, List.mem_cons_of_mem _ hy, h⟩
theorem runsFrom_nodup : ∀ {l : RunL} {lo : Int}, RunsFrom lo l → (l.map (·.1)).Nodup
 | [], _, _ => List.nodup_nil
 | r :: l, lo, h => by
  rw [List.map_cons, List.nodup_cons]
  refine ⟨fun hm => ?_, runsFrom_nodup h.2.2⟩
  obtain ⟨x, hx, he⟩ := List.mem_map.1 hm
  have := runsFrom_ge h.2.2 x hx
  have := h.2.1
  omega
theorem minusL_length {a b : RunL} (ra : RightR a) (rb : RightR b) : (minusL a b).length ≤ a.length + b.length := by
 have hn := runsFrom_nodup (minusL_from a b 1 1 ra.1 rb.1)
 have := short_of_sub (l := a.map (·.1) ++ b.map (fun x => x.2 + 1)) hn fun x hx => by
  obtain ⟨r, hr, rfl⟩ := List.mem_map.1 hx
  obtain ⟨y, hy, hr⟩ := List.mem_flatMap.1 hr
  rcases minusIn_starts b y.1 y.2 r hr with h | ⟨z, hz, h⟩
  · exact List.mem_append_left _ (List.mem_map.2 ⟨y, hy, h.symm⟩)
  · exact List.mem_append_right _ (List.mem_map.2 ⟨z, hz, h.symm⟩)
 simpa using this
theorem minus_fun : RunFun 170 2 := fun w va vb a b ha hb ra rb la lb =>
 (sMinus_any w va vb a b ha hb ra rb la lb).mono fun _ _ ⟨v', h1, h2⟩ => ⟨v', minusL a b, h1, h2, RightR.of (minusL_from a b 1 1 ra.1 rb.1) fun n hn => (ra.in_ ((minusL_mem a b 1 n rb.1).1 hn).1).2, fun n => by rw [minusL_mem a b 1 n rb.1]; unfold ByIn; simp, by have := minusL_length ra rb; omega⟩
structure ByUp (how : Int) (a b : CtxL) (k : Nat) (p : Nat → RunL) : Prop where
 done : ∀ d, d < k → RightR (p d) ∧ (∀ n, InR (p d) n ↔ ByIn how (InC a d n) (InC b d n)) ∧ (p d).length ≤ 200000
 todo : ∀ d, k ≤ d → d < 4 → p d = partL a d
theorem ByUp.byC {how : Int} {a b : CtxL} {p : Nat → RunL} (h : ByUp how a b 4 p) : ByC how a b (wholeL fun d => p d.toNat) := by
 refine ByC.whole (fun d h0 h4 => ?_) fun d n h0 h4 => ?_
 · exact (h.done d.toNat (by omega)).1
 · have := (h.done d.toNat (by omega)).2.1 n
   rwa [Int.toNat_of_nonneg h0] at this
structure ParIn (w0 w : World) (pb : Nat) (A : Nat → Sl) (p : Nat → RunL) : Prop where
 blk : w.heap[pb]? = some (.cells #[.slice (A 0).1 (A 0).2.1 (A 0).2.2, .slice (A 1).1 (A 1).2.1 (A 1).2.2, .slice (A 2).1 (A 2).2.1 (A 2).2.2, .slice (A 3).1 (A 3).2.1 (A 3).2.2] 190 (0, 0))
 new : w0.heap.size ≤ pb
 own : ∀ d, d < 4 → OwnBut (fun k => k = pb) w0 w 194 2 (.slice (A d).1 (A d).2.1 (A d).2.2) (p d).length (ruC (p d))
theorem ParIn.cell {w0 w : World} {pb : Nat} {A : Nat → Sl} {p : Nat → RunL} (h : ParIn w0 w pb A p) {d : Nat} (hd : d < 4) : w.cell? ⟨pb, d, none⟩ = some (.slice (A d).1 (A d).2.1 (A d).2.2) := by
 refine cell_at' h.blk d ?_
 rcases (by omega : d = 0 ∨ d = 1 ∨ d = 2 ∨ d = 3) with rfl | rfl | rfl | rfl <;> rfl
theorem ParIn.keep {w0 w w' : World} {pb : Nat} {A : Nat → Sl} {p : Nat → RunL} (h : ParIn w0 w pb A p) (f : Frm NoS w w') : ParIn w0 w' pb A p :=
 ⟨f.blk h.blk id, h.new, fun d hd => (h.own d hd).keep f⟩
theorem ParIn.start {w0 w : World} {A : Nat → Sl} {p : Nat → RunL} (h : PartsAt w0 w (fun d => .slice (A d).1 (A d).2.1 (A d).2.2) p) :
 ParIn w0 (w.alloc (.cells #[.slice (A 0).1 (A 0).2.1 (A 0).2.2, .slice (A 1).1 (A 1).2.1 (A 1).2.2, .slice (A 2).1 (A 2).2.1 (A 2).2.2, .slice (A 3).1 (A 3).2.1 (A 3).2.2] 190)) w.heap.size A p :=
 ⟨heap_alloc_new w _, (h.own 0 (by omega)).frm.size, fun d hd => (h.own d hd).away (Frm.alloc _ _ _) fun k hk => by rw [hk]; exact Nat.le_refl _⟩
theorem ParIn.set {w0 w w' : World} {pb : Nat} {A : Nat → Sl} {p : Nat → RunL} (h : ParIn w0 w pb A p) {d : Nat} (hd : d < 4) {t : Sl} {out : RunL} (ho : OwnAt w w' 194 2 (.slice t.1 t.2.1 t.2.2) out.length (ruC out)) :
 ParIn w0 (w'.setCell ⟨pb, d, none⟩ (.slice t.1 t.2.1 t.2.2)) pb (upd A d t) (upd p d out) := by
 have hk := h.keep ho.frm
 have hs := set_at' hk.blk d (.slice t.1 t.2.1 t.2.2)
 refine ⟨?_, h.new, fun c hc => ?_⟩
 · rw [hs]
   rcases (by omega : d = 0 ∨ d = 1 ∨ d = 2 ∨ d = 3) with rfl | rfl | rfl | rfl <;> rfl
 · by_cases he : c = d
   · subst he
     rw [upd_same, upd_same]
     have hb : OwnBut (fun k => k = pb) w0 w' 194 2 (.slice t.1 t.2.1 t.2.2) out.length (ruC out) :=
      ⟨⟨ho.own, fun k hk2 => by have := ho.new k hk2; have := (h.own c hc).at_.frm.size; omega, (h.own c hc).at_.frm.then1 ho.frm⟩, fun k hk2 hp => by have := ho.new k hk2; have := lt_of_block h.blk; omega⟩
     exact hb.set rfl h.new _
   · rw [upd_other _ _ he, upd_other _ _ he]
     exact (hk.own c hc).set rfl h.new _
theorem cby_ok (g : Nat) (how : Int) (eg : ∀ args w, (callFunc g args).run Tryz.prog w = .ok (.enter g args) w) (HG : RunFun g how)
 (w : World) (va vb : Value) (a b : CtxL) (ha : CtxAt w va a) (hb : CtxAt w vb b) (fa : FitsC a) (fb : FitsC b) (ra : RightC a) (rb : RightC b) (la : a.length ≤ 20000) (lb : b.length ≤ 20000) :
 Calls Tryz.prog 148 #[va, vb, .func (.func g) #[] #[]] w fun e w' => ∃ v' c, e = .returned v' ∧ OwnAt w w' 122 3 v' c.length (spC c) ∧ ByC how a b c ∧ c.length ≤ 800000 := by
 obtain ⟨aA, cA, rfl⟩ := ha.sl
 obtain ⟨aB, cB, rfl⟩ := hb.sl
 have HA := Lib.hid (fun w' (h : Frm NoS w w') => capart_any w' _ a (Rd.keep0 ha h) fa (by omega))
 have HB := Lib.hid (fun w' (h : Frm NoS w w') => capart_any w' _ b (Rd.keep0 hb h) fb (by omega))
 have LA := Lib.hid (fun d => Nat.le_trans (partL_length_le a d) la)
 have LB := Lib.hid (fun d => Nat.le_trans (partL_length_le b d) lb)
 have RA := Lib.hid ra; clear ra
 have RB := Lib.hid rb; clear rb
 have HGG := Lib.hid HG; clear HG
 clear ha hb fa fb la lb
 go_enter Tryz.func148, Tryz.ntmps148
 go_wp2_with (first
  | (go_at_call_of 135 aA; refine (HA.out _ (Frm.refl _ _)).mono ?_; rintro e w1 ⟨hf1, hp1, -⟩; obtain ⟨A, rfl, hvs⟩ := hp1 RA.out; clear hp1; have HF1 := Lib.hid hf1; clear hf1; have HVS := Lib.hid hvs; clear hvs)
  | (go_at_call_of 135 aB; refine (HB.out _ (HF1.out.alloc1)).mono ?_; rintro e w2 ⟨hf2, hp2, -⟩; obtain ⟨B, rfl, hus⟩ := hp2 RB.out; clear hp2; have HF2 := Lib.hid hf2; clear hf2; have HUS := Lib.hid hus; clear hus))
 have HP0 := Lib.hid (((ParIn.start HVS.out).keep HF2.out).keep (Frm.alloc NoS w2 (.cells #[.slice (B 0).1 (B 0).2.1 (B 0).2.2, .slice (B 1).1 (B 1).2.1 (B 1).2.2, .slice (B 2).1 (B 2).2.1 (B 2).2.2, .slice (B 3).1 (B 3).2.1 (B 3).2.2] 190)))
 have HQ0 := Lib.hid (ParIn.start HUS.out)
 have hpq : w1.heap.size < w2.heap.size := by have := HF2.out.size; simp at this; omega
 have HPQ := Lib.hid hpq; clear hpq
 clear HVS HUS HA HB
 go_loopw [28] (fun i ww => ∃ (k : Nat) (A' : Nat → Sl) (p : Nat → RunL), k ≤ 4 ∧ i = .int .i64 k ∧ ParIn w ww w1.heap.size A' p ∧ ByUp how a b k p ∧
  Frm (fun k => k = w1.heap.size) (w2.alloc (.cells #[.slice (B 0).1 (B 0).2.1 (B 0).2.2, .slice (B 1).1 (B 1).2.1 (B 1).2.2, .slice (B 2).1 (B 2).2.1 (B 2).2.2, .slice (B 3).1 (B 3).2.1 (B 3).2.2] 190)) ww) (fun i _ => 4 - (intOf i).toNat)
 case atStart => exact ⟨0, A, fun d => partL a d, by omega, rfl, HP0.out, ⟨fun d hd => by omega, fun d _ _ => rfl⟩, Frm.refl _ _⟩
 case round =>
  obtain ⟨k, A', p, hk, rfl, hp, hbu, hfq⟩ := hrel
  have HP := Lib.hid hp; clear hp
  have HBU := Lib.hid hbu; clear hbu
  have HFQ := Lib.hid hfq; clear hfq
  by_cases hlt : k < 4
  · have hki : (k : Int) < 4 := by omega
    have hkd : decide ((k : Int) < 4) = true := by simpa using hki
    have hpc := HP.out.cell hlt
    have hqc := HFQ.out.cell' (HQ0.out.cell hlt) (fun h => by have := HPQ.out; have h : w2.heap.size = w1.heap.size := h; omega)
    have hqo := Rd.keep (HQ0.out.own k hlt).at_.rd HFQ.out (fun j hj h => by have := (HQ0.out.own k hlt).at_.new j hj; have := HPQ.out; have := HF2.out.size; have h : j = w1.heap.size := h; simp at *; omega)
    have htd := HBU.out.todo k (Nat.le_refl _) hlt
    have hpo := (HP.out.own k hlt).at_.rd
    rw [htd] at hpo
    have HPO := Lib.hid hpo; clear hpo htd
    have HQO := Lib.hid hqo; clear hqo
    have HCL := Lib.hid (fun w' (h : Frm NoS wr w') => HGG.out w' _ _ (partL a k) (partL b k) (HPO.out.keep0 h) (HQO.out.keep0 h) (RA.out.2 k (by omega) (by omega)) (RB.out.2 k (by omega) (by omega)) (LA.out k) (LB.out k))
    generalize A' k = t at *
    generalize B k = u at *
    have hst : Frm NoS wr wr.drew := Frm.drew _ _
    go_wp2_with fail
    refine wp_region_G (S := fun w' => w'.cell? ⟨w1.heap.size, k, none⟩ = some (.slice t.1 t.2.1 t.2.2) ∧ w'.cell? ⟨w2.heap.size, k, none⟩ = some (.slice u.1 u.2.1 u.2.2)) 10 (by kernel_rfl) ⟨hpc, hqc⟩ ?_
    intro hS
    refine tkG 0 31 rfl rfl (v := ?_) (.inl ⟨by rfl, ?_⟩) ?_
    rotate_left 1
    · (intro w hSw; (try dsimp only at hSw); go_simp; (try with_reducible rfl))
    refine tkG 1 32 rfl rfl (v := ?_) (.inl ⟨by rfl, ?_⟩) ?_
    rotate_left 1
    · (intro w hSw; (try dsimp only at hSw); go_simp; (try with_reducible rfl))
    try simp only [Act.put, List.setIfInBounds_toArray, List.set_cons_zero, List.set_cons_succ]
    refine tkG 2 33 rfl rfl (v := ?_) (.inl ⟨by rfl, ?_⟩) ?_
    rotate_left 1
    · (intro w hSw; (try dsimp only at hSw); go_simp; (try with_reducible rfl))
    refine tkG 3 34 rfl rfl (v := ?_) (.inl ⟨by rfl, ?_⟩) ?_
    rotate_left 1
    · (intro w hSw; (try dsimp only at hSw); go_simp; (try with_reducible rfl))
    try simp only [Act.put, List.setIfInBounds_toArray, List.set_cons_zero, List.set_cons_succ]
    refine tkG 4 35 rfl rfl (v := ?_) (.inl ⟨by rfl, ?_⟩) ?_
    rotate_left 1
    · (intro w hSw; (try dsimp only at hSw); go_simp; (try with_reducible rfl))
    refine tkG 5 36 rfl rfl (v := ?_) (.inl ⟨by rfl, ?_⟩) ?_
    rotate_left 1
    · (intro w hSw; (try dsimp only at hSw); go_simp; (try with_reducible rfl))
    try simp only [Act.put, List.setIfInBounds_toArray, List.set_cons_zero, List.set_cons_succ]
    refine tkG 6 37 rfl rfl (v := ?_) (.inl ⟨by rfl, ?_⟩) ?_
    rotate_left 1
    · (intro w hSw; (try dsimp only at hSw); go_simp; (try with_reducible rfl))
    refine tkG 7 38 rfl rfl (v := ?_) (.inl ⟨by rfl, ?_⟩) ?_
    rotate_left 1
    · (intro w hSw; (try dsimp only at hSw); go_simp; (try with_reducible rfl))
    try simp only [Act.put, List.setIfInBounds_toArray, List.set_cons_zero, List.set_cons_succ]
    refine one_opG (i := 8) (by kernel_rfl) rfl (fun K hK => ?_)
    go_simp
    refine (HCL.out _ hst).mono ?_
    rintro e w3 ⟨v3, out, rfl, ho3, hr3, hm3, hl3⟩
    obtain ⟨a3, c3, rfl⟩ := ho3.shape
    have HO3 := Lib.hid ho3; clear ho3
    have HR3 := Lib.hid hr3; clear hr3
    have HM3 := Lib.hid hm3; clear hm3
    have HL3 := Lib.hid hl3; clear hl3
    have hS3 : w3.cell? ⟨w1.heap.size, k, none⟩ = some (.slice t.1 t.2.1 t.2.2) ∧ w3.cell? ⟨w2.heap.size, k, none⟩ = some (.slice u.1 u.2.1 u.2.2) := ⟨HO3.out.frm.cell' hS.1 id, HO3.out.frm.cell' hS.2 id⟩
    refine hK.out _ _ hS3 ?_
    clear hK K
    try simp only [Act.put, List.setIfInBounds_toArray, List.set_cons_zero, List.set_cons_succ]
    refine tkG 9 40 rfl rfl (v := ?_) (.inl ⟨by rfl, ?_⟩) ?_
    rotate_left 1
    · (intro w hSw; (try dsimp only at hSw); go_simp; (try with_reducible rfl))
    try simp only [Act.put, List.setIfInBounds_toArray, List.set_cons_zero, List.set_cons_succ]
    refine last_opG (by kernel_rfl) (by kernel_rfl) rfl (fun K hK => ?_)
    have hcz := hS3.1
    have hfz : w3.frozen? ⟨w1.heap.size, k, none⟩ = false := free_at' ((HP.out.keep hst).keep HO3.out.frm).blk k
    have HSET := Lib.hid ((HP.out.keep hst).set hlt (t := (a3, out.length, c3)) HO3.out)
    clear hS hS3 hpc hqc
    go_simp
    refine hK.out _ _ ?_
    clear hK K hcz hfz
    go_wp2
    go_roundw
    case rel => exact ⟨k + 1, _, _, by omega, by go_num, HSET.out, ⟨fun d hd => by
     by_cases he : d = k
     · subst he; rw [upd_same]; exact ⟨HR3.out, HM3.out, HL3.out⟩
     · rw [upd_other _ _ he]; exact HBU.out.done d (by omega), fun d h1 h2 => by
     rw [upd_other _ _ (by omega)]; exact HBU.out.todo d (by omega) h2⟩, ((HFQ.out.then1 hst).then1 HO3.out.frm).trans (Frm.setCell (S := fun k => k = w1.heap.size) w3 (p := ⟨w1.heap.size, k, none⟩) (.inl rfl) _) fun _ _ h => h⟩
    case measure => simp [intOf]; omega
  · obtain rfl : k = 4 := by omega
    have c0 : wr.cell? ⟨w1.heap.size, 0, none⟩ = some (.slice (A' 0).1 (A' 0).2.1 (A' 0).2.2) := HP.out.cell (by omega)
    have c1 : wr.cell? ⟨w1.heap.size, 1, none⟩ = some (.slice (A' 1).1 (A' 1).2.1 (A' 1).2.2) := HP.out.cell (by omega)
    have c2 : wr.cell? ⟨w1.heap.size, 2, none⟩ = some (.slice (A' 2).1 (A' 2).2.1 (A' 2).2.2) := HP.out.cell (by omega)
    have c3 : wr.cell? ⟨w1.heap.size, 3, none⟩ = some (.slice (A' 3).1 (A' 3).2.1 (A' 3).2.2) := HP.out.cell (by omega)
    go_wp2_with (go_at_call 169; refine (cwhole_any _ A' p (fun d hd => (HP.out.own d hd).at_.rd) (fun d hd => (HBU.out.done d hd).2.2)).mono ?_; rintro e w3 ⟨v3, c, rfl, ho3, hc3, hl3⟩; obtain ⟨a3, k3, rfl⟩ := ho3.shape; have HO3 := Lib.hid ho3; clear ho3; have HC3 := Lib.hid hc3; clear hc3; have HL3 := Lib.hid hl3; clear hl3)
    go_ret
    exact ⟨_, c, rfl, HO3.out.base (HP.out.own 0 (by omega)).at_.frm, by rw [HC3.out]; exact HBU.out.byC, HL3.out⟩
theorem enters_minus : ∀ args w, (callFunc 170 args).run Tryz.prog w = .ok (.enter 170 args) w := enters_of Tryz.func170 (by kernel_rfl) rfl
theorem cMinus_ok (w : World) (va vb : Value) (a b : CtxL) (ha : CtxAt w va a) (hb : CtxAt w vb b) (fa : FitsC a) (fb : FitsC b) (ra : RightC a) (rb : RightC b) (la : a.length ≤ 20000) (lb : b.length ≤ 20000) :
 Calls Tryz.prog 133 #[va, vb] w fun e w' => ∃ v' c, e = .returned v' ∧ OwnAt w w' 122 3 v' c.length (spC c) ∧ ByC 2 a b c ∧ c.length ≤ 800000 := by
 have HC := Lib.hid (cby_ok _ 2 enters_minus minus_fun w va vb a b ha hb fa fb ra rb la lb)
 clear ha hb fa fb ra rb la lb
 go_enter Tryz.func133, Tryz.ntmps133
 go_wp2_with (go_at_call 148; refine HC.out.mono ?_; rintro e w1 ⟨v1, c, rfl, ho1, hby, hol⟩; obtain ⟨a1, c1, rfl⟩ := ho1.shape; have HO1 := Lib.hid ho1; clear ho1; have HB := Lib.hid hby; clear hby; have HL := Lib.hid hol; clear hol)
 go_ret
 exact ⟨_, c, rfl, HO1.out, HB.out, HL.out⟩
theorem cRight_any (w : World) (v : Value) (c : CtxL) (hv : CtxAt w v c) (hf : FitsC c) (hl : c.length ≤ 100000) :
 Calls Tryz.prog 128 #[v] w fun e w' => e = .returned (.bool (tf (RightC c))) ∧ Frm NoS w w' := by
 have HC := Lib.hid (capart_any w v c hv hf hl)
 obtain ⟨aA, cA, rfl⟩ := hv.sl
 clear hv hf hl
 by_cases hr : RightC c
 · rw [tf_true hr]
   go_enter Tryz.func128, Tryz.ntmps128
   go_wp2_with (go_at_call 135; refine HC.out.mono ?_; rintro e w1 ⟨hf1, hp1, -⟩; obtain ⟨A, rfl, -⟩ := hp1 hr; clear hp1; have HF1 := Lib.hid hf1; clear hf1)
   go_ret
   exact ⟨rfl, HF1.out.alloc1⟩
 · rw [tf_false hr]
   go_enter Tryz.func128, Tryz.ntmps128
   go_wp2_with (go_at_call 135; refine HC.out.mono ?_; rintro e w1 ⟨hf1, -, hp1⟩; obtain rfl := hp1 hr; clear hp1; have HF1 := Lib.hid hf1; clear hf1)
   go_ret
   exact ⟨rfl, HF1.out.alloc1⟩
theorem cLeq_any (w : World) (va vb : Value) (a b : CtxL) (ha : CtxAt w va a) (hb : CtxAt w vb b) (fa : FitsC a) (fb : FitsC b) (la : a.length ≤ 20000) (lb : b.length ≤ 20000) :
 Calls Tryz.prog 87 #[va, vb] w fun e w' => e = .returned (.bool (tf (RightC a ∧ RightC b ∧ LeqC a b))) ∧ Frm NoS w w' := by
 obtain ⟨aA, cA, rfl⟩ := ha.sl
 obtain ⟨aB, cB, rfl⟩ := hb.sl
 have HRA := Lib.hid (cRight_any w _ a ha fa (by omega))
 have HRB := Lib.hid (fun w' (h : Frm NoS w w') => cRight_any w' _ b (Rd.keep0 hb h) fb (by omega))
 have HCM := Lib.hid (fun w' (h : Frm NoS w w') ra rb => cMinus_ok w' _ _ a b (Rd.keep0 ha h) (Rd.keep0 hb h) fa fb ra rb la lb)
 clear ha hb fa fb la lb
 by_cases ra : RightC a
 · rw [tf_true ra] at HRA
   by_cases rb : RightC b
   · rw [tf_true rb] at HRB
     have RA := Lib.hid ra
     have RB := Lib.hid rb
     have hall : tf (RightC a ∧ RightC b ∧ LeqC a b) = tf (LeqC a b) := tf_congr ⟨fun h => h.2.2, fun h => ⟨ra, rb, h⟩⟩
     rw [hall]
     clear ra rb hall
     go_enter Tryz.func87, Tryz.ntmps87
     go_wp2_with (first
      | (go_at_call_of 128 aA; refine HRA.out.mono ?_; rintro e w1 ⟨rfl, hw1⟩; have HW1 := Lib.hid hw1; clear hw1)
      | (go_at_call_of 128 aB; refine (HRB.out _ HW1.out).mono ?_; rintro e w2 ⟨rfl, hw2⟩; have HW2 := Lib.hid (HW1.out.then1 hw2); clear hw2)
      | (go_at_call 133; refine (HCM.out _ HW2.out RA.out RB.out).mono ?_; rintro e w3 ⟨v3, c, rfl, ho3, hby, hol⟩; obtain ⟨a3, c3, rfl⟩ := ho3.shape; have HO3 := Lib.hid ho3; clear ho3; have HB := Lib.hid hby; clear hby; clear hol))
     go_ret
     refine ⟨ret_bool (tf_bool ?_), HW2.out.then1 HO3.out.frm⟩
     rw [← HB.out.minus_nil]
     simp
   · rw [tf_false rb] at HRB
     rw [tf_false fun h => rb h.2.1]
     clear ra rb
     go_enter Tryz.func87, Tryz.ntmps87
     go_wp2_with (first
      | (go_at_call_of 128 aA; refine HRA.out.mono ?_; rintro e w1 ⟨rfl, hw1⟩; have HW1 := Lib.hid hw1; clear hw1)
      | (go_at_call_of 128 aB; refine (HRB.out _ HW1.out).mono ?_; rintro e w2 ⟨rfl, hw2⟩; have HW2 := Lib.hid (HW1.out.then1 hw2); clear hw2))
     go_ret
     exact ⟨rfl, HW2.out⟩
 · rw [tf_false ra] at HRA
   rw [tf_false fun h => ra h.1]
   clear ra
   go_enter Tryz.func87, Tryz.ntmps87
   go_wp2_with (go_at_call_of 128 aA; refine HRA.out.mono ?_; rintro e w1 ⟨rfl, hw1⟩; have HW1 := Lib.hid hw1; clear hw1)
   go_ret
   exact ⟨rfl, HW1.out⟩
def numsL (l : RunL) (d : Int) : List Int := (l.filter fun r => r.1 == d).map (·.2)
theorem numsL_take_succ {l : RunL} {k : Nat} (d : Int) (hk : k < l.length) : numsL (l.take (k + 1)) d = numsL (l.take k) d ++ (if (l.getD k (0, 0)).1 = d then [(l.getD k (0, 0)).2] else []) := by
 rw [take_succ (0, 0) hk]
 unfold numsL
 rw [List.filter_append, List.map_append]
 congr 1
 generalize l.getD k (0, 0) = r
 by_cases h : r.1 = d
 · rw [if_pos h, List.filter_cons_of_pos (by simpa using h)]; rfl
 · rw [if_neg h, List.filter_cons_of_neg (by simpa using h)]; rfl
theorem numsL_mem {l : RunL} {d n : Int} : n ∈ numsL l d ↔ (d, n) ∈ l := by
 unfold numsL
 simp only [List.mem_map, List.mem_filter]
 constructor
 · rintro ⟨r, ⟨hr, he⟩, rfl⟩
   have : r.1 = d := by simpa using he
   subst this
   exact hr
 · intro h
   exact ⟨(d, n), ⟨h, by simp⟩, rfl⟩
theorem numsL_length_le (l : RunL) (d : Int) : (numsL l d).length ≤ l.length := by
 unfold numsL; rw [List.length_map]; exact List.length_filter_le _ _
def DotsOk (l : RunL) : Prop := ∀ r ∈ l, 0 ≤ r.1 ∧ r.1 < 4 ∧ 1 ≤ r.2 ∧ r.2 ≤ 1099511627776
def OfR (l : RunL) (d : Int) (o : RunL) : Prop := RightR o ∧ ∀ n, InR o n ↔ (d, n) ∈ l
theorem UpTo.ofC {l : RunL} {c : CtxL} (h : UpTo (OfR l) 4 c) : OfC l c :=
 ⟨⟨h.rise, fun d h0 h4 => (h.parts d h0 h4).1⟩, fun d n h0 h4 => (h.parts d h0 h4).2 n⟩
theorem OfInv.ofR {l : RunL} (hl : DotsOk l) {d : Int} {o : RunL} (h : OfInv (numsL l d) o none) : OfR l d o := by
 have hm : ∀ n, InR o n ↔ (d, n) ∈ l := fun n => by
  rw [h.none_ rfl n, numsL_mem]
  exact ⟨fun h => h.2, fun h => ⟨by have := hl _ h; show 0 < n; have : 1 ≤ n := this.2.2.1; omega, h⟩⟩
 exact ⟨RightR.of h.from_ fun n hn => (hl _ ((hm n).1 hn)).2.2.2, hm⟩
theorem numsL_bd {l : RunL} (hl : DotsOk l) (d : Int) : ∀ x ∈ numsL l d, 1 ≤ x ∧ x ≤ 1099511627777 := fun x hx => by
 have := hl _ (numsL_mem.1 hx)
 have h1 : 1 ≤ x := this.2.2.1
 have h2 : x ≤ 1099511627776 := this.2.2.2
 omega
theorem of_len {c : CtxL} {k : Nat} {d : Int} {l o : RunL} (h : c.length ≤ 10000 * k) (hk : k ≤ 4) (hl : o.length ≤ 10000) : (c ++ spansL d o).length ≤ 10000 * (k + 1) ∧ c.length + o.length ≤ 1000000 := by
 rw [List.length_append, spC_spans_len]; omega
theorem r7Of_any (w : World) (v : Value) (l : RunL) (hv : RunAt w v l) (hd : DotsOk l) (hl : l.length ≤ 10000) :
 Calls Tryz.prog 124 #[v] w fun e w' => ∃ v' c, e = .returned v' ∧ OwnAt w w' 122 3 v' c.length (spC c) ∧ OfC l c ∧ c.length ≤ 40000 := by
 obtain ⟨i0, hi, hz0, hz1, hz2⟩ := info_parts info_span
 obtain ⟨j0, hji, hy0, hy1, hy2⟩ := info_parts info_i64
 obtain ⟨aA, cA, rfl⟩ := hv.sl
 have HH := Lib.hid hv; clear hv
 have HD := Lib.hid hd; clear hd
 have HL := Lib.hid hl; clear hl
 generalize hn : l.length = n at *
 have HN := Lib.hid hn; clear hn
 go_enter Tryz.func124, Tryz.ntmps124
 go_wp2
 go_loopw [3, 7] (fun v i ww => ∃ (k : Nat) (c : CtxL), k ≤ 4 ∧ i = .int .i64 k ∧ OwnAt w ww 122 3 v c.length (spC c) ∧ UpTo (OfR l) k c ∧ c.length ≤ 10000 * k) (fun _ i _ => 4 - (intOf i).toNat)
 case atStart => exact ⟨0, [], by omega, rfl, OwnAt.nil (Frm.refl _ _) _ _, UpTo.zero _, Nat.zero_le _⟩
 case round =>
  obtain ⟨k, c, hk, rfl, ho, hu, hlen⟩ := hrel
  obtain ⟨av, cv, rfl⟩ := ho.shape
  have HO := Lib.hid ho; clear ho
  have HU := Lib.hid hu; clear hu
  have HLEN := Lib.hid hlen; clear hlen
  by_cases hlt : k < 4
  · have hki : (k : Int) < 4 := by omega
    have hkd : decide ((k : Int) < 4) = true := by simpa using hki
    go_wp2
    go_loopw [5, 12] (fun v i ww => ∃ (j m : Nat), j ≤ n ∧ m ≤ j ∧ i = .int .i64 j ∧ m = (numsL (l.take j) k).length ∧ OwnAt wr ww 2 1 v m (inV (numsL (l.take j) k))) (fun _ i _ => n - (intOf i).toNat)
    case atStart => exact ⟨0, 0, Nat.zero_le _, Nat.le_refl _, rfl, rfl, OwnAt.nil (Frm.refl _ _) _ _⟩
    case round =>
     obtain ⟨j, m, hj, hmj, rfl, hm, hoi⟩ := hrel
     obtain ⟨ai, ci, rfl⟩ := hoi.shape
     have HOI := Lib.hid hoi; clear hoi
     have HM := Lib.hid hm; clear hm
     have HMJ := Lib.hid hmj; clear hmj
     by_cases hjl : j < n
     · rcases Rd.shape HH.out with ⟨ad, he, h0⟩ | ⟨b, off, cc, he, hmax⟩
       · exfalso; have := HN.out; omega
       · injection he with e1 e2 e3
         subst e1 e3
         clear e2
         rw [HN.out] at hmax
         obtain ⟨p0, p1⟩ := run_at HH.out HN.out.symm j (by rw [HN.out]; exact hjl)
         have q0 := HOI.out.frm.cell' (HO.out.frm.cell' p0 id) id
         have q1 := HOI.out.frm.cell' (HO.out.frm.cell' p1 id) id
         have hE := numsL_take_succ (l := l) (k := j) k (by rw [HN.out]; exact hjl)
         generalize l.getD j (0, 0) = s at *
         clear p0 p1
         by_cases he : s.1 = k
         · rw [if_pos he] at hE
           have he' : ((s.1 : Int) == (k : Int)) = true := by simp [he]
           have HE := Lib.hid hE; clear hE
           clear he
           go_wp2_with (at_builtin; refine wpList_appO _ _ [.int .i64 s.2] rfl (.tmp 22) (.tmp 28) 199 rfl 2 j0 _ 1 8 Tryz.underlying199 hji hy0 hy1 hy2 (by decide) (by decide) _ _ _ HOI.out 1 1 rfl rfl rfl (by simp [Value.oneCell']) (by have := HL.out; have := HMJ.out; simp only [maxLen]; omega) (by have := HL.out; have := HMJ.out; omega) ?_; intro ad cc2 w2 own2; have OW := Lib.hid own2; clear own2)
           go_roundw
           case rel =>
            refine ⟨j + 1, m + 1, by omega, by have := HMJ.out; omega, by go_num, by rw [HE.out, List.length_append, ← HM.out]; rfl, ?_⟩
            rw [HE.out, inV_append]
            exact OW.out
           case measure => simp [intOf]; omega
         · rw [if_neg he, List.append_nil] at hE
           have he' : ((s.1 : Int) == (k : Int)) = false := by simpa using he
           have HE := Lib.hid hE; clear hE
           clear he
           go_wp2
           go_roundw
           case rel => exact ⟨j + 1, m, by omega, by have := HMJ.out; omega, by go_num, by rw [HE.out]; exact HM.out, by rw [HE.out]; exact HOI.out⟩
           case measure => simp [intOf]; omega
     · obtain rfl : j = n := by omega
       rw [List.take_of_length_le (by rw [HN.out]; exact Nat.le_refl _)] at HOI HM
       have hob := HOI.out.rd
       rw [HM.out] at hob
       have HOB := Lib.hid hob; clear hob
       have HKP := Lib.hid (HO.out.keep HOI.out.frm)
       have hlm : m ≤ 10000 := Nat.le_trans HMJ.out HL.out
       have HLM := Lib.hid (HM.out ▸ hlm : (numsL l k).length ≤ 10000)
       clear hlm
       rw [HM.out]
       go_wp2_with (first
        | (go_at_call 156; refine (r6Of_any _ _ (numsL l k) HOB.out (Nat.le_trans HLM.out (by decide)) (numsL_bd HD.out k)).mono ?_; rintro e w3 ⟨v3, o, rfl, ho3, hof, hol⟩; obtain ⟨a3, c3, rfl⟩ := ho3.shape; have HO3 := Lib.hid ho3; clear ho3; have HOF := Lib.hid hof; clear hof; have HOL := Lib.hid (Nat.le_trans hol HLM.out); clear hol)
        | (go_at_call 121; refine (r7spans_any _ _ o k HO3.out.rd (Nat.le_trans HOL.out (by decide))).mono ?_; rintro e w4 ⟨v4, rfl, ho4⟩; obtain ⟨a4, c4, rfl⟩ := ho4.shape; have HO4 := Lib.hid ho4; clear ho4; have HKK := Lib.hid (HKP.out.keep (HO3.out.frm.then1 HO4.out.frm)))
        | (at_builtin; refine wpList_appR w _ _ rfl (.tmp 31) (.tmp 35) 30 30 rfl 122 122 i0 _ 3 24 Tryz.underlying30 Tryz.underlying30 hi hz0 hz1 hz2 (by decide) (by decide) _ _ _ HKK.out _ o.length rfl rfl HO4.out.rd (by rw [spC_length, spC_spans_len]) (spC_oneCell _) (by have := (of_len (d := k) (l := []) HLEN.out (Nat.le_of_lt hlt) HOL.out).2; simp only [maxLen]; omega) (by have := (of_len (d := k) (l := []) HLEN.out (Nat.le_of_lt hlt) HOL.out).2; omega) ?_; intro ad cc w5 own5; have OW := Lib.hid own5; clear own5))
       go_roundw
       case rel =>
        refine ⟨k + 1, c ++ spansL k o, by omega, by go_num, ?_, ?_, (of_len (l := []) HLEN.out (Nat.le_of_lt hlt) HOL.out).1⟩
        · rw [List.length_append, spC_spans_len, spC_append]; exact OW.out
        · exact HU.out.step (by omega) (by omega) (HOF.out.ofR HD.out)
       case measure => simp [intOf]; omega
  · obtain rfl : k = 4 := by omega
    go_wp2
    go_ret
    exact ⟨_, c, rfl, HO.out, HU.out.ofC, HLEN.out⟩
structure Ent where
 dc : Int
 n : Int
 s : ByteArray
 k : Int
inductive KidsL where
 | nil : KidsL
 | cons (key : ByteArray) (es : List Ent) (sub rest : KidsL) : KidsL
def KidsL.len : KidsL → Nat
 | .nil => 0
 | .cons _ _ _ rest => rest.len + 1
def Ent.zero : Ent := ⟨0, 0, ByteArray.empty, 0⟩
def Ent.cells (e : Ent) : List Value := [.int .i64 e.dc, .int .i64 e.n, .string e.s, .int .i64 e.k]
def entC (es : List Ent) : List Value := es.flatMap Ent.cells
theorem entC_cons (e : Ent) (es : List Ent) : entC (e :: es) = .int .i64 e.dc :: .int .i64 e.n :: .string e.s :: .int .i64 e.k :: entC es := rfl
theorem entC_append (a b : List Ent) : entC (a ++ b) = entC a ++ entC b := by simp [entC]
theorem entC_length : ∀ es : List Ent, (entC es).length = es.length * 4
 | [] => rfl
 | e :: es => by rw [entC_cons]; simp only [List.length_cons, entC_length es]; omega
theorem entC_oneCell (es : List Ent) : ∀ v ∈ entC es, v.oneCell' = true := by
 intro v hv
 simp only [entC, List.mem_flatMap] at hv
 obtain ⟨r, _, hv⟩ := hv
 simp [Ent.cells] at hv
 rcases hv with rfl | rfl | rfl | rfl <;> rfl
theorem entC_at : ∀ (es : List Ent) (k : Nat), k < es.length → (entC es)[k * 4]? = some (.int .i64 (es.getD k Ent.zero).dc) ∧ (entC es)[k * 4 + 1]? = some (.int .i64 (es.getD k Ent.zero).n) ∧
 (entC es)[k * 4 + 2]? = some (.string (es.getD k Ent.zero).s) ∧ (entC es)[k * 4 + 3]? = some (.int .i64 (es.getD k Ent.zero).k)
 | [], _, h => by cases h
 | e :: es, 0, _ => ⟨rfl, rfl, rfl, rfl⟩
 | e :: es, k + 1, h => by
  obtain ⟨h1, h2, h3, h4⟩ := entC_at es k (by simpa using h)
  rw [entC_cons, show (k + 1) * 4 = k * 4 + 1 + 1 + 1 + 1 by omega, show k * 4 + 1 + 1 + 1 + 1 + 1 = (k * 4 + 1) + 1 + 1 + 1 + 1 by omega, show k * 4 + 1 + 1 + 1 + 1 + 2 = (k * 4 + 2) + 1 + 1 + 1 + 1 by omega, show k * 4 + 1 + 1 + 1 + 1 + 3 = (k * 4 + 3) + 1 + 1 + 1 + 1 by omega]
  exact ⟨h1, h2, h3, h4⟩
def kidC : KidsL → List (Value × Value) → List Value
 | .cons key _ _ rest, o :: outs => .string key :: o.1 :: o.2 :: kidC rest outs
 | _, _ => []
structure RdQ (Q : Nat → Prop) (w : World) (v : Value) (n : Nat) (xs : List Value) : Prop where
 rd : Rd w v n xs
 q : xs ≠ [] → ∀ k, v.ownBlock = some k → Q k
theorem RdQ.keep {Q S : Nat → Prop} {w w' : World} {v : Value} {n : Nat} {xs : List Value} (h : RdQ Q w v n xs) (f : Frm S w w') (hs : ∀ k, k < w.heap.size → S k → ¬ Q k) : RdQ Q w' v n xs := by
 refine ⟨?_, h.q⟩
 rcases h.rd with h1 | ⟨b, off, c, rfl, h1, h2, h3⟩
 · exact .inl h1
 · refine .inr ⟨b, off, c, rfl, h1, h2, fun j u hu => f.cell' (h3 j u hu) fun s => ?_⟩
   have hlt : b < w.heap.size := World.block_lt_of_cell? _ _ (h3 j u hu)
   exact hs b hlt s (h.q (fun e => by rw [e] at hu; simp at hu) b rfl)
def ForAt (Q : Nat → Prop) (w : World) : KidsL → List (Value × Value) → Prop
 | .nil, outs => outs = []
 | .cons _ es sub rest, outs => ∃ ev kv outs' os, outs = (ev, kv) :: outs' ∧ RdQ Q w ev es.length (entC es) ∧ RdQ Q w kv sub.len (kidC sub os) ∧ ForAt Q w sub os ∧ ForAt Q w rest outs'
structure TreeAt (Q : Nat → Prop) (w : World) (ev kv : Value) (es : List Ent) (ks : KidsL) : Prop where
 ents : RdQ Q w ev es.length (entC es)
 kids : ∃ os, RdQ Q w kv ks.len (kidC ks os) ∧ ForAt Q w ks os
theorem ForAt.keep {Q S : Nat → Prop} {w w' : World} (f : Frm S w w') (hs : ∀ k, k < w.heap.size → S k → ¬ Q k) : ∀ {ks : KidsL} {os : List (Value × Value)}, ForAt Q w ks os → ForAt Q w' ks os
 | .nil, _, h => h
 | .cons _ _ _ _, _, ⟨ev, kv, outs', os, h1, h2, h3, h4, h5⟩ => ⟨ev, kv, outs', os, h1, h2.keep f hs, h3.keep f hs, h4.keep f hs, h5.keep f hs⟩
theorem TreeAt.keep {Q S : Nat → Prop} {w w' : World} {ev kv : Value} {es : List Ent} {ks : KidsL} (h : TreeAt Q w ev kv es ks) (f : Frm S w w') (hs : ∀ k, k < w.heap.size → S k → ¬ Q k) : TreeAt Q w' ev kv es ks :=
 ⟨h.ents.keep f hs, let ⟨os, h1, h2⟩ := h.kids; ⟨os, h1.keep f hs, h2.keep f hs⟩⟩
theorem TreeAt.keep0 {Q : Nat → Prop} {w w' : World} {ev kv : Value} {es : List Ent} {ks : KidsL} (h : TreeAt Q w ev kv es ks) (f : Frm NoS w w') : TreeAt Q w' ev kv es ks := h.keep f fun _ _ s => s.elim
theorem ForAt.keep0 {Q : Nat → Prop} {w w' : World} {ks : KidsL} {os : List (Value × Value)} (h : ForAt Q w ks os) (f : Frm NoS w w') : ForAt Q w' ks os := h.keep f fun _ _ s => s.elim
def KidsL.drop : Nat → KidsL → KidsL
 | 0, ks => ks
 | _ + 1, .nil => .nil
 | n + 1, .cons _ _ _ rest => rest.drop n
theorem ForAt.drop {Q : Nat → Prop} {w : World} : ∀ (n : Nat) {ks : KidsL} {os : List (Value × Value)}, ForAt Q w ks os → ∃ os', ForAt Q w (ks.drop n) os' ∧ (kidC ks os).drop (n * 3) = kidC (ks.drop n) os'
 | 0, ks, os, h => ⟨os, h, by simp [KidsL.drop]⟩
 | n + 1, .nil, os, h => by cases h; exact ⟨[], rfl, by simp [kidC, KidsL.drop]⟩
 | n + 1, .cons key es sub rest, _, ⟨ev, kv, outs', os, h1, _, _, _, h5⟩ => by
  subst h1
  obtain ⟨os', h6, h7⟩ := ForAt.drop n h5
  refine ⟨os', h6, ?_⟩
  show (_ :: _ :: _ :: kidC rest outs').drop ((n + 1) * 3) = _
  rw [show (n + 1) * 3 = n * 3 + 1 + 1 + 1 by omega]
  exact h7
theorem KidsL.drop_len : ∀ (n : Nat) (ks : KidsL), (ks.drop n).len = ks.len - n
 | 0, ks => by simp [KidsL.drop]
 | n + 1, .nil => by simp [KidsL.drop, KidsL.len]
 | n + 1, .cons _ _ _ rest => by
  show (rest.drop n).len = rest.len + 1 - (n + 1)
  rw [KidsL.drop_len n rest]; omega
theorem KidsL.drop_succ : ∀ (n : Nat) (ks : KidsL) {key : ByteArray} {es : List Ent} {sub rest : KidsL}, ks.drop n = .cons key es sub rest → ks.drop (n + 1) = rest
 | 0, .cons _ _ _ _, _, _, _, _, h => by cases h; rfl
 | 0, .nil, _, _, _, _, h => by cases h
 | n + 1, .nil, _, _, _, _, h => by cases h
 | n + 1, .cons _ _ _ r, _, _, _, _, h => KidsL.drop_succ n r h
theorem KidsL.drop_some {n : Nat} {ks : KidsL} (h : n < ks.len) : ∃ key es sub rest, ks.drop n = .cons key es sub rest := by
 have hl := KidsL.drop_len n ks
 cases hd : ks.drop n with
 | nil => rw [hd] at hl; simp [KidsL.len] at hl; omega
 | cons key es sub rest => exact ⟨_, _, _, _, rfl⟩
theorem KidsL.drop_none {n : Nat} {ks : KidsL} (h : ks.len ≤ n) : ks.drop n = .nil := by
 have hl := KidsL.drop_len n ks
 cases hd : ks.drop n with
 | nil => rfl
 | cons key es sub rest => rw [hd] at hl; simp [KidsL.len] at hl; omega
theorem kid_at {Q : Nat → Prop} {w : World} {b off c m : Nat} {ks : KidsL} {os : List (Value × Value)} (h : Rd w (.slice (some ⟨b, off, none⟩) m c) m (kidC ks os)) (hf : ForAt Q w ks os) {n : Nat} {key : ByteArray} {es : List Ent} {sub rest : KidsL} (hd : ks.drop n = .cons key es sub rest) :
 ∃ ev kv, w.cell? ⟨b, off + n * 3, none⟩ = some (.string key) ∧ w.cell? ⟨b, off + n * 3 + 1, none⟩ = some ev ∧ w.cell? ⟨b, off + n * 3 + 2, none⟩ = some kv ∧ TreeAt Q w ev kv es sub := by
 obtain ⟨os', h1, h2⟩ := hf.drop n
 rw [hd] at h1 h2
 obtain ⟨ev, kv, outs', os2, rfl, g2, g3, g4, _⟩ := h1
 have key_ : ∀ j u, (kidC (.cons key es sub rest) ((ev, kv) :: outs'))[j]? = some u → w.cell? ⟨b, off + n * 3 + j, none⟩ = some u := fun j u hu => by
  rw [← h2, List.getElem?_drop] at hu
  have := h.cell _ u hu
  rwa [← Nat.add_assoc] at this
 exact ⟨ev, kv, key_ 0 _ rfl, key_ 1 _ rfl, key_ 2 _ rfl, g2, os2, g3, g4⟩
theorem ent_at {w : World} {b off c n : Nat} {es : List Ent} (h : Rd w (.slice (some ⟨b, off, none⟩) n c) n (entC es)) (k : Nat) (hk : k < es.length) :
 w.cell? ⟨b, off + k * 4, none⟩ = some (.int .i64 (es.getD k Ent.zero).dc) ∧ w.cell? ⟨b, off + k * 4 + 1, none⟩ = some (.int .i64 (es.getD k Ent.zero).n) ∧ w.cell? ⟨b, off + k * 4 + 2, none⟩ = some (.string (es.getD k Ent.zero).s) ∧ w.cell? ⟨b, off + k * 4 + 3, none⟩ = some (.int .i64 (es.getD k Ent.zero).k) := by
 obtain ⟨h1, h2, h3, h4⟩ := entC_at es k hk
 exact ⟨h.cell _ _ h1, h.cell (k * 4 + 1) _ h2, h.cell (k * 4 + 2) _ h3, h.cell (k * 4 + 3) _ h4⟩
def Ent.fits (e : Ent) : Prop := (-9223372036854775808 ≤ e.dc ∧ e.dc ≤ 9223372036854775807) ∧ (-9223372036854775808 ≤ e.n ∧ e.n ≤ 9223372036854775807) ∧ (-9223372036854775808 ≤ e.k ∧ e.k ≤ 9223372036854775807) ∧ e.s.size ≤ 9223372036854775807
structure EsOk (es : List Ent) : Prop where
 len : es.length ≤ 140737488351232
 fits : ∀ e ∈ es, e.fits
def KidsL.Ok : KidsL → Prop
 | .nil => True
 | .cons key es sub rest => key.size ≤ 9223372036854775807 ∧ EsOk es ∧ sub.len ≤ 140737488351232 ∧ sub.Ok ∧ rest.Ok
theorem KidsL.Ok.drop : ∀ (n : Nat) {ks : KidsL}, ks.Ok → (ks.drop n).Ok
 | 0, _, h => h
 | _ + 1, .nil, _ => trivial
 | n + 1, .cons _ _ _ _, h => KidsL.Ok.drop n h.2.2.2.2
structure TrOk (es : List Ent) (ks : KidsL) : Prop where
 es : EsOk es
 len : ks.len ≤ 140737488351232
 ks : ks.Ok
def entB (e : Ent) : Bool := dotB e.dc e.n && decide (e.s.size ≤ 30 ∧ e.k ≤ 1099511627776 ∧ -1099511627776 ≤ e.k)
def ltE : Option Ent → Ent → Bool
 | none, _ => true
 | some p, e => dotLt p.dc p.n e.dc e.n
def rightEs : Option Ent → List Ent → Bool
 | _, [] => true
 | p, e :: l => entB e && ltE p e && rightEs (some e) l
def ltS (a b : ByteArray) : Bool := Op.bytesLess a.toList b.toList
def ltK : Option ByteArray → ByteArray → Bool
 | none, _ => true
 | some p, s => ltS p s
def isNil (es : List Ent) (ks : KidsL) : Bool := decide (es.length = 0 ∧ ks.len = 0)
def rightKs : KidsL → Nat → Option ByteArray → Bool
 | .nil, _, _ => true
 | .cons key es sub rest, d, p => keyB key && ltK p key && !isNil es sub && (decide (1 ≤ d) && rightEs none es && rightKs sub (d - 1) none) && rightKs rest d (some key)
def rightT (d : Nat) (es : List Ent) (ks : KidsL) : Bool := decide (1 ≤ d) && rightEs none es && rightKs ks (d - 1) none
theorem rightKs_cons (key : ByteArray) (es : List Ent) (sub rest : KidsL) (d : Nat) (p : Option ByteArray) : rightKs (.cons key es sub rest) d p = (keyB key && ltK p key && !isNil es sub && rightT d es sub && rightKs rest d (some key)) := rfl
def dotsE (es : List Ent) : RunL := es.map fun e => (e.dc, e.n)
def dotsK : KidsL → RunL
 | .nil => []
 | .cons _ es sub rest => dotsE es ++ dotsK sub ++ dotsK rest
def dotsT (es : List Ent) (ks : KidsL) : RunL := dotsE es ++ dotsK ks
def sizeK : KidsL → Nat
 | .nil => 0
 | .cons _ es sub rest => 1 + es.length + sizeK sub + sizeK rest
def sizeT (es : List Ent) (ks : KidsL) : Nat := es.length + sizeK ks
def deepK : KidsL → Nat
 | .nil => 0
 | .cons _ _ sub rest => max (1 + deepK sub) (deepK rest)
end Go.Proofs.YtcahemkomfaabaaGreat
namespace Go.Proofs.YtcahemkomfaabaaGreat
open Go.RowKit
def setF (f : Int → Int) (d x : Int) : Int → Int := fun e => if e = d then x else f e
def BunNums (dc af la : Int) (f : Int → Int) : Prop := 0 ≤ dc ∧ dc < 4 ∧ 0 ≤ af ∧ af < la ∧ la ≤ 1099511627776 ∧ f dc ≤ af ∧ MayV f
def DotsLeq (l : RunL) (c : CtxL) : Prop := ∀ r ∈ l, InC c r.1 r.2
theorem OfC.leq {l : RunL} {c d : CtxL} (hd : DotsOk l) (h : OfC l d) : LeqC d c ↔ DotsLeq l c := by
 constructor
 · intro hl r hr
   obtain ⟨h0, h4, _⟩ := hd r hr
   exact hl r.1 r.2 h0 h4 ((h.mem r.1 r.2 h0 h4).2 hr)
 · intro hl e n h0 h4 hi
   exact hl (e, n) ((h.mem e n h0 h4).1 hi)
theorem RightC.ge {c : CtxL} (h : RightC c) {d n : Int} (h0 : 0 ≤ d) (h4 : d < 4) (hi : InC c d n) : 1 ≤ n ∧ n ≤ 1099511627776 := (h.2 d h0 h4).in_ hi
theorem bun_law {dc af la : Int} {f : Int → Int} {c o : CtxL} (hn : BunNums dc af la f) (hc : RightC c) (hb : ByC 2 c [(dc, af + 1, la)] o) :
 LeqC c (fullL (setF f dc la)) ↔ LeqC o (fullL (setF f dc af)) := by
 obtain ⟨h1, h2, h3, h4, h5, h6, h7⟩ := hn
 have hm : ∀ d n, 0 ≤ d → d < 4 → (InC o d n ↔ InC c d n ∧ ¬ (d = dc ∧ af + 1 ≤ n ∧ n ≤ la)) := fun d n h0 h4 => by
  rw [hb.mem d n h0 h4, inC_one]
  unfold ByIn
  rw [if_pos rfl]
 constructor
 · intro hl d n h0 h4 hi
   obtain ⟨hi1, hi2⟩ := (hm d n h0 h4).1 hi
   have := (inC_full _ n h0 h4).1 (hl d n h0 h4 hi1)
   rw [inC_full _ n h0 h4]
   unfold setF at this ⊢
   by_cases he : d = dc
   · rw [if_pos he] at this ⊢
     refine ⟨this.1, ?_⟩
     by_cases hg : af + 1 ≤ n
     · exact absurd ⟨he, hg, this.2⟩ hi2
     · omega
   · rw [if_neg he] at this ⊢
     exact this
 · intro hl d n h0 h4 hi
   rw [inC_full _ n h0 h4]
   have h1n := (hc.ge h0 h4 hi).1
   by_cases he : d = dc ∧ af + 1 ≤ n ∧ n ≤ la
   · unfold setF; rw [if_pos he.1]; exact ⟨h1n, he.2.2⟩
   · have := (inC_full _ n h0 h4).1 (hl d n h0 h4 ((hm d n h0 h4).2 ⟨hi, he⟩))
     unfold setF at this ⊢
     by_cases hd : d = dc
     · rw [if_pos hd] at this ⊢; omega
     · rw [if_neg hd] at this ⊢; exact this
structure BunRight (dc af la : Int) (f : Int → Int) (es : List Ent) (ks : KidsL) (c : CtxL) : Prop where
 nums : BunNums dc af la f
 tree : rightT 5 es ks = true
 ctx : RightC c
 dots : DotsLeq (dotsT es ks) c
 bare : es = []
 mine : DotsLeq (dotsT es ks) [(dc, af + 1, la)]
 own : LeqC [(dc, af + 1, la)] c
 may : LeqC c (fullL (setF f dc la))
theorem rightEs_dots : ∀ {l : List Ent} {p : Option Ent}, rightEs p l = true → DotsOk (dotsE l)
 | [], _, _ => fun r hr => by cases hr
 | e :: l, p, h => by
  have h : (entB e && ltE p e && rightEs (some e) l) = true := h
  simp only [Bool.and_eq_true] at h
  intro r hr
  rcases List.mem_cons.1 hr with rfl | hr
  · have := h.1.1
    unfold entB dotB at this
    simp at this
    exact this.1
  · exact rightEs_dots h.2 r hr
theorem rightKs_dots : ∀ {ks : KidsL} {d : Nat} {p : Option ByteArray}, rightKs ks d p = true → DotsOk (dotsK ks)
 | .nil, _, _, _ => fun r hr => by cases hr
 | .cons key es sub rest, d, p, h => by
  rw [rightKs_cons] at h
  unfold rightT at h
  simp only [Bool.and_eq_true] at h
  intro r hr
  have hr : r ∈ dotsE es ++ dotsK sub ++ dotsK rest := hr
  rcases List.mem_append.1 hr with hr | hr
  · rcases List.mem_append.1 hr with hr | hr
    · exact rightEs_dots h.1.2.1.2 r hr
    · exact rightKs_dots h.1.2.2 r hr
  · exact rightKs_dots h.2 r hr
theorem rightT_dots {d : Nat} {es : List Ent} {ks : KidsL} (h : rightT d es ks = true) : DotsOk (dotsT es ks) := by
 unfold rightT at h
 simp only [Bool.and_eq_true] at h
 intro r hr
 rcases List.mem_append.1 hr with hr | hr
 · exact rightEs_dots h.1.2 r hr
 · exact rightKs_dots h.2 r hr
theorem dotsE_length (es : List Ent) : (dotsE es).length = es.length := by simp [dotsE]
theorem dotsK_length_le : ∀ ks : KidsL, (dotsK ks).length ≤ sizeK ks
 | .nil => Nat.le_refl _
 | .cons _ es sub rest => by
  have h1 := dotsK_length_le sub
  have h2 := dotsK_length_le rest
  show (dotsE es ++ dotsK sub ++ dotsK rest).length ≤ 1 + es.length + sizeK sub + sizeK rest
  rw [List.length_append, List.length_append, dotsE_length]
  omega
theorem dotsT_length_le (es : List Ent) (ks : KidsL) : (dotsT es ks).length ≤ sizeT es ks := by
 have := dotsK_length_le ks
 unfold dotsT sizeT
 rw [List.length_append, dotsE_length]
 omega
end Go.Proofs.YtcahemkomfaabaaGreat
