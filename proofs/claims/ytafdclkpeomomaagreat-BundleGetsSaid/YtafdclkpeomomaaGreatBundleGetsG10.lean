/- Words for the law BundleGets: R8a. -/
import Derived.Test.YtafdclkpeomomaaGreatBundleGetsG5
set_option linter.unusedSimpArgs false
set_option linter.unusedVariables false
/- tributaryref08: entry; the entries of a tree, step by step. -/
namespace Go.Proofs.YtafdclkpeomomaaGreat
open Go.RowKit

def Ent.v (e : Ent) : Value := .agg #[.int .i64 e.dc, .int .i64 e.n, .string e.s, .int .i64 e.k]
set_option maxRecDepth 1000000 in
theorem r8entry_any (e : Ent) (hs : e.s.size ≤ 9223372036854775807) (w : World) : Calls Tryz.prog 134 #[e.v] w fun x w' => x = .returned (.bool (entB e)) ∧ Frm NoS w w' := by
  unfold Ent.v
  have c2 : (w.alloc (.cells #[.int .i64 e.dc, .int .i64 e.n, .string e.s, .int .i64 e.k] 136)).cell? ⟨w.heap.size, 2, none⟩ = some (.string e.s) := cell_at' (heap_alloc_new w _) 2 rfl
  have c3 : (w.alloc (.cells #[.int .i64 e.dc, .int .i64 e.n, .string e.s, .int .i64 e.k] 136)).cell? ⟨w.heap.size, 3, none⟩ = some (.int .i64 e.k) := cell_at' (heap_alloc_new w _) 3 rfl
  cases hd : dotB e.dc e.n with
  | false =>
    go_enter Tryz.func134, Tryz.ntmps134
    go_wp2_with (go_at_call 166; refine (r5Right_any _ _ _).mono ?_; rintro x w1 ⟨rfl, hw1⟩; rw [hd])
    go_ret
    exact ⟨ret_bool (by simp [entB, hd]), (Frm.alloc _ _ _).then1 hw1⟩
  | true =>
    go_enter Tryz.func134, Tryz.ntmps134
    go_wp2_with (go_at_call 166; refine (r5Right_any _ _ _).mono ?_; rintro x w1 ⟨rfl, hw1⟩; rw [hd]; have k2 := hw1.cell' c2 id; have k3 := hw1.cell' c3 id)
    all_goals
      go_ret
      refine ⟨ret_bool ?_, (Frm.alloc _ _ _).then1 hw1⟩
      rw [Bool.eq_iff_iff]
      simp [entB, hd] <;> omega

theorem rightEs_snoc : ∀ (l : List Ent) (p : Option Ent) (e : Ent), rightEs p (l ++ [e]) = (rightEs p l && entB e && ltE (match l.getLast? with | some x => some x | none => p) e)
  | [], p, e => by simp [rightEs]
  | x :: l, p, e => by
    show (entB x && ltE p x && rightEs (some x) (l ++ [e])) = ((entB x && ltE p x && rightEs (some x) l) && entB e && _)
    rw [rightEs_snoc l (some x) e]
    have : (match (x :: l).getLast? with | some y => some y | none => p) = (match l.getLast? with | some y => some y | none => some x) := by
      cases l with
      | nil => rfl
      | cons y l =>
        rw [List.getLast?_cons_cons]
        cases h : (y :: l).getLast? with
        | none => simp at h
        | some z => rfl
    rw [this]
    simp only [Bool.and_assoc]
theorem rightEs_take : ∀ (l : List Ent) (p : Option Ent) (k : Nat), rightEs p l = true → rightEs p (l.take k) = true
  | [], _, _, _ => by simp [rightEs]
  | _ :: _, _, 0, _ => rfl
  | x :: l, p, k + 1, h => by
    have h : (entB x && ltE p x && rightEs (some x) l) = true := h
    show (entB x && ltE p x && rightEs (some x) (l.take k)) = true
    simp only [Bool.and_eq_true] at h ⊢
    exact ⟨h.1, rightEs_take l _ k h.2⟩
/-- One entry more. -/
theorem rightEs_step0 {l : List Ent} (h : 0 < l.length) : rightEs none (l.take (0 + 1)) = entB (l.getD 0 Ent.zero) := by
  rw [take_succ Ent.zero h]
  simp [rightEs, ltE]
theorem rightEs_step {l : List Ent} {j : Nat} (h : j + 1 < l.length) (hr : rightEs none (l.take (j + 1)) = true) : rightEs none (l.take (j + 1 + 1)) = (entB (l.getD (j + 1) Ent.zero) && dotLt (l.getD j Ent.zero).dc (l.getD j Ent.zero).n (l.getD (j + 1) Ent.zero).dc (l.getD (j + 1) Ent.zero).n) := by
  rw [take_succ Ent.zero h, rightEs_snoc, hr]
  have : (l.take (j + 1)).getLast? = some (l.getD j Ent.zero) := by
    rw [take_succ Ent.zero (by omega)]; simp
  rw [this]
  simp [ltE]
theorem not_rightEs {l : List Ent} {k : Nat} (h : rightEs none (l.take k) = false) : rightEs none l = false := by
  cases hh : rightEs none l with
  | false => rfl
  | true => rw [rightEs_take l none k hh] at h; cases h
theorem EsOk.at {es : List Ent} (h : EsOk es) {k : Nat} (hk : k < es.length) : (es.getD k Ent.zero).fits := h.fits _ (getD_mem _ hk)
end Go.Proofs.YtafdclkpeomomaaGreat
