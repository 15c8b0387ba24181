/- tributaryref26.Net: Send where it is full, Take and Double and Spoil where there is none; few: the walks. -/
import Derived.Test.YtclihppeaikhiaaRNTake
namespace Go.Proofs.Ytclihppeaikhiaa
open Go.RowKit

set_option maxRecDepth 1000000 in
theorem rsend_full (w : World) (most : Int) (a : Option Addr) (c n : Nat) (t : Int) (sv : Value) (hm : most ≤ (n : Int)) :
    Calls Try.prog 54 #[.agg #[.int .i64 most, .slice a n c], .agg #[.int .i64 t, sv]] w fun e w' => e = .returned (.tuple #[.agg #[.int .i64 most, .slice a n c], .int .i64 4]) ∧ Frm (fun _ => False) w w' := by
  go_enter Try.func54, Try.ntmps54
  go_wp2
  exact bodyPost_ret (v := .tuple #[.agg #[.int .i64 most, .slice a n c], .int .i64 4]) (by simp [results, Try.results54, go_sem]) rfl ⟨rfl, ((Frm.alloc _ w _).trans (Frm.alloc _ _ _) fun _ _ h => h).trans (Frm.alloc _ _ _) fun _ _ h => h⟩
set_option maxRecDepth 1000000 in
theorem rtake_no (w : World) (most : Int) (a : Option Addr) (c n : Nat) (k : Int) (hk : k < 0 ∨ (n : Int) ≤ k) :
    Calls Try.prog 55 #[.agg #[.int .i64 most, .slice a n c], .int .i64 k] w fun e w' => e = .returned (.tuple #[.agg #[.int .i64 most, .slice a n c], .agg #[.int .i64 0, .slice none 0 0], .int .i64 7]) ∧ Frm (fun _ => False) w w' := by
  by_cases h0 : k < 0
  · clear hk
    go_enter Try.func55, Try.ntmps55
    go_wp2
    exact bodyPost_ret (v := .tuple #[.agg #[.int .i64 most, .slice a n c], .agg #[.int .i64 0, .slice none 0 0], .int .i64 7]) (by simp [results, Try.results55, go_sem]) rfl ⟨rfl, ((Frm.alloc _ w _).trans (Frm.alloc _ _ _) fun _ _ h => h).trans (Frm.alloc _ _ _) fun _ _ h => h⟩
  · have h1 : (n : Int) ≤ k := by omega
    clear hk
    go_enter Try.func55, Try.ntmps55
    go_wp2
    exact bodyPost_ret (v := .tuple #[.agg #[.int .i64 most, .slice a n c], .agg #[.int .i64 0, .slice none 0 0], .int .i64 7]) (by simp [results, Try.results55, go_sem]) rfl ⟨rfl, ((Frm.alloc _ w _).trans (Frm.alloc _ _ _) fun _ _ h => h).trans (Frm.alloc _ _ _) fun _ _ h => h⟩
set_option maxRecDepth 1000000 in
theorem rdouble_no (w : World) (most : Int) (a : Option Addr) (c n : Nat) (k : Int) (hk : k < 0 ∨ (n : Int) ≤ k) :
    Calls Try.prog 56 #[.agg #[.int .i64 most, .slice a n c], .int .i64 k] w fun e w' => e = .returned (.tuple #[.agg #[.int .i64 most, .slice a n c], .int .i64 7]) ∧ Frm (fun _ => False) w w' := by
  by_cases h0 : k < 0
  · clear hk
    go_enter Try.func56, Try.ntmps56
    go_wp2
    exact bodyPost_ret (v := .tuple #[.agg #[.int .i64 most, .slice a n c], .int .i64 7]) (by simp [results, Try.results56, go_sem]) rfl ⟨rfl, (Frm.alloc _ w _).trans (Frm.alloc _ _ _) fun _ _ h => h⟩
  · have h1 : (n : Int) ≤ k := by omega
    clear hk
    go_enter Try.func56, Try.ntmps56
    go_wp2
    exact bodyPost_ret (v := .tuple #[.agg #[.int .i64 most, .slice a n c], .int .i64 7]) (by simp [results, Try.results56, go_sem]) rfl ⟨rfl, (Frm.alloc _ w _).trans (Frm.alloc _ _ _) fun _ _ h => h⟩
set_option maxRecDepth 1000000 in
theorem rspoil_no (w : World) (most : Int) (a : Option Addr) (c n : Nat) (k : Int) (at_ by_ : Int) (hk : k < 0 ∨ (n : Int) ≤ k) :
    Calls Try.prog 57 #[.agg #[.int .i64 most, .slice a n c], .int .i64 k, .int .i64 at_, .int .u8 by_] w fun e w' => e = .returned (.tuple #[.agg #[.int .i64 most, .slice a n c], .int .i64 7]) ∧ Frm (fun _ => False) w w' := by
  by_cases h0 : k < 0
  · clear hk
    go_enter Try.func57, Try.ntmps57
    go_wp2
    exact bodyPost_ret (v := .tuple #[.agg #[.int .i64 most, .slice a n c], .int .i64 7]) (by simp [results, Try.results57, go_sem]) rfl ⟨rfl, (Frm.alloc _ w _).trans (Frm.alloc _ _ _) fun _ _ h => h⟩
  · have h1 : (n : Int) ≤ k := by omega
    clear hk
    go_enter Try.func57, Try.ntmps57
    go_wp2
    exact bodyPost_ret (v := .tuple #[.agg #[.int .i64 most, .slice a n c], .int .i64 7]) (by simp [results, Try.results57, go_sem]) rfl ⟨rfl, (Frm.alloc _ w _).trans (Frm.alloc _ _ _) fun _ _ h => h⟩

/-- Send, whether there is room or not. -/
theorem rsend_any (N : Nat → Prop) (w : World) (hN : ∀ k, N k → k < w.heap.size) (most : Nat) (a : Option Addr) (c : Nat) (l : List Par) (ap : Option Addr) (cp : Nat) (p : Par) (hv : RefAt N w (.slice a l.length c) l) (hp : Rd w (.slice ap p.2.length cp) p.2.length (bV p.2)) (hpn : p.2.length ≠ 0 → ∀ k, (Value.slice ap p.2.length cp).ownBlock = some k → ¬ N k) (hl : l.length ≤ 1000) :
    Calls Try.prog 54 #[.agg #[.int .i64 most, .slice a l.length c], .agg #[.int .i64 p.1, .slice ap p.2.length cp]] w fun e w' => ∃ v', e = .returned (.tuple #[.agg #[.int .i64 most, v'], .int .i64 (if l.length < most then 0 else 4)]) ∧ RefAt N w' v' (if l.length < most then l ++ [p] else l) ∧ Frm (fun _ => False) w w' := by
  by_cases h : l.length < most
  · rw [if_pos h, if_pos h]
    exact rsend_ok N w hN most a c l ap cp p hv hp hpn hl (by omega)
  · rw [if_neg h, if_neg h]
    refine (rsend_full w most a c l.length p.1 _ (by omega)).mono ?_
    rintro e w' ⟨he, hf⟩
    exact ⟨_, he, hv.keepCell hf.cells0, hf⟩

end Go.Proofs.Ytclihppeaikhiaa
