/- tributarylaw02.CodecNil: the walk; codec.In.Num, Text of nil. -/
import Derived.Test.YtclihppeaikhiaaIn
import Derived.OpenShut
namespace Go.Proofs.Ytclihppeaikhiaa
open Go.RowKit

set_option maxHeartbeats 400000 in
set_option maxRecDepth 1000000 in
theorem inum_nil (m : Int) (w : World) : Calls Try.prog 29 #[.pointer none, .int .i64 m] w fun e w' => e = .returned (.int .i64 0) ∧ w = w' := by
  go_enter Try.func29, Try.ntmps29
  go_wp2
  go_ret
  exact ⟨rfl, rfl⟩
set_option maxHeartbeats 400000 in
set_option maxRecDepth 1000000 in
theorem itext_nil (m : Int) (w : World) : Calls Try.prog 30 #[.pointer none, .int .i64 m] w fun e w' => e = .returned (.string ⟨#[]⟩) ∧ w = w' := by
  go_enter Try.func30, Try.ntmps30
  go_wp2_with (go_at_call 29; refine (inum_nil _ _).mono ?_; rintro e w' ⟨rfl, rfl⟩)
  go_ret
  exact ⟨rfl, rfl⟩

set_option maxHeartbeats 400000 in
set_option maxRecDepth 1000000 in
theorem nil_law (v : Int) (_hv : (Lit.int .i64 v).wf = true) (m : Int) (_hm : (Lit.int .i64 m).wf = true) (s : ByteArray) (_hs : s.size ≤ maxLen) (w : World) :
    Calls Try.prog 8 #[.int .i64 v, .int .i64 m, .string s] w fun e w' => e = .returned (.bool true) ∧ Frm (fun _ => False) w w' := by
  clear _hv _hm _hs
  go_enter Try.func8, Try.ntmps8
  go_wp2_with (first
    | (go_at_call 19; refine (num_nil _ _).mono ?_; rintro e w' ⟨rfl, rfl⟩)
    | (go_at_call 27; refine (text_nil _ _).mono ?_; rintro e w' ⟨rfl, rfl⟩)
    | (go_at_call 18; refine (end_nil _).mono ?_; rintro e w' ⟨rfl, rfl⟩)
    | (go_at_call 28; refine (fail_nil _).mono ?_; rintro e w' ⟨rfl, rfl⟩)
    | (go_at_call 14; refine (awake02 _).mono ?_; rintro e w1 ⟨rfl, hfm⟩; have HM := Lib.hid hfm; clear hfm)
    | (go_at_call 29; refine (inum_nil _ _).mono ?_; rintro e w' ⟨rfl, rfl⟩)
    | (go_at_call 30; refine (itext_nil _ _).mono ?_; rintro e w' ⟨rfl, rfl⟩)
    | (go_at_call 31; refine (left_nil _).mono ?_; rintro e w' ⟨rfl, rfl⟩)
    | (go_at_call 32; refine (bad_nil _).mono ?_; rintro e w' ⟨rfl, rfl⟩)
    | (go_at_call 33; refine (done_nil _).mono ?_; rintro e w' ⟨rfl, rfl⟩))
  go_ret
  exact ⟨rfl, HM.out⟩

end Go.Proofs.Ytclihppeaikhiaa
