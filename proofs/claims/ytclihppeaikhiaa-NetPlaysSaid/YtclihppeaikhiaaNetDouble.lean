/- net: Double: the walks. -/
import Derived.Test.YtclihppeaikhiaaNetSpoil2
namespace Go.Proofs.Ytclihppeaikhiaa
open Go.RowKit Go.Conc

set_option maxRecDepth 1000000 in
theorem double_nil (w : World) (k : Int) : Calls Try.prog 42 #[.pointer none, .int .i64 k] w fun e w' => e = .returned (.int .i64 1) ∧ w = w' := by
  go_enter Try.func42, Try.ntmps42
  go_wp2_with (go_at_call 48; refine (there_nil _ _).mono ?_; rintro e w' ⟨rfl, rfl⟩)
  go_ret
  exact ⟨rfl, rfl⟩
set_option maxRecDepth 1000000 in
theorem double_no (w : World) (nb ch cap : Nat) (k : Int) (buf : List Value) (l : List Par) (h : NetAt w nb ch cap buf l) (hk : k < 0 ∨ (l.length : Int) ≤ k) :
    Calls Try.prog 42 #[.pointer (some ⟨nb, 0, none⟩), .int .i64 k] w fun e w' => e = .returned (.int .i64 7) ∧ w = w' := by
  have hthere := there_no nb ch cap buf l k _ h hk
  have HTH := Lib.hid hthere; clear hthere
  clear h hk
  go_enter Try.func42, Try.ntmps42
  go_wp2_with (go_at_call 48; refine HTH.out.mono ?_; rintro e w' ⟨rfl, rfl⟩)
  go_ret
  exact ⟨rfl, rfl⟩
set_option maxHeartbeats 1000000 in
set_option maxRecDepth 1000000 in
theorem double_any (w : World) (nb ch cap K : Nat) (buf : List Value) (l : List Par) (p : Par) (h : NetAt w nb ch cap buf l) (hp : l[K]? = some p) :
    Calls Try.prog 42 #[.pointer (some ⟨nb, 0, none⟩), .int .i64 K] w fun e w' => ∃ buf', e = .returned (.int .i64 (if l.length < cap then 0 else 4)) ∧ NetAt w' nb ch cap buf' (if l.length < cap then l ++ [p] else l) ∧ Frm (fun i => i = ch) w w' := by
  have hkl : K < l.length := len_of_some hp
  have hthere := there_ok nb ch cap buf l K _ h hkl
  have hall := all_any w nb ch cap buf l h
  have HTH := Lib.hid hthere; clear hthere
  have HALL := Lib.hid hall; clear hall
  have H := Lib.hid h; clear h
  have HP := Lib.hid hp; clear hp
  go_enter Try.func42, Try.ntmps42
  go_wp2_with (go_at_call 48; refine HTH.out.mono ?_; rintro e w' ⟨rfl, rfl⟩)
  refine HALL.out.mono ?_
  rintro e w1 ⟨v, outs, rfl, hn1, hf1, hol, hoa⟩
  obtain ⟨q, hq⟩ : ∃ q, outs[K]? = some q := ⟨_, List.getElem?_eq_getElem (by omega)⟩
  obtain ⟨a, c, rfl⟩ := own_shape hoa.own
  obtain ⟨g, rfl, _, c0, c1⟩ := hoa.get hq
  obtain ⟨k1, k2, a2, c2, k3, k4, _⟩ := hoa.all K q p hq HP.out
  rw [k1] at c0
  rw [k3] at c1
  have hkk : (K : Int) < outs.length := by omega
  have HN1 := Lib.hid hn1; clear hn1
  have HF1 := Lib.hid hf1; clear hf1
  have K4 := Lib.hid k4; clear k4
  have HOL := Lib.hid hol; clear hol
  clear hoa hq k1 k3
  by_cases hroom : l.length < cap
  · have hs := send_ok w1 nb ch cap buf l p.1 (.slice a2 p.2.length c2) p.2 HN1.out hroom (Rd.own K4.out) k2
    have HS := Lib.hid hs; clear hs
    go_wp2_with (go_at_call 22; refine HS.out.mono ?_; rintro e w2 ⟨rfl, x, hn2, hf2⟩; have HN2 := Lib.hid hn2; clear hn2; have HF2 := Lib.hid hf2; clear hf2)
    go_ret
    exact ⟨rfl, ⟨_, HN2.out⟩, HF1.out.trans HF2.out fun _ _ h => h⟩
  · have hs := send_no w1 nb ch cap buf l p.1 (.slice a2 p.2.length c2) p.2 HN1.out (by omega) (Rd.own K4.out) k2
    have HS := Lib.hid hs; clear hs
    go_wp2_with (go_at_call 22; refine HS.out.mono ?_; rintro e w2 ⟨rfl, hf2⟩; have HF2 := Lib.hid hf2; clear hf2)
    go_ret
    exact ⟨rfl, ⟨_, HN1.out.keep0 HF2.out⟩, HF1.out.trans HF2.out fun _ _ h => h.elim⟩

set_option maxRecDepth 100000 in
theorem send_nil (w : World) (t : Int) (v : Value) : Calls Try.prog 22 #[.pointer none, .agg #[.int .i64 t, v]] w fun e w' => e = .returned (.int .i64 1) ∧ Frm (fun _ => False) w w' := by
  refine calls_of_loneTo fun cs => ?_
  have e : Frame.enter Try.prog 22 #[.pointer none, .agg #[.int .i64 t, v]] .normal = (base 22).at ⟨#[.pointer none, .agg #[.int .i64 t, v], undef, undef, undef, undef, undef, undef, undef, undef, undef, undef, undef, undef, undef, undef], []⟩ [.code (Try.f22.body.getD .skip)] := by
    simp [Frame.enter, Frame.at, Try.func22, base, Try.f22]
  rw [e]
  refine LoneTo.goes (n := 60) ?_
  simp only [Try.f22, Option.getD_some]
  s_c stepG_seq
  s_reg
  s_op
  s_op
  s_c stepG_region_end
  s_c stepG_seq
  s_c stepG_seq
  s_reg
  s_op
  s_op
  s_c stepG_region_end
  s_cond true
  s_c stepG_seq
  s_reg
  s_op
  s_c stepG_region_end
  s_c stepG_ret'
  s_stop
  exact LoneTo.done ⟨.returned (.int .i64 1), _, rfl, ⟨rfl, Frm.alloc _ w _⟩, rfl, rfl, rfl, rfl, _, Try.func22, by simp [results, Try.f22, Frame.at]⟩

end Go.Proofs.Ytclihppeaikhiaa
