/- tributarylaw26.NetPlays: the law. -/
import Derived.Test.YtclihppeaikhiaaNetPlays2
namespace Go.Proofs.Ytclihppeaikhiaa
open Go.RowKit

theorem ActsAt.keep {w w' : World} {v : Value} {l : List ActI} (h : ActsAt w v l) (f : Frm (fun _ => False) w w') : ActsAt w' v l := by
  obtain ⟨a', c', h1, h2, h3, h4⟩ := h
  refine ⟨a', c', h1, h2, h3, fun k x hk => ?_⟩
  obtain ⟨b, off, ab, cb, e1, ⟨d0, d1, d2, d3, d4⟩, e3⟩ := h4 k x hk
  exact ⟨b, off, ab, cb, e1, ⟨f.cell' d0 id, f.cell' d1 id, f.cell' d2 id, f.cell' d3 id, f.cell' d4 id⟩, e3.keep f fun _ _ => id⟩

set_option maxRecDepth 1000000 in
theorem plays_many (W : World) (m : Int) (v : Value) (acts : List ActI) (ha : ActsAt W v acts) (hfew : ¬ fewA acts) :
    Calls Try.prog 11 #[.int .i64 m, v] W fun e w' => e = .returned (.bool true) ∧ Frm (fun _ => False) W w' := by
  have HA := Lib.hid ha; clear ha
  have HFEW := Lib.hid hfew; clear hfew
  go_enter Try.func11, Try.ntmps11
  go_wp2_with fail
  refine (awake26 _).mono ?_
  rintro e w1 ⟨rfl, hf1⟩
  have HF1 := Lib.hid hf1; clear hf1
  go_wp2_with fail
  refine (few_any w1 _ acts (HA.out.keep HF1.out)).mono ?_
  rintro e w2 ⟨g, rfl, hg, rfl⟩
  obtain rfl : g = false := by
    cases g with
    | true => exact absurd (hg.1 rfl) HFEW.out
    | false => rfl
  clear hg
  go_wp2_with fail
  refine (awake26 _).mono ?_
  rintro e w2 ⟨rfl, hf2⟩
  have HF2 := Lib.hid hf2; clear hf2
  go_wp2_with fail
  go_ret
  exact ⟨rfl, HF1.out.trans HF2.out fun _ _ h => h⟩

set_option maxRecDepth 1000000 in
theorem plays_bad (W : World) (m : Int) (hm : m < 1 ∨ 64 < m) (v : Value) (acts : List ActI) (ha : ActsAt W v acts) (hfew : fewA acts) :
    Calls Try.prog 11 #[.int .i64 m, v] W fun e w' => e = .returned (.bool true) ∧ Frm (fun _ => False) W w' := by
  have HA := Lib.hid ha; clear ha
  have HFEW := Lib.hid hfew; clear hfew
  have HM := Lib.hid hm; clear hm
  go_enter Try.func11, Try.ntmps11
  go_wp2_with fail
  refine (awake26 _).mono ?_
  rintro e w1 ⟨rfl, hf1⟩
  have HF1 := Lib.hid hf1; clear hf1
  go_wp2_with fail
  refine (few_any w1 _ acts (HA.out.keep HF1.out)).mono ?_
  rintro e w2 ⟨g, rfl, hg, rfl⟩
  obtain rfl : g = true := hg.2 HFEW.out
  clear hg
  go_wp2_with fail
  refine (new_no m HM.out w1).mono ?_
  rintro e w2 ⟨rfl, rfl⟩
  have hm := HM.out
  by_cases h1 : m < 1
  · clear hm
    go_wp2
    go_ret
    exact ⟨rfl, HF1.out⟩
  · have h2 : 64 < m := by omega
    clear hm
    go_wp2
    go_ret
    exact ⟨rfl, HF1.out⟩

theorem plays_law (W : World) (m : Int) (_ : (Lit.int .i64 m).wf = true) (v : Value) (h : ∃ l : List ActI, ActsAt W v l) :
    Calls Try.prog 11 #[.int .i64 m, v] W fun e w' => e = .returned (.bool true) ∧ Frm (fun _ => False) W w' := by
  obtain ⟨l, h⟩ := h
  by_cases hf : fewA l
  · by_cases hm : 1 ≤ m ∧ m ≤ 64
    · obtain ⟨c, rfl⟩ := Int.eq_ofNat_of_zero_le (show 0 ≤ m by omega)
      obtain ⟨a, cc, rfl, h2, h3, h4⟩ := id h
      exact plays_few W c (by omega) (by omega) a cc l h hf
    · exact plays_bad W m (by omega) v l h hf
  · exact plays_many W m v l h hf

end Go.Proofs.Ytclihppeaikhiaa
