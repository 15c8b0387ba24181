/- tributarylaw26.Of; tributaryref26.Send: the walks. -/
import Derived.Test.YtclihppeaikhiaaRNet
namespace Go.Proofs.Ytclihppeaikhiaa
open Go.RowKit

theorem rpar_info : (Try.prog.info? 107).map (fun i => (i.zero, i.size, i.bytes)) = some (some (.agg #[.int .i64 0, .slice none 0 0]), 2, 32) := by kernel_rfl
def OfRel (w : World) (l : List Par) (v i : Value) (wr : World) : Prop :=
  ∃ (k : Nat) (outs : List (Int × Value)), k ≤ l.length ∧ outs.length = k ∧ i = .int .i64 k ∧ wr.ownsRow 0 107 2 v k (outCells outs) ∧ NewV w v ∧
    (∀ (j : Nat) (q : Int × Value) (p : Par), outs[j]? = some q → l[j]? = some p → q.1 = p.1 ∧ Rd w q.2 p.2.length (bV p.2)) ∧ Frm (fun _ => False) w wr
set_option maxHeartbeats 1000000 in
set_option maxRecDepth 1000000 in
theorem of_any (w : World) (v : Value) (l : List Par) (hv : RefAt NoB w v l) (hl : l.length ≤ 1000) : Calls Try.prog 41 #[v] w fun e w' => ∃ v', e = .returned v' ∧ RefAt NoB w' v' l ∧ Frm (fun _ => False) w w' := by
  obtain ⟨a, c, rfl⟩ := hv.shape
  have HV := Lib.hid hv; clear hv
  obtain ⟨i0, hi, hz0, hz1, hz2⟩ := info_parts rpar_info
  go_enter Try.func41, Try.ntmps41
  go_wp2_with fail
  go_loopw [3, 7] (fun v i wr => OfRel w l v i wr) (fun _ i _ => l.length - (intOf i).toNat)
  case atStart => exact ⟨0, [], Nat.zero_le _, rfl, rfl, World.ownsRow_nil w 0 _ 2, fun k hk => by simp [Value.ownBlock] at hk, fun j q p hq _ => by simp at hq, Frm.refl _ _⟩
  case round =>
    obtain ⟨k, outs, hk, rfl, rfl, hown, hnew, hq, hf⟩ := hrel
    obtain ⟨av, cv, rfl⟩ := own_shape hown
    by_cases hlt : outs.length < l.length
    · obtain ⟨p, hp⟩ : ∃ p, l[outs.length]? = some p := ⟨_, List.getElem?_eq_getElem hlt⟩
      obtain ⟨b, off, a3, c3, rfl, d0, d1, d2⟩ := HV.out.get hp
      have e0 := hf.cell' d0 id
      have e1 := hf.cell' d1 id
      have HOWN := Lib.hid hown; clear hown
      have HNEW := Lib.hid hnew; clear hnew
      have HQ := Lib.hid hq; clear hq
      have HF := Lib.hid hf; clear hf
      have HP := Lib.hid hp; clear hp
      have D2 := Lib.hid d2; clear d2
      clear d0 d1
      go_wp2_with (at_builtin; go_loud (refine wpList_app1 _ [.int .i64 p.1, .slice a3 p.2.length c3] rfl (.tmp 10) (.tmp 15) 74 rfl 107 i0 _ 2 32 Try.underlying74 hi hz0 hz1 hz2 (by decide) (by decide) _ _ _ HOWN.out 1 1 rfl rfl rfl (by simp [Value.oneCell']) (by simp only [maxLen]; omega) (by omega) ?_))
      intro ad cc w2 own2 fm2 fr2
      have own3 : w2.ownsRow 0 107 2 (.slice ad (outs.length + 1) cc) (outs.length + 1) (outCells (outs ++ [(p.1, .slice a3 p.2.length c3)])) := by rw [← outCells_snoc]; exact own2
      have hnew2 : NewV w (.slice ad (outs.length + 1) cc) := HNEW.out.fresh HF.out.size fr2
      have hf2 : Frm (fun _ => False) w w2 := HF.out.trans fm2 fun i hi h => by have := HNEW.out i h; omega
      have OWN3 := Lib.hid own3; clear own3
      have HN2 := Lib.hid hnew2; clear hnew2
      have HF2 := Lib.hid hf2; clear hf2
      clear own2 fm2 fr2
      go_wp2
      go_roundw
      case rel =>
        refine ⟨outs.length + 1, outs ++ [(p.1, .slice a3 p.2.length c3)], by omega, by simp, by go_num, OWN3.out, HN2.out, fun j q p' hq hp' => ?_, HF2.out⟩
        rcases Nat.lt_or_ge j outs.length with hj | hj
        · rw [List.getElem?_append_left hj] at hq
          exact HQ.out j q p' hq hp'
        · have hj2 : j = outs.length := by have := len_of_some hq; simp at this; omega
          subst hj2
          simp at hq
          subst hq
          rw [HP.out] at hp'
          cases hp'
          exact ⟨rfl, D2.out⟩
      case measure => simp [intOf]; omega
    · have hkl : outs.length = l.length := by omega
      have HOWN := Lib.hid hown; clear hown
      have HQ := Lib.hid hq; clear hq
      have HF := Lib.hid hf; clear hf
      have HKL := Lib.hid hkl; clear hkl
      clear hnew
      go_wp2
      go_ret
      refine ⟨_, rfl, ⟨outs, HKL.out, by rw [← HKL.out]; exact Rd.own HOWN.out, fun j q p h1 h2 => ⟨(HQ.out j q p h1 h2).1, (HQ.out j q p h1 h2).2.keep HF.out fun _ _ => id⟩, fun _ _ _ h => h, fun _ _ _ _ _ _ _ _ h => h⟩, HF.out⟩

end Go.Proofs.Ytclihppeaikhiaa
