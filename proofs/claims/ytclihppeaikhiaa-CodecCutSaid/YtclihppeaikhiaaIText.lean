/- codec.In.Text. -/
import Derived.Test.YtclihppeaikhiaaINum
import Derived.Test.YtclihppeaikhiaaUnlike
namespace Go.Proofs.Ytclihppeaikhiaa
open Go.RowKit

def TextStep (st : Option (List UInt8)) (m : Int) (s : ByteArray) (st' : Option (List UInt8)) : Prop :=
  ∃ (n : Int) (st1 : Option (List UInt8)), NumStep st m n st1 ∧ match st1 with
    | none => s = ⟨#[]⟩ ∧ st' = none
    | some bs => (0 ≤ n ∧ n ≤ bs.length ∧ s = ⟨(bs.take n.toNat).toArray⟩ ∧ st' = some (bs.drop n.toNat)) ∨ ((n < 0 ∨ (bs.length : Int) < n) ∧ s = ⟨#[]⟩ ∧ st' = none)
theorem TextStep.det {st : Option (List UInt8)} {m : Int} {v u : ByteArray} {s t : Option (List UInt8)} (h : TextStep st m v s) (k : TextStep st m u t) : v = u ∧ s = t := by
  obtain ⟨n, st1, h1, h2⟩ := h
  obtain ⟨n', st1', k1, k2⟩ := k
  obtain ⟨rfl, rfl⟩ := h1.det k1
  cases st1 with
  | none => exact ⟨h2.1.trans k2.1.symm, h2.2.trans k2.2.symm⟩
  | some bs =>
    rcases h2 with ⟨a, b, c, d⟩ | ⟨a, c, d⟩ <;> rcases k2 with ⟨a', b', c', d'⟩ | ⟨a', c', d'⟩
    · exact ⟨c.trans c'.symm, d.trans d'.symm⟩
    · omega
    · omega
    · exact ⟨c.trans c'.symm, d.trans d'.symm⟩

set_option maxHeartbeats 400000 in
set_option maxRecDepth 1000000 in
theorem itext_any (ib : Nat) (st : Option (List UInt8)) (m : Int) (w : World) (h : InSt w ib st) (hm2 : m ≤ 9223372036854775807) (hm3 : -9223372036854775808 ≤ m) :
    Calls Try.prog 30 #[.pointer (some ⟨ib, 0, none⟩), .int .i64 m] w fun e w' => ∃ s st', e = .returned (.string s) ∧ TextStep st m s st' ∧ InSt w' ib st' ∧ Frm (Only ib) w w' := by
  have hn := inum_any ib st m w h hm2 hm3
  have HN := Lib.hid hn; clear hn
  clear h
  go_enter Try.func30, Try.ntmps30
  go_wp2_with (go_at_call 29; refine HN.out.mono ?_)
  rintro e w1 ⟨n, st1, rfl, hs1, hi1, hf1⟩
  have HS := Lib.hid hs1; clear hs1
  have HF := Lib.hid hf1; clear hf1
  cases st1 with
  | none =>
    have c1 := cell_at (show w1.heap[ib]? = _ from hi1) 1 rfl
    have HI := Lib.hid hi1; clear hi1
    go_wp2
    go_ret
    exact ⟨_, none, rfl, ⟨n, none, HS.out, rfl, rfl⟩, HI.out, HF.out⟩
  | some bs =>
    obtain ⟨v, hv, hlt⟩ := hi1
    obtain ⟨a, c, rfl⟩ := rd_shape hv.rd
    have c0 := cell_at hv.cells 0 rfl
    have c1 := cell_at hv.cells 1 rfl
    have f0 := free_at hv.cells 0
    have hfail := fail_go ib _ false w1 hv.cells
    have HFA := Lib.hid hfail; clear hfail
    have HLT := Lib.hid hlt; clear hlt
    by_cases hn : 0 ≤ n ∧ n ≤ bs.length
    · obtain ⟨k, rfl⟩ := Int.eq_ofNat_of_zero_le hn.1
      have hk : k ≤ bs.length := by omega
      have cv := conv_str (hv.rd.pre k hk)
      have hcap := rd_cap hv.rd
      have HV := Lib.hid hv; clear hv
      generalize hL : bs.length = L at *
      have HL := Lib.hid hL; clear hL
      clear hn
      have hfin : ∀ v', (v' = .slice (a.map fun x => x.add k) (L - k) (c - k) ∨ ∃ m c', v' = .slice a m c' ∧ m = 0 ∧ c' = 0 ∧ L = k) →
          InSt (w1.setCell ⟨ib, 0, none⟩ v') ib (some (bs.drop k)) := by
        intro v' hv'
        have hlen : (bs.drop k).length = L - k := by rw [List.length_drop, HL.out]
        have hown : v'.ownBlock = (Value.slice a L c).ownBlock := by
          rcases hv' with rfl | ⟨m, c', rfl, _⟩
          · cases a with
            | none => rfl
            | some a => simp [Value.ownBlock, Addr.add]; split <;> rfl
          · cases a <;> rfl
        refine ⟨v', ⟨by have := set_at HV.out.cells 0 v'; simpa using this, ?_, by rw [hown]; exact HV.out.apart⟩, fun k hk => HLT.out k (hown ▸ hk)⟩
        rw [hlen]
        have hrd := HV.out.rd
        rcases hv' with rfl | ⟨m, c', rfl, rfl, rfl, hLk⟩
        · rcases hrd with ⟨ad, h1, h2, h3⟩ | ⟨b, off, c'', h1, h2, h3, h4⟩
          · injection h1 with e1 e2 e3
            have hL0 : L = 0 := by rw [← HL.out]; exact h2
            have hb : bs = [] := by simpa [bV] using h3
            subst hb
            refine .inl ⟨a.map fun x => x.add k, by rw [hL0, e3]; simp, by omega, by simp [bV]⟩
          · injection h1 with e1 e2 e3
            subst e1
            have hap : b ≠ ib := fun e => HV.out.apart (by rw [e]; rfl)
            refine .inr ⟨b, off + k, c - k, by simp [addr_add], by omega, by omega, fun j u hu => ?_⟩
            refine (only_set w1 ib 0 _).cell' ?_ hap
            have := h4 (k + j) u (by rw [← hu, bV, bV, List.map_drop, List.getElem?_drop])
            rwa [← Nat.add_assoc] at this
        · have : bs.drop k = [] := List.eq_nil_of_length_eq_zero (by omega)
          rw [this]
          exact .inl ⟨a, rfl, by omega, rfl⟩
      have FIN := Lib.hid hfin; clear hfin
      have hstep : TextStep st m ⟨(bs.take k).toArray⟩ (some (bs.drop k)) := ⟨k, some bs, HS.out, .inl ⟨by omega, by have := HL.out; omega, by simp, by simp⟩⟩
      have ST := Lib.hid hstep; clear hstep
      by_cases hcap2 : c = k
      · subst hcap2
        go_wp2
        go_ret
        exact ⟨_, _, rfl, ST.out, FIN.out _ (.inr ⟨_, _, rfl, by omega, by omega, by omega⟩), HF.out.trans (only_set w1 ib 0 _) fun _ _ h => h⟩
      · go_wp2
        go_ret
        exact ⟨_, _, rfl, ST.out, FIN.out _ (.inl rfl), HF.out.trans (only_set w1 ib 0 _) fun _ _ h => h⟩
    · have hn' : n < 0 ∨ (bs.length : Int) < n := by omega
      have HV := Lib.hid hv; clear hv
      rcases hn' with h0 | h0
      all_goals
        clear hn
        go_wp2_with (go_at_call 28; refine HFA.out.mono ?_)
        rintro e w2 ⟨rfl, hbad, hfm⟩
        have H1 := Lib.hid hbad; clear hbad
        have H2 := Lib.hid hfm; clear hfm
        go_wp2
        go_ret
        exact ⟨_, none, rfl, ⟨n, some bs, HS.out, .inr ⟨by omega, rfl, rfl⟩⟩, H1.out, HF.out.trans H2.out fun _ _ h => h⟩

end Go.Proofs.Ytclihppeaikhiaa
