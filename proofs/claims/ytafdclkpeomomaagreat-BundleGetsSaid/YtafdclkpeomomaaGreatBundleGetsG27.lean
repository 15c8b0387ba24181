/- Words for the law BundleGets: R8e. -/
import Derived.Test.YtafdclkpeomomaaGreatBundleGetsG9
import Derived.Test.YtafdclkpeomomaaGreatBundleGetsG15
import Derived.Test.YtafdclkpeomomaaGreatBundleGetsG26
set_option linter.unusedSimpArgs false
set_option linter.unusedVariables false
/- tributaryref08: Leaves, Dots: the walks. -/
namespace Go.Proofs.YtafdclkpeomomaaGreat
open Go.RowKit

set_option maxRecDepth 100000 in
theorem r8Leaves_any (Q : Nat → Prop) (es : List Ent) (ks : KidsL) (w : World) (ev kv : Value) (ht : TreeAt Q w ev kv es ks) (hsz : sizeT es ks ≤ 100000) :
    Calls Tryz.prog 104 #[.agg #[ev, kv]] w (BelowPost w es ks) := by
  obtain ⟨ae, ce, rfl⟩ := ht.ents.rd.sl
  obtain ⟨os, hkr, hfor⟩ := ht.kids
  obtain ⟨ak, ck, rfl⟩ := hkr.rd.sl
  have HC := Lib.hid (fun W (f : Frm NoS w W) => r8below_any Q _ es ks W _ _ (.slice none 0 0) [] (Nat.lt_succ_self _) (ht.keep0 f) hsz (.inl ⟨none, rfl, rfl, rfl⟩) (by unfold sizeT at hsz; simp; omega))
  clear hkr hfor ht hsz
  go_enter Tryz.func104, Tryz.ntmps104
  go_wp2_with (go_at_call 136; go_loud (refine (HC.out _ (Frm.alloc _ _ _)).mono ?_); rintro e w3 ⟨v3, l, rfl, ho3, hd3, hone3⟩; obtain ⟨a3, c3, rfl⟩ := ho3.shape; have HO3 := Lib.hid (ho3.base (Frm.alloc NoS w _)); clear ho3; have HD3 := Lib.hid hd3; clear hd3; have HON := Lib.hid hone3; clear hone3)
  go_ret
  exact ⟨_, l, rfl, HO3.out, HD3.out, HON.out⟩
set_option maxHeartbeats 2000000 in
set_option maxRecDepth 100000 in
theorem r8Dots_any (Q : Nat → Prop) (es : List Ent) (ks : KidsL) (w : World) (ev kv : Value) (ht : TreeAt Q w ev kv es ks) (hsz : sizeT es ks ≤ 2000) (hd : DotsOk (dotsT es ks)) :
    Calls Tryz.prog 56 #[.agg #[ev, kv]] w fun e w' => ∃ v' c, e = .returned v' ∧ OwnAt w w' 107 3 v' c.length (spC c) ∧ OfC (dotsT es ks) c ∧ c.length ≤ 8000 := by
  obtain ⟨i0, hi, hz0, hz1, hz2⟩ := info_parts info_dot
  obtain ⟨ae, ce, rfl⟩ := ht.ents.rd.sl
  obtain ⟨os, hkr, hfor⟩ := ht.kids
  obtain ⟨ak, ck, rfl⟩ := hkr.rd.sl
  have HC := Lib.hid (fun W (f : Frm NoS w W) => r8Leaves_any Q es ks W _ _ (ht.keep0 f) (by omega))
  have hdl := dotsT_length_le es ks
  have HDL := Lib.hid (show (dotsT es ks).length ≤ 2000 by omega)
  have HDK := Lib.hid hd; clear hd
  have HFA := Lib.hid (Frm.alloc NoS w (.cells #[.slice ae es.length ce, .slice ak ks.len ck] 25))
  clear hkr hfor ht hsz hdl
  go_enter Tryz.func56, Tryz.ntmps56
  go_wp2_with (go_at_call 104; go_loud (refine (HC.out _ HFA.out).mono ?_); rintro e w3 ⟨v3, l, rfl, ho3, hd3, -⟩; obtain ⟨a3, c3, rfl⟩ := ho3.shape; have HO3 := Lib.hid (ho3.base HFA.out); clear ho3; have HD3 := Lib.hid hd3; clear hd3)
  have hl := HDL.out
  rw [← HD3.out, dotsL_length] at hl
  generalize hn : l.length = n at *
  have HN := Lib.hid hn; clear hn
  go_loopw [3, 10] (fun v i ww => ∃ k : Nat, k ≤ n ∧ i = .int .i64 k ∧ OwnAt w3 ww 134 2 v k (ruC (dotsL (l.take k)))) (fun _ i _ => n - (intOf i).toNat)
  case atStart => exact ⟨0, Nat.zero_le _, rfl, OwnAt.nil (Frm.refl _ _) _ _⟩
  case round =>
    obtain ⟨k, hk, rfl, ho⟩ := hrel
    obtain ⟨av, cv, rfl⟩ := ho.shape
    have HO := Lib.hid ho; clear ho
    by_cases hlt : k < n
    · rcases Rd.shape HO3.out.rd with ⟨ad, he, h0⟩ | ⟨b, off, cc, he, hmax⟩
      · exfalso; omega
      · injection he with e1 e2 e3
        subst e1 e3
        clear e2
        have hlk : k < l.length := by rw [HN.out]; exact hlt
        obtain ⟨p0, p1⟩ := lf_at HO3.out.rd k hlk
        have q0 := HO.out.frm.cell' p0 id
        have q1 := HO.out.frm.cell' p1 id
        clear p0 p1
        have hE := dotsL_take_succ hlk
        generalize l.getD k (.bool true, Ent.zero) = x at *
        have HEE := Lib.hid hE; clear hE
        go_wp2_with (at_builtin; go_loud (refine wpList_appO _ _ [.int .i64 x.2.dc, .int .i64 x.2.n] rfl (.tmp 13) (.tmp 20) 151 rfl 134 i0 _ 2 16 Tryz.underlying151 hi hz0 hz1 hz2 (by decide) (by decide) _ _ _ HO.out 1 1 rfl (by simp [Act.eval]) rfl (by simp [Value.oneCell']) (by simp only [maxLen]; omega) (by omega) ?_); intro ad2 cc2 w2 own2; have OW := Lib.hid own2; clear own2)
        go_roundw
        case rel => exact ⟨k + 1, by omega, by go_num, by rw [HEE.out, ruC_append]; exact OW.out⟩
        case measure => simp [intOf]; omega
    · obtain rfl : n = k := by omega
      rw [List.take_of_length_le (by rw [HN.out]; exact Nat.le_refl _), HD3.out] at HO
      have hnn : n = (dotsT es ks).length := by rw [← HD3.out, dotsL_length]; exact HN.out.symm
      have hrun : RunAt wr (.slice av n cv) (dotsT es ks) := by show Rd wr _ (dotsT es ks).length _; rw [← hnn]; exact HO.out.rd
      have HRUN := Lib.hid hrun; clear hrun hnn
      go_wp2_with (go_at_call 105; go_loud (refine (r7Of_any _ _ (dotsT es ks) HRUN.out HDK.out (by have := HDL.out; omega)).mono ?_); rintro e w5 ⟨v5, c5, rfl, ho5, hof, -⟩; obtain ⟨a5, cc5, rfl⟩ := ho5.shape; have HO5 := Lib.hid ho5; clear ho5; have HOF := Lib.hid hof; clear hof)
      go_ret
      exact ⟨_, c5, rfl, (HO5.out.base HO.out.frm).base HO3.out.frm, HOF.out, by have := HOF.out.length; have := HDL.out; omega⟩
end Go.Proofs.YtafdclkpeomomaaGreat
