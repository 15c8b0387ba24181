/- tributarylaw02.back: the walk at no items, and both together. -/
import Derived.Test.YtclihppeaikhiaaBack
namespace Go.Proofs.Ytclihppeaikhiaa
open Go.RowKit

def BackNRel (w : World) (ib : Nat) (bs : List UInt8) (u : Value) (wr : World) : Prop := u = .int .i64 0 ∧ InSt wr ib (some bs) ∧ Frm Nowhere w wr

set_option maxHeartbeats 1000000 in
set_option maxRecDepth 1000000 in
theorem back_nil (w : World) (vb : Value) (bs : List UInt8) (hb : Rd w vb bs.length (bV bs)) (h7 : bs.length ≤ 1000000) (ad : Option Addr) (good : Bool)
    (hg : good = true → bs = []) (hng : good = false → bs ≠ []) :
    Calls Try.prog 26 #[vb, .slice ad 0 0] w fun e w' => e = .returned (.bool good) ∧ Frm Nowhere w w' := by
  have hnw := newin vb bs w hb (by omega)
  have HNW := Lib.hid hnw; clear hnw
  have hlast : doneOf (some bs) = good := by
    cases good with
    | true => rw [hg rfl]; simp [doneOf]
    | false =>
      have h1 := hng rfl
      cases bs with
      | nil => exact absurd rfl h1
      | cons x y => simp [doneOf]
  clear hb h7 hg hng
  have HLAST := Lib.hid hlast; clear hlast
  go_enter Try.func26, Try.ntmps26
  go_wp2_with (go_at_call 34; refine HNW.out.mono ?_)
  rintro e w2 ⟨ib, rfl, hst, hib, hf2⟩
  have HST := Lib.hid hst; clear hst
  have HF2 := Lib.hid hf2; clear hf2
  go_wp2
  go_loopw [11] (fun u wr => BackNRel w ib bs u wr) (fun _ _ => 0)
  case atStart => exact ⟨rfl, HST.out, HF2.out⟩
  case round =>
    obtain ⟨rfl, hin, hfm⟩ := hrel
    have hdn := done_go ib (some bs) wr hin
    rw [HLAST.out] at hdn
    have HDN := Lib.hid hdn; clear hdn
    have HFM := Lib.hid hfm; clear hfm
    clear hin
    go_wp2_with (go_at_call 33; refine HDN.out.mono ?_; rintro e w3 ⟨rfl, rfl⟩)
    go_ret
    exact ⟨rfl, HFM.out⟩

theorem back_any (w : World) (vb : Value) (bs : List UInt8) (hb : Rd w vb bs.length (bV bs)) (h7 : bs.length ≤ 1000000) (l : List Item) (vl : Value) (hl : ItemsAt w vl l) (good : Bool)
    (hg : good = true → bs = itemsB l ∧ ∀ i ∈ l, i.n ≠ -9223372036854775808) (hng : good = false → bs ≠ itemsB l) :
    Calls Try.prog 26 #[vb, vl] w fun e w' => e = .returned (.bool good) ∧ Frm Nowhere w w' := by
  rcases hl.1 with ⟨ad, rfl, h0⟩ | ⟨b, off, c, rfl, -, -, -⟩
  · obtain rfl : l = [] := List.eq_nil_of_length_eq_zero h0
    exact back_nil w vb bs hb h7 ad good (fun h => (hg h).1) hng
  · exact back_some w vb bs hb h7 l b off c hl good hg hng

end Go.Proofs.Ytclihppeaikhiaa
