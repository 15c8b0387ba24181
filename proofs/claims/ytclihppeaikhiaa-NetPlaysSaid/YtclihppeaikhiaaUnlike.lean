/- tributarylaw02.CodecUnlike: the walk. -/
import Derived.Test.YtclihppeaikhiaaOut2
import Derived.Deep.QuietTactic
import Derived.BigQuiet
import Derived.OpenShut
namespace Go.Proofs.Ytclihppeaikhiaa
open Go.RowKit

theorem Rd.pre {w : World} {ad : Option Addr} {c : Nat} {bs : List UInt8} (h : Rd w (.slice ad bs.length c) bs.length (bV bs)) (k : Nat) (hk : k ≤ bs.length) : Rd w (.slice ad k c) (bs.take k).length (bV (bs.take k)) := by
  have hl : (bs.take k).length = k := by rw [List.length_take]; omega
  rcases h with ⟨ad', h1, h2, h3⟩ | ⟨b, off, c', h1, h2, h3, h4⟩
  · injection h1 with e1 e2 e3
    have hb : bs = [] := by simpa [bV] using h3
    subst hb
    obtain rfl : k = 0 := by simpa using hk
    subst e1 e3
    exact .inl ⟨_, rfl, by simp, by simp [bV]⟩
  · injection h1 with e1 e2 e3
    subst e1 e3
    refine .inr ⟨b, off, _, by rw [hl], by omega, h3, fun j u hu => h4 j u ?_⟩
    rw [bV, List.map_take, List.getElem?_take] at hu
    split at hu
    · exact hu
    · cases hu
theorem Rd.drewN {w : World} {v : Value} {n : Nat} {xs : List Value} (h : Rd w v n xs) (k : Nat) : Rd (w.drewN k) v n xs := h

theorem rd_cap {w : World} {ad : Option Addr} {n c : Nat} {xs : List Value} (h : Rd w (.slice ad n c) n xs) : n ≤ c := by
  rcases h with ⟨_, h1, h2, _⟩ | ⟨b, off, c', h1, h2, _⟩
  · omega
  · injection h1 with e1 e2 e3; omega
theorem unl_le {x y : Int} {bx by_ : List UInt8} (hx : numB x = bx) (hy : numB y = by_) (h : bx.length ≤ by_.length) : ((bx == by_.take bx.length) == (x == y)) = true := by
  subst hx hy
  by_cases e : x = y
  · subst e; simp
  · have hn : numB x ≠ (numB y).take (numB x).length := fun hh => e (numB_prefix (x := (numB y).drop (numB x).length) (y := []) (by
      rw [List.append_nil]; exact (congrArg (· ++ (numB y).drop (numB x).length) hh).trans (List.take_append_drop _ _))).1
    rw [beq_false_of_ne hn, beq_false_of_ne e]; rfl
theorem unl_ge {x y : Int} {bx by_ : List UInt8} (hx : numB x = bx) (hy : numB y = by_) (h : by_.length ≤ bx.length) : ((bx.take by_.length == by_) == (x == y)) = true := by
  have := unl_le hy hx h
  rw [BEq.comm (a := bx.take by_.length), BEq.comm (a := x)]
  exact this
theorem out_two (w : World) : OutAt ((w.alloc (.cells #[.slice none 0 0] 27)).alloc (.cells #[.slice none 0 0] 27)) w.heap.size (.slice none 0 0) [] :=
  ⟨(Below.heap_alloc _ _ _ (by simp)).trans (heap_alloc_new w _), World.ownsRow_nil _ 0 _ 1, by simp [Value.ownBlock]⟩

set_option maxHeartbeats 400000 in
set_option maxRecDepth 1000000 in
theorem unlike (x y : Int) (hx1 : -9223372036854775808 ≤ x) (hx2 : x ≤ 9223372036854775807) (hy1 : -9223372036854775808 ≤ y) (hy2 : y ≤ 9223372036854775807) (w : World) :
    Calls Try.prog 4 #[.int .i64 x, .int .i64 y] w fun e w' => e = .returned (.bool true) ∧ Frm (fun _ => False) w w' := by
  have lx := numB_le10 hx1 hx2
  have ly := numB_le10 hy1 hy2
  have px := numB_pos x
  have py := numB_pos y
  have hnx := num_go w.heap.size x ((w.alloc (.cells #[.slice none 0 0] 27)).alloc (.cells #[.slice none 0 0] 27)) (.slice none 0 0) [] (out_two w) hx1 hx2 (by simp)
  have hoy : OutAt ((w.alloc (.cells #[.slice none 0 0] 27)).alloc (.cells #[.slice none 0 0] 27)) (w.heap.size + 1) (.slice none 0 0) [] := by
    have := out_new (w.alloc (.cells #[.slice none 0 0] 27))
    simpa using this
  rw [List.nil_append] at hnx
  have HNX := Lib.hid hnx; clear hnx
  have HOY := Lib.hid hoy; clear hoy
  have B1 := Lib.hid hx1; clear hx1
  have B2 := Lib.hid hx2; clear hx2
  have B3 := Lib.hid hy1; clear hy1
  have B4 := Lib.hid hy2; clear hy2
  generalize hX : numB x = bx at *
  generalize hY : numB y = by_ at *
  have HX := Lib.hid hX; clear hX
  have HY := Lib.hid hY; clear hY
  go_enter Try.func4, Try.ntmps4
  go_wp2_with fail
  refine HNX.out.mono ?_
  rintro e w1 ⟨rfl, v1, ho, hf, hm⟩
  have hoy1 : OutAt w1 (w.heap.size + 1) (.slice none 0 0) [] :=
    ⟨hm.blk HOY.out.cell (fun hs => by rcases hs with h | h; · omega
                                       · simp [Value.ownBlock] at h), World.ownsRow_nil _ 0 _ 1, by simp [Value.ownBlock]⟩
  have hny := num_go (w.heap.size + 1) y w1 (.slice none 0 0) [] hoy1 B3.out B4.out (by simp)
  rw [HY.out, List.nil_append] at hny
  have HNY := Lib.hid hny; clear hny
  have HO := Lib.hid ho; clear ho
  have HF := Lib.hid hf; clear hf
  have HM := Lib.hid hm; clear hm
  have HO1 := Lib.hid hoy1; clear hoy1
  go_wp2_with fail
  refine HNY.out.mono ?_
  rintro e w2 ⟨rfl, v2, ho2, hf2, hm2⟩
  have hx2 : OutAt w2 w.heap.size v1 bx := by
    have hb := HO.out
    have hlt : w.heap.size + 1 < w1.heap.size := lt_of_block HO1.out.cell
    have hno : ¬ OutS (w.heap.size + 1) (.slice none 0 0) w.heap.size := fun hs => by
      rcases hs with h | h
      · omega
      · simp [Value.ownBlock] at h
    refine ⟨hm2.blk hb.cell hno, hm2.owns hb.own fun k hk hs => ?_, hb.apart⟩
    rcases hs with h | h
    · rcases HF.out k hk with h1 | h1
      · simp [Value.ownBlock] at h1
      · simp at h1; omega
    · simp [Value.ownBlock] at h
  have he1 := end_ok w.heap.size w2 v1 bx hx2 (by omega)
  have HE1 := Lib.hid he1; clear he1
  have HO2 := Lib.hid ho2; clear ho2
  have HF2 := Lib.hid hf2; clear hf2
  have HM2 := Lib.hid hm2; clear hm2
  have HX2 := Lib.hid hx2; clear hx2
  go_wp2_with fail
  refine HE1.out.mono ?_
  rintro e w3 ⟨v3, rfl, hc3⟩
  have hy3 : OutAt w3 (w.heap.size + 1) v2 by_ := ⟨hc3.frm.blk HO2.out.cell id, hc3.frm.owns HO2.out.own (fun _ _ h => h), HO2.out.apart⟩
  have he2 := end_ok (w.heap.size + 1) w3 v2 by_ hy3 (by omega)
  have HE2 := Lib.hid he2; clear he2
  have HC3 := Lib.hid hc3; clear hc3
  have HY3 := Lib.hid hy3; clear hy3
  go_wp2_with fail
  refine HE2.out.mono ?_
  rintro e w4 ⟨v4, rfl, hc4⟩
  obtain ⟨a3, c3, rfl⟩ := HC3.out.shape
  obtain ⟨a4, c4, rfl⟩ := hc4.shape
  have HC4 := Lib.hid hc4; clear hc4
  go_wp2_with (go_at_call 14; refine (awake02 _).mono ?_)
  rintro e w5 ⟨rfl, hm5⟩
  have HM5 := Lib.hid hm5; clear hm5
  have hr3 : Rd w5 (.slice a3 bx.length c3) bx.length (bV bx) := (Rd.own HC3.out.own).keep (HC4.out.frm.trans HM5.out fun _ _ h => h) (fun _ _ h => h)
  have hr4 : Rd w5 (.slice a4 by_.length c4) by_.length (bV by_) := (Rd.own HC4.out.own).keep HM5.out (fun _ _ h => h)
  have HR3 := Lib.hid hr3; clear hr3
  have HR4 := Lib.hid hr4; clear hr4
  have hcap3 := rd_cap HR3.out
  have hcap4 := rd_cap HR4.out
  have hfr : ∀ nq, Frm (fun _ => False) w (w5.drewN nq) := fun nq => by
    have h0 := ((Frm.alloc (fun _ => False) w (.cells #[.slice none 0 0] 27)).trans (Frm.alloc (fun _ => False) _ (.cells #[.slice none 0 0] 27)) (fun _ _ h => h)).trans HM.out (out_alloc_no w)
    have h1 := h0.trans HM2.out (fun i hi hs => by
      rcases hs with h | h
      · omega
      · simp [Value.ownBlock] at h)
    exact ((((h1.trans HC3.out.frm fun _ _ h => h).trans HC4.out.frm fun _ _ h => h).trans HM5.out fun _ _ h => h).trans (Frm.drewN (fun _ => False) w5 nq) fun _ _ h => h)
  have HFR := Lib.hid hfr; clear hfr
  by_cases hle : bx.length ≤ by_.length
  · have cv3 := fun nq => conv_str ((HR3.out.pre bx.length (Nat.le_refl _)).drewN nq)
    have cv4 := fun nq => conv_str ((HR4.out.pre bx.length hle).drewN nq)
    go_wp2_with fail
    go_quiet (fail)
    go_wp2
    go_ret
    exact ⟨ret_bool (unl_le HX.out HY.out hle), HFR.out nq⟩
  · have cv3 := fun nq => conv_str ((HR3.out.pre by_.length (by omega)).drewN nq)
    have cv4 := fun nq => conv_str ((HR4.out.pre by_.length (Nat.le_refl _)).drewN nq)
    go_wp2_with fail
    go_quiet (fail)
    go_wp2
    go_ret
    exact ⟨ret_bool (unl_ge HX.out HY.out (by omega)), HFR.out nq⟩

theorem unlike_law (x : Int) (hx : (Lit.int .i64 x).wf = true) (y : Int) (hy : (Lit.int .i64 y).wf = true) (w : World) :
    Calls Try.prog 4 #[.int .i64 x, .int .i64 y] w fun e w' => e = .returned (.bool true) ∧ Frm (fun _ => False) w w' :=
  unlike x y (bounds_i64 hx).1 (bounds_i64 hx).2 (bounds_i64 hy).1 (bounds_i64 hy).2 w

end Go.Proofs.Ytclihppeaikhiaa
