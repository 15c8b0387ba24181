/- tributarylaw02: Asks; CodecFails: the walk. -/
import Derived.Test.YtclihppeaikhiaaNil
import Derived.Test.YtclihppeaikhiaaPuts
namespace Go.Proofs.Ytclihppeaikhiaa
open Go.RowKit Go.WideShapes

structure Ask where
  t : Bool
  m : Int
def Ask.zero : Ask := ⟨false, 0⟩
instance : Inhabited Ask := ⟨Ask.zero⟩
def Ask.cell (i : Ask) : Nat → Value
  | 0 => .bool i.t
  | _ => .int .i64 i.m
def Ask.fits (i : Ask) : Prop := -9223372036854775808 ≤ i.m ∧ i.m ≤ 9223372036854775807
def AsksAt (w : World) (v : Value) (l : List Ask) : Prop := Arr w v l.length 2 (fun k j => (l.getD k Ask.zero).cell j) ∧ ∀ i ∈ l, i.fits
theorem AsksAt.keep {w w' : World} {v : Value} {l : List Ask} (h : AsksAt w v l) {S : Nat → Prop} (f : Frm S w w') (hn : ∀ k, v.ownBlock = some k → ¬ S k) : AsksAt w' v l := ⟨h.1.keep f hn, h.2⟩
theorem ask_at {w : World} {b off c n : Nat} {l : List Ask} (h : AsksAt w (.slice (some ⟨b, off, none⟩) n c) l) (k : Nat) (hk : k < l.length) :
    n = l.length ∧ w.cell? ⟨b, off + k * 2, none⟩ = some (.bool (l.getD k Ask.zero).t) ∧ w.cell? ⟨b, off + k * 2 + 1, none⟩ = some (.int .i64 (l.getD k Ask.zero).m) ∧ (l.getD k Ask.zero).fits := by
  have hf : (l.getD k Ask.zero).fits := by
    have : l.getD k Ask.zero = l[k] := by simp [List.getD, hk]
    rw [this]; exact h.2 _ (List.getElem_mem hk)
  rcases h.1 with ⟨_, _, _⟩ | ⟨b', off', c', h1, h2, h3, h4⟩
  · omega
  · injection h1 with e1 e2 e3
    injection e1 with e1
    injection e1 with e4 e5
    subst e4 e5
    exact ⟨e2, h4 k 0 hk (by omega), h4 k 1 hk (by omega), hf⟩
theorem AsksAt.shape {w : World} {v : Value} {l : List Ask} (h : AsksAt w v l) : (∃ ad, v = .slice ad 0 0 ∧ l = []) ∨ ∃ b off c, v = .slice (some ⟨b, off, none⟩) l.length c ∧ l.length ≤ 9223372036854775807 := by
  rcases h.1 with ⟨ad, h1, h0⟩ | ⟨b, off, c, h1, h2, h3, _⟩
  · exact .inl ⟨ad, h1, List.eq_nil_of_length_eq_zero h0⟩
  · exact .inr ⟨b, off, c, h1, Nat.le_trans h2 h3⟩
theorem Try.cells_ask : Try.prog.cellsOf 66 = 2 := by kernel_rfl
set_option maxRecDepth 100000 in
theorem open_asks {H : Type} {enc : TypeId × Value → H} {w : World} {base : Nat} {v : Value} {d : DataW H} {ps : List MemPlace} (hv : Value.okWide Try.prog w .any base 61 v) (h : DataW.Trod enc Try.prog w 0 (fun _ => true) true 61 v d ps) :
    ∃ l : List Ask, AsksAt w v l := by
  obtain ⟨a0, len, cap, rfl⟩ := okWide_slice Try.underlying61 hv
  obtain ⟨fuel, hf⟩ := h
  rcases open_arr Try.underlying61 Try.cells_ask (by omega) (fun _ => rfl) hf with ⟨rfl, rfl⟩ | ⟨b, off, rfl, h1, h2, n, hel⟩
  · exact ⟨[], .inl ⟨a0, rfl, rfl⟩, by simp⟩
  · have hx : ∀ k, k < len → ∃ i : Ask, (∀ j, j < 2 → w.cell? ⟨b, off + k * 2 + j, none⟩ = some (i.cell j)) ∧ i.fits := fun k hk => by
      obtain ⟨cs, hl, hc, y, hy⟩ := hel k hk
      obtain ⟨y0, y1, m, _, hlen, g0, g1⟩ := Go.ChangeShapes.trod_struct2 Try.underlying66 hy
      rw [Try.cells_bool] at g0
      rw [Try.cells_i64] at g1
      obtain ⟨c0, c1, rfl⟩ : ∃ c0 c1, cs = [c0, c1] := by
        match cs, hl with
        | [c0, c1], _ => exact ⟨c0, c1, rfl⟩
      obtain ⟨t, e0, _⟩ := DataW.trod_bool Try.underlying4 g0
      obtain ⟨x, e1, _, hw⟩ := DataW.trod_int Try.underlying2 g1
      simp at e0 e1
      subst e0 e1
      refine ⟨⟨t, x⟩, fun j hj => ?_, (wf64 hw).1, (wf64 hw).2⟩
      match j, hj with
      | 0, _ => exact hc 0 _ rfl
      | 1, _ => exact hc 1 _ rfl
    obtain ⟨l, hl, hlp⟩ := list_of_lt hx
    refine ⟨l, .inr ⟨b, off, cap, by rw [hl], by omega, h2, fun k j hk hj => (hlp k (by omega) Ask.zero).1 j hj⟩, fun i hi => ?_⟩
    obtain ⟨k, hk, rfl⟩ := List.getElem_of_mem hi
    have := (hlp k (by omega) Ask.zero).2
    have e : l.getD k Ask.zero = l[k] := by simp [List.getD, hk]
    rwa [e] at this

set_option maxHeartbeats 400000 in
set_option maxRecDepth 1000000 in
theorem inum_bad (ib : Nat) (m : Int) (w : World) (h : InBad w ib) : Calls Try.prog 29 #[.pointer (some ⟨ib, 0, none⟩), .int .i64 m] w fun e w' => e = .returned (.int .i64 0) ∧ w = w' := by
  have c1 := cell_at (show w.heap[ib]? = _ from h) 1 rfl
  clear h
  go_enter Try.func29, Try.ntmps29
  go_wp2
  go_ret
  exact ⟨rfl, rfl⟩
set_option maxHeartbeats 400000 in
set_option maxRecDepth 1000000 in
theorem itext_bad (ib : Nat) (m : Int) (w : World) (h : InBad w ib) : Calls Try.prog 30 #[.pointer (some ⟨ib, 0, none⟩), .int .i64 m] w fun e w' => e = .returned (.string ⟨#[]⟩) ∧ w = w' := by
  have c1 := cell_at (show w.heap[ib]? = _ from h) 1 rfl
  have HI := Lib.hid h; clear h
  go_enter Try.func30, Try.ntmps30
  go_wp2_with (go_at_call 29; refine (inum_bad _ _ _ HI.out).mono ?_; rintro e w' ⟨rfl, rfl⟩)
  go_ret
  exact ⟨rfl, rfl⟩

set_option maxHeartbeats 400000 in
set_option maxRecDepth 1000000 in
theorem fails_no (w : World) (vb vl : Value) (bs : List UInt8) (hb : Rd w vb bs.length (bV bs)) (l : List Ask) (hl : AsksAt w vl l) (hn : 70000 < bs.length ∨ 200 < l.length) :
    Calls Try.prog 10 #[vb, vl] w fun e w' => e = .returned (.bool true) ∧ Frm (fun _ => False) w w' := by
  obtain ⟨ab, cb, rfl⟩ := rd_shape hb
  obtain ⟨al, cl, rfl⟩ : ∃ a c, vl = .slice a l.length c := by
    rcases hl.shape with ⟨ad, h1, h2⟩ | ⟨b, off, c, h1, _⟩
    · subst h2; exact ⟨ad, 0, h1⟩
    · exact ⟨_, c, h1⟩
  clear hb hl
  by_cases h7 : 70000 < bs.length
  · clear hn
    go_enter Try.func10, Try.ntmps10
    go_wp2_with fail
    refine (awake02 _).mono ?_
    rintro e w1 ⟨rfl, hm1⟩
    have H1 := Lib.hid hm1; clear hm1
    go_wp2_with fail
    refine (awake02 _).mono ?_
    rintro e w3 ⟨rfl, hm3⟩
    have H3 := Lib.hid hm3; clear hm3
    go_wp2
    go_ret
    exact ⟨rfl, H1.out.trans H3.out fun _ _ h => h⟩
  · have h2 : 200 < l.length := by omega
    clear hn
    go_enter Try.func10, Try.ntmps10
    go_wp2_with fail
    refine (awake02 _).mono ?_
    rintro e w1 ⟨rfl, hm1⟩
    have H1 := Lib.hid hm1; clear hm1
    go_wp2_with fail
    refine (awake02 _).mono ?_
    rintro e w3 ⟨rfl, hm3⟩
    have H3 := Lib.hid hm3; clear hm3
    go_wp2
    go_ret
    exact ⟨rfl, H1.out.trans H3.out fun _ _ h => h⟩

def FRel (w : World) (ib : Nat) (wr : World) : Prop := InBad wr ib ∧ Frm (fun _ => False) w wr

set_option maxHeartbeats 1000000 in
set_option maxRecDepth 1000000 in
theorem fails_yes0 (w : World) (vb vl : Value) (bs : List UInt8) (hb : Rd w vb bs.length (bV bs)) (l : List Ask) (hl : AsksAt w vl l) (h7 : bs.length ≤ 70000) (h2 : l.length ≤ 200) (h0 : bs.length = 0) :
    Calls Try.prog 10 #[vb, vl] w fun e w' => e = .returned (.bool true) ∧ Frm (fun _ => False) w w' := by
  have hsh := hl.shape
  obtain ⟨ab, cb, rfl⟩ := rd_shape hb
  have HB := Lib.hid hb; clear hb
  have HL := Lib.hid hl; clear hl
  have hdn : ∀ (ib : Nat) (w : World), InSt w ib (some bs) → Calls Try.prog 33 #[.pointer (some ⟨ib, 0, none⟩)] w fun e w' => e = .returned (.bool true) ∧ w = w' := fun ib w h => (done_go ib (some bs) w h).mono fun e w' ⟨he, hw⟩ => ⟨by rw [he]; exact ret_bool (by simp only [doneOf]; exact beq_iff_eq.2 h0), hw⟩
  have hb0 : ((bs.length : Int) == 0) = true := beq_iff_eq.2 (by omega)
  have HDN := Lib.hid hdn; clear hdn
  clear h0
  rcases hsh with ⟨ad, rfl, rfl⟩ | ⟨b, off, c, rfl, _⟩
  · clear h2
    go_enter Try.func10, Try.ntmps10
    go_wp2_with fail
    refine (awake02 _).mono ?_
    rintro e w1 ⟨rfl, hm1⟩
    have H1 := Lib.hid hm1; clear hm1
    go_wp2_with fail
    refine (newin _ bs w1 (HB.out.keep H1.out fun _ _ h => h) (by omega)).mono ?_
    rintro e w2 ⟨ib, rfl, hst, hib, hf2⟩
    have HST := Lib.hid hst; clear hst
    have HF2 := Lib.hid hf2; clear hf2
    have HIB := Lib.hid hib; clear hib
    go_wp2_with fail
    refine (left_go ib (some bs) w2 HST.out).mono ?_
    rintro e w' ⟨rfl, rfl⟩
    go_wp2_with fail
    refine (bad_go ib (some bs) w2 HST.out).mono ?_
    rintro e w' ⟨rfl, rfl⟩
    go_wp2_with fail
    refine (HDN.out ib w2 HST.out).mono ?_
    rintro e w' ⟨rfl, rfl⟩
    go_wp2_with fail
    obtain ⟨af, cf, hheap⟩ := HST.out.heap
    refine (fail_go ib _ _ w2 hheap).mono ?_
    rintro e w6 ⟨rfl, hbad6, hf6⟩
    have hf : Frm (fun _ => False) w w6 := (H1.out.trans HF2.out fun _ _ h => h).trans hf6 fun i hi hs => by
      have h1 := HIB.out; have h2 := H1.out.size; have h3 : i = ib := hs; omega
    have HF6 := Lib.hid hf; clear hf
    have HB6 := Lib.hid hbad6; clear hbad6
    clear hheap hf6
    go_wp2
    go_loopw [43] (fun i wr => i = .int .i64 0 ∧ FRel w ib wr) (fun _ _ => 0)
    case atStart => exact ⟨rfl, HB6.out, HF6.out⟩
    case round =>
      obtain ⟨rfl, hbad, hfm⟩ := hrel
      have HBAD := Lib.hid hbad; clear hbad
      have HFM := Lib.hid hfm; clear hfm
      go_wp2_with fail
      refine (bad_go ib none wr HBAD.out).mono ?_
      rintro e w' ⟨rfl, rfl⟩
      go_wp2_with fail
      refine (done_go ib none wr HBAD.out).mono ?_
      rintro e w' ⟨rfl, rfl⟩
      go_wp2_with fail
      refine (left_go ib none wr HBAD.out).mono ?_
      rintro e w' ⟨rfl, rfl⟩
      go_wp2
      go_ret
      exact ⟨rfl, HFM.out⟩
  · go_enter Try.func10, Try.ntmps10
    go_wp2_with fail
    refine (awake02 _).mono ?_
    rintro e w1 ⟨rfl, hm1⟩
    have H1 := Lib.hid hm1; clear hm1
    go_wp2_with fail
    refine (newin _ bs w1 (HB.out.keep H1.out fun _ _ h => h) (by omega)).mono ?_
    rintro e w2 ⟨ib, rfl, hst, hib, hf2⟩
    have HST := Lib.hid hst; clear hst
    have HF2 := Lib.hid hf2; clear hf2
    have HIB := Lib.hid hib; clear hib
    go_wp2_with fail
    refine (left_go ib (some bs) w2 HST.out).mono ?_
    rintro e w' ⟨rfl, rfl⟩
    go_wp2_with fail
    refine (bad_go ib (some bs) w2 HST.out).mono ?_
    rintro e w' ⟨rfl, rfl⟩
    go_wp2_with fail
    refine (HDN.out ib w2 HST.out).mono ?_
    rintro e w' ⟨rfl, rfl⟩
    go_wp2_with fail
    obtain ⟨af, cf, hheap⟩ := HST.out.heap
    refine (fail_go ib _ _ w2 hheap).mono ?_
    rintro e w6 ⟨rfl, hbad6, hf6⟩
    have hf : Frm (fun _ => False) w w6 := (H1.out.trans HF2.out fun _ _ h => h).trans hf6 fun i hi hs => by
      have h1 := HIB.out; have h2 := H1.out.size; have h3 : i = ib := hs; omega
    have HF6 := Lib.hid hf; clear hf
    have HB6 := Lib.hid hbad6; clear hbad6
    clear hheap hf6
    go_wp2
    go_loopw [43] (fun i wr => (∃ k : Nat, k ≤ l.length ∧ i = .int .i64 k) ∧ FRel w ib wr) (fun i _ => l.length - (intOf i).toNat)
    case atStart => exact ⟨⟨0, Nat.zero_le _, rfl⟩, HB6.out, HF6.out⟩
    case round =>
      obtain ⟨⟨k, hk, rfl⟩, hbad, hfm⟩ := hrel
      have HBAD := Lib.hid hbad; clear hbad
      have HFM := Lib.hid hfm; clear hfm
      by_cases hlt : k < l.length
      · obtain ⟨-, -, q1, -⟩ := ask_at (HL.out.keep HFM.out fun _ _ h => h) k hlt
        generalize (l.getD k Ask.zero).m = mm at *
        go_wp2_with fail
        refine (inum_bad ib mm wr HBAD.out).mono ?_
        rintro e w' ⟨rfl, rfl⟩
        go_wp2_with fail
        refine (itext_bad ib mm wr HBAD.out).mono ?_
        rintro e w' ⟨rfl, rfl⟩
        go_wp2
        go_roundw
        case rel => exact ⟨⟨k + 1, by omega, by go_num⟩, HBAD.out, HFM.out⟩
        case measure => simp [intOf]; omega
      · have hge : ¬ ((k : Int) < l.length) := by omega
        go_wp2_with fail
        refine (bad_go ib none wr HBAD.out).mono ?_
        rintro e w' ⟨rfl, rfl⟩
        go_wp2_with fail
        refine (done_go ib none wr HBAD.out).mono ?_
        rintro e w' ⟨rfl, rfl⟩
        go_wp2_with fail
        refine (left_go ib none wr HBAD.out).mono ?_
        rintro e w' ⟨rfl, rfl⟩
        go_wp2
        go_ret
        exact ⟨rfl, HFM.out⟩

set_option maxHeartbeats 1000000 in
set_option maxRecDepth 1000000 in
theorem fails_yes1 (w : World) (vb vl : Value) (bs : List UInt8) (hb : Rd w vb bs.length (bV bs)) (l : List Ask) (hl : AsksAt w vl l) (h7 : bs.length ≤ 70000) (h2 : l.length ≤ 200) (h0 : ¬ bs.length = 0) :
    Calls Try.prog 10 #[vb, vl] w fun e w' => e = .returned (.bool true) ∧ Frm (fun _ => False) w w' := by
  have hsh := hl.shape
  obtain ⟨ab, cb, rfl⟩ := rd_shape hb
  have HB := Lib.hid hb; clear hb
  have HL := Lib.hid hl; clear hl
  have hdn : ∀ (ib : Nat) (w : World), InSt w ib (some bs) → Calls Try.prog 33 #[.pointer (some ⟨ib, 0, none⟩)] w fun e w' => e = .returned (.bool false) ∧ w = w' := fun ib w h => (done_go ib (some bs) w h).mono fun e w' ⟨he, hw⟩ => ⟨by rw [he]; exact ret_bool (by simp only [doneOf]; exact beq_false_of_ne h0), hw⟩
  have hb0 : ((bs.length : Int) == 0) = false := beq_false_of_ne (by omega)
  have HDN := Lib.hid hdn; clear hdn
  clear h0
  rcases hsh with ⟨ad, rfl, rfl⟩ | ⟨b, off, c, rfl, _⟩
  · clear h2
    go_enter Try.func10, Try.ntmps10
    go_wp2_with fail
    refine (awake02 _).mono ?_
    rintro e w1 ⟨rfl, hm1⟩
    have H1 := Lib.hid hm1; clear hm1
    go_wp2_with fail
    refine (newin _ bs w1 (HB.out.keep H1.out fun _ _ h => h) (by omega)).mono ?_
    rintro e w2 ⟨ib, rfl, hst, hib, hf2⟩
    have HST := Lib.hid hst; clear hst
    have HF2 := Lib.hid hf2; clear hf2
    have HIB := Lib.hid hib; clear hib
    go_wp2_with fail
    refine (left_go ib (some bs) w2 HST.out).mono ?_
    rintro e w' ⟨rfl, rfl⟩
    go_wp2_with fail
    refine (bad_go ib (some bs) w2 HST.out).mono ?_
    rintro e w' ⟨rfl, rfl⟩
    go_wp2_with fail
    refine (HDN.out ib w2 HST.out).mono ?_
    rintro e w' ⟨rfl, rfl⟩
    go_wp2_with fail
    obtain ⟨af, cf, hheap⟩ := HST.out.heap
    refine (fail_go ib _ _ w2 hheap).mono ?_
    rintro e w6 ⟨rfl, hbad6, hf6⟩
    have hf : Frm (fun _ => False) w w6 := (H1.out.trans HF2.out fun _ _ h => h).trans hf6 fun i hi hs => by
      have h1 := HIB.out; have h2 := H1.out.size; have h3 : i = ib := hs; omega
    have HF6 := Lib.hid hf; clear hf
    have HB6 := Lib.hid hbad6; clear hbad6
    clear hheap hf6
    go_wp2
    go_loopw [43] (fun i wr => i = .int .i64 0 ∧ FRel w ib wr) (fun _ _ => 0)
    case atStart => exact ⟨rfl, HB6.out, HF6.out⟩
    case round =>
      obtain ⟨rfl, hbad, hfm⟩ := hrel
      have HBAD := Lib.hid hbad; clear hbad
      have HFM := Lib.hid hfm; clear hfm
      go_wp2_with fail
      refine (bad_go ib none wr HBAD.out).mono ?_
      rintro e w' ⟨rfl, rfl⟩
      go_wp2_with fail
      refine (done_go ib none wr HBAD.out).mono ?_
      rintro e w' ⟨rfl, rfl⟩
      go_wp2_with fail
      refine (left_go ib none wr HBAD.out).mono ?_
      rintro e w' ⟨rfl, rfl⟩
      go_wp2
      go_ret
      exact ⟨rfl, HFM.out⟩
  · go_enter Try.func10, Try.ntmps10
    go_wp2_with fail
    refine (awake02 _).mono ?_
    rintro e w1 ⟨rfl, hm1⟩
    have H1 := Lib.hid hm1; clear hm1
    go_wp2_with fail
    refine (newin _ bs w1 (HB.out.keep H1.out fun _ _ h => h) (by omega)).mono ?_
    rintro e w2 ⟨ib, rfl, hst, hib, hf2⟩
    have HST := Lib.hid hst; clear hst
    have HF2 := Lib.hid hf2; clear hf2
    have HIB := Lib.hid hib; clear hib
    go_wp2_with fail
    refine (left_go ib (some bs) w2 HST.out).mono ?_
    rintro e w' ⟨rfl, rfl⟩
    go_wp2_with fail
    refine (bad_go ib (some bs) w2 HST.out).mono ?_
    rintro e w' ⟨rfl, rfl⟩
    go_wp2_with fail
    refine (HDN.out ib w2 HST.out).mono ?_
    rintro e w' ⟨rfl, rfl⟩
    go_wp2_with fail
    obtain ⟨af, cf, hheap⟩ := HST.out.heap
    refine (fail_go ib _ _ w2 hheap).mono ?_
    rintro e w6 ⟨rfl, hbad6, hf6⟩
    have hf : Frm (fun _ => False) w w6 := (H1.out.trans HF2.out fun _ _ h => h).trans hf6 fun i hi hs => by
      have h1 := HIB.out; have h2 := H1.out.size; have h3 : i = ib := hs; omega
    have HF6 := Lib.hid hf; clear hf
    have HB6 := Lib.hid hbad6; clear hbad6
    clear hheap hf6
    go_wp2
    go_loopw [43] (fun i wr => (∃ k : Nat, k ≤ l.length ∧ i = .int .i64 k) ∧ FRel w ib wr) (fun i _ => l.length - (intOf i).toNat)
    case atStart => exact ⟨⟨0, Nat.zero_le _, rfl⟩, HB6.out, HF6.out⟩
    case round =>
      obtain ⟨⟨k, hk, rfl⟩, hbad, hfm⟩ := hrel
      have HBAD := Lib.hid hbad; clear hbad
      have HFM := Lib.hid hfm; clear hfm
      by_cases hlt : k < l.length
      · obtain ⟨-, -, q1, -⟩ := ask_at (HL.out.keep HFM.out fun _ _ h => h) k hlt
        generalize (l.getD k Ask.zero).m = mm at *
        go_wp2_with fail
        refine (inum_bad ib mm wr HBAD.out).mono ?_
        rintro e w' ⟨rfl, rfl⟩
        go_wp2_with fail
        refine (itext_bad ib mm wr HBAD.out).mono ?_
        rintro e w' ⟨rfl, rfl⟩
        go_wp2
        go_roundw
        case rel => exact ⟨⟨k + 1, by omega, by go_num⟩, HBAD.out, HFM.out⟩
        case measure => simp [intOf]; omega
      · have hge : ¬ ((k : Int) < l.length) := by omega
        go_wp2_with fail
        refine (bad_go ib none wr HBAD.out).mono ?_
        rintro e w' ⟨rfl, rfl⟩
        go_wp2_with fail
        refine (done_go ib none wr HBAD.out).mono ?_
        rintro e w' ⟨rfl, rfl⟩
        go_wp2_with fail
        refine (left_go ib none wr HBAD.out).mono ?_
        rintro e w' ⟨rfl, rfl⟩
        go_wp2
        go_ret
        exact ⟨rfl, HFM.out⟩

theorem fails_law (w : World) (vb : Value) (hb : ∃ bs : List UInt8, Rd w vb bs.length (bV bs)) (vl : Value) (hl : ∃ l, AsksAt w vl l) :
    Calls Try.prog 10 #[vb, vl] w fun e w' => e = .returned (.bool true) ∧ Frm (fun _ => False) w w' := by
  obtain ⟨bs, hb⟩ := hb
  obtain ⟨l, hl⟩ := hl
  by_cases h7 : bs.length ≤ 70000
  · by_cases h2 : l.length ≤ 200
    · by_cases h0 : bs.length = 0
      · exact fails_yes0 w vb vl bs hb l hl h7 h2 h0
      · exact fails_yes1 w vb vl bs hb l hl h7 h2 h0
    · exact fails_no w vb vl bs hb l hl (by omega)
  · exact fails_no w vb vl bs hb l hl (by omega)

end Go.Proofs.Ytclihppeaikhiaa
