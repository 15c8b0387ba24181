/- tributarylaw02.CodecPuts: the walk. -/
import Derived.Test.YtclihppeaikhiaaRBytes
import Derived.Test.YtclihppeaikhiaaOpen
namespace Go.Proofs.Ytclihppeaikhiaa
open Go.RowKit

theorem own_lt {w : World} {e : TypeId} {size : Nat} {v : Value} {n : Nat} {xs : List Value} (h : w.ownsRow 0 e size v n xs) : ∀ k, v.ownBlock = some k → k < w.heap.size := fun k hk => (h.lt k hk).2
theorem out_no {w : World} {ob : Nat} {v : Value} (h1 : w.heap.size ≤ ob) (h2 : NewV w v) : ∀ i, i < w.heap.size → OutS ob v i → False := fun i hi hs => by
  rcases hs with h | h
  · omega
  · have := h2 i h; omega
theorem NewV.fresh {w wi : World} {v v' : Value} (h : NewV w v) (hs : w.heap.size ≤ wi.heap.size) (f : Fresh wi v v') : NewV w v' := fun k hk => by
  rcases f k hk with h1 | h1
  · exact h k h1
  · omega
theorem OutAt.keep {w w' : World} {ob : Nat} {v : Value} {bs : List UInt8} (h : OutAt w ob v bs) {S : Nat → Prop} (f : Frm S w w') (h1 : ¬ S ob) (h2 : ∀ k, v.ownBlock = some k → ¬ S k) : OutAt w' ob v bs :=
  ⟨f.blk h.cell h1, f.owns h.own h2, h.apart⟩
theorem Copy.keep {w0 w w' : World} {v : Value} {bs : List UInt8} (h : Copy w0 v bs w) {S : Nat → Prop} (f : Frm S w w') (h1 : ∀ i, i < w0.heap.size → ¬ S i) (h2 : ∀ k, v.ownBlock = some k → ¬ S k) : Copy w0 v bs w' :=
  ⟨f.owns h.own h2, h.new, h.frm.trans f fun i hi hs => h1 i hi hs, h.shape⟩

def fewP (l : List Item) : Prop := l.length ≤ 101 ∧ totS l ≤ 100000
theorem fewP.len {l : List Item} (h : fewP l) (hf : ∀ i ∈ l, i.fits) : (itemsB l).length ≤ 101010 := by
  have := itemsB_len hf
  have := h.1
  have := h.2
  omega

set_option maxHeartbeats 400000 in
set_option maxRecDepth 1000000 in
theorem puts_no1 (w : World) (l : List Item) (vl vm : Value) (hl : ItemsAt w vl l) (hn : ¬ fewP l) :
    Calls Try.prog 3 #[vl, vm] w fun e w' => e = .returned (.bool true) ∧ Frm (fun _ => False) w w' := by
  have HL := Lib.hid hl; clear hl
  have HN := Lib.hid hn; clear hn
  go_enter Try.func3, Try.ntmps3
  go_wp2_with fail
  refine (awake02 _).mono ?_
  rintro e w1 ⟨rfl, hm1⟩
  have H1 := Lib.hid hm1; clear hm1
  go_wp2_with fail
  refine (few_no l vl 100000 w1 (HL.out.keep H1.out fun _ _ h => h) HN.out (by omega)).mono ?_
  rintro e w2 ⟨rfl, rfl⟩
  go_wp2_with fail
  refine (awake02 _).mono ?_
  rintro e w3 ⟨rfl, hm3⟩
  have H3 := Lib.hid hm3; clear hm3
  go_wp2
  go_ret
  exact ⟨rfl, H1.out.trans H3.out fun _ _ h => h⟩

set_option maxHeartbeats 400000 in
set_option maxRecDepth 1000000 in
theorem puts_no2 (w : World) (l m : List Item) (vl vm : Value) (hl : ItemsAt w vl l) (hm : ItemsAt w vm m) (hy : fewP l) (hn : ¬ fewP m) :
    Calls Try.prog 3 #[vl, vm] w fun e w' => e = .returned (.bool true) ∧ Frm (fun _ => False) w w' := by
  have HL := Lib.hid hl; clear hl
  have HM := Lib.hid hm; clear hm
  have HN := Lib.hid hn; clear hn
  have HY := Lib.hid hy; clear hy
  go_enter Try.func3, Try.ntmps3
  go_wp2_with fail
  refine (awake02 _).mono ?_
  rintro e w1 ⟨rfl, hm1⟩
  have H1 := Lib.hid hm1; clear hm1
  go_wp2_with fail
  refine (few_yes l vl 100000 w1 (HL.out.keep H1.out fun _ _ h => h) HY.out.1 HY.out.2 (by omega)).mono ?_
  rintro e w2 ⟨rfl, rfl⟩
  go_wp2_with fail
  refine (few_no m vm 100000 w1 (HM.out.keep H1.out fun _ _ h => h) HN.out (by omega)).mono ?_
  rintro e w2 ⟨rfl, rfl⟩
  go_wp2_with fail
  refine (awake02 _).mono ?_
  rintro e w3 ⟨rfl, hm3⟩
  have H3 := Lib.hid hm3; clear hm3
  go_wp2
  go_ret
  exact ⟨rfl, H1.out.trans H3.out fun _ _ h => h⟩

theorem ItemsAt.lt {w : World} {v : Value} {l : List Item} (h : ItemsAt w v l) (hne : l ≠ []) : ∀ k, v.ownBlock = some k → k < w.heap.size := fun k hk => by
  have hp : 0 < l.length := List.length_pos_iff.2 hne
  rcases h.1 with ⟨ad, _, h0⟩ | ⟨b, off, c, rfl, _, _, h3⟩
  · omega
  · have := World.block_lt_of_cell? _ _ (h3 0 0 hp (by omega))
    simp [Value.ownBlock] at hk
    subst hk
    exact this
/-- How End answers, by the length. -/
theorem end_any (ob : Nat) (w : World) (v : Value) (bs : List UInt8) (h : OutAt w ob v bs) : Calls Try.prog 18 #[.pointer (some ⟨ob, 0, none⟩)] w fun e w' =>
    ∃ v' k, e = .returned (.tuple #[v', .int .i64 k]) ∧ (if bs.length ≤ 60000 then k = 0 ∧ Copy w v' bs w' else k = 3 ∧ v' = .slice none 0 0 ∧ Frm (fun _ => False) w w') := by
  by_cases hl : bs.length ≤ 60000
  · exact (end_ok ob w v bs h hl).mono fun e w' ⟨v', he, hc⟩ => ⟨v', 0, he, by rw [if_pos hl]; exact ⟨rfl, hc⟩⟩
  · exact (end_long ob w v bs h (by omega)).mono fun e w' ⟨he, hw⟩ => ⟨_, 3, he, by rw [if_neg hl]; subst hw; exact ⟨rfl, rfl, Frm.refl _ _⟩⟩

set_option maxHeartbeats 1000000 in
set_option maxRecDepth 1000000 in
theorem puts_yes (w : World) (l m : List Item) (vl vm : Value) (hl : ItemsAt w vl l) (hm : ItemsAt w vm m) (hy : fewP l) (hn : fewP m) (hvl : l ≠ [] → ∀ k, vl.ownBlock = some k → k < w.heap.size) (hvm : m ≠ [] → ∀ k, vm.ownBlock = some k → k < w.heap.size) :
    Calls Try.prog 3 #[vl, vm] w fun e w' => e = .returned (.bool true) ∧ Frm (fun _ => False) w w' := by
  have hbl := hy.len hl.2
  have hbm := hn.len hm.2
  have HL := Lib.hid hl; clear hl
  have HM := Lib.hid hm; clear hm
  have HN := Lib.hid hn; clear hn
  have HY := Lib.hid hy; clear hy
  have HVL := Lib.hid hvl; clear hvl
  have HVM := Lib.hid hvm; clear hvm
  generalize hB1 : itemsB l = b1 at *
  generalize hB2 : itemsB m = b2 at *
  have HB1 := Lib.hid hB1; clear hB1
  have HB2 := Lib.hid hB2; clear hB2
  go_enter Try.func3, Try.ntmps3
  go_wp2_with fail
  refine (awake02 _).mono ?_
  rintro e w1 ⟨rfl, hm1⟩
  have H1 := Lib.hid hm1; clear hm1
  go_wp2_with fail
  refine (few_yes l vl 100000 w1 (HL.out.keep H1.out fun _ _ h => h) HY.out.1 HY.out.2 (by omega)).mono ?_
  rintro e w2 ⟨rfl, rfl⟩
  go_wp2_with fail
  refine (few_yes m vm 100000 w1 (HM.out.keep H1.out fun _ _ h => h) HN.out.1 HN.out.2 (by omega)).mono ?_
  rintro e w2 ⟨rfl, rfl⟩
  go_wp2_with fail
  -- the references' bytes
  have hf2 : Frm (fun _ => False) w (w1.alloc (.cells #[.slice none 0 0] 27)) := H1.out.trans (Frm.alloc _ w1 _) fun _ _ h => h
  have HF2 := Lib.hid hf2; clear hf2
  refine (rbytes l vl _ (HL.out.keep HF2.out fun _ _ h => h) (by rw [HB1.out]; omega)).mono ?_
  rintro e w3 ⟨vw, rfl, hc3⟩
  rw [HB1.out] at hc3
  have ho3 : OutAt w3 w1.heap.size (.slice none 0 0) [] := (out_new w1).keep hc3.frm id fun _ _ h => h
  have hf3 : Frm (fun _ => False) w w3 := HF2.out.trans hc3.frm fun _ _ h => h
  have HC3 := Lib.hid hc3; clear hc3
  have HO3 := Lib.hid ho3; clear ho3
  have HF3 := Lib.hid hf3; clear hf3
  have hsz : w.heap.size ≤ w1.heap.size := H1.out.size
  go_wp2_with fail
  refine (put_go w1.heap.size l vl w3 (.slice none 0 0) [] HO3.out (HL.out.keep HF3.out fun _ _ h => h) (fun hne k hk hs => by
    have := HVL.out hne k hk
    exact out_no (w := w) hsz (fun _ h => by simp [Value.ownBlock] at h) k this hs) (by rw [HB1.out]; simp; omega)).mono ?_
  rintro e w4 ⟨rfl, v4, ho4, hfr4, hfm4⟩
  rw [HB1.out, List.nil_append] at ho4
  have hvw : ∀ k, vw.ownBlock = some k → w1.heap.size < k ∧ k < w3.heap.size := fun k hk => ⟨by have := HC3.out.new k hk; simp at this; omega, own_lt HC3.out.own k hk⟩
  have hv4 : ∀ k, v4.ownBlock = some k → w3.heap.size ≤ k ∧ k < w4.heap.size := fun k hk => ⟨by
    rcases hfr4 k hk with h | h
    · simp [Value.ownBlock] at h
    · exact h, own_lt ho4.own k hk⟩
  have hob : w1.heap.size < w3.heap.size := lt_of_block HO3.out.cell
  have hc4 : Copy w vw b1 w4 := (HC3.out.weaken HF2.out).keep hfm4 (fun i hi hs => out_no hsz (fun _ h => by simp [Value.ownBlock] at h) i hi hs) (fun k hk hs => by
    rcases hs with h | h
    · have := hvw k hk; omega
    · simp [Value.ownBlock] at h)
  have hf4 : Frm (fun _ => False) w w4 := HF3.out.trans hfm4 fun i hi hs => out_no hsz (fun _ h => by simp [Value.ownBlock] at h) i hi hs
  have h34 := hfm4.size
  have HC4 := Lib.hid hc4; clear hc4
  have HF4 := Lib.hid hf4; clear hf4
  have HO4 := Lib.hid ho4; clear ho4
  have HW := Lib.hid hvw; clear hvw
  have HV4 := Lib.hid hv4; clear hv4
  clear hfr4 hfm4
  go_wp2_with fail
  refine (end_any w1.heap.size w4 v4 b1 HO4.out).mono ?_
  rintro e w5 ⟨v5, k5, rfl, h5⟩
  by_cases h60 : b1.length ≤ 60000
  · rw [if_pos h60] at h5
    obtain ⟨rfl, hc5'⟩ := h5
    have cv1 := conv_str hc5'.rd
    have cv2 := conv_str (HC4.out.step hc5'.frm).rd
    have HF5 := Lib.hid hc5'.frm
    clear hc5'

    have hc5 : Copy w vw b1 w5 := HC4.out.step HF5.out
    obtain ⟨aw, cw, rfl⟩ := hc5.shape
    have HC5 := Lib.hid hc5; clear hc5
    have hf50 : Frm (fun _ => False) w w5 := HF4.out.trans HF5.out fun _ _ h => h
    have HF50 := Lib.hid hf50; clear hf50
    have h45 := HF5.out.size
    go_wp2_with fail
    clear cv1 cv2
    refine (rbytes m vm w5 (HM.out.keep HF50.out fun _ _ h => h) (by rw [HB2.out]; omega)).mono ?_
    rintro e w6 ⟨v6, rfl, hc6⟩
    rw [HB2.out] at hc6
    have hc6w : Copy w (.slice aw b1.length cw) b1 w6 := HC5.out.step hc6.frm
    obtain ⟨a6, c6, rfl⟩ := hc6.shape
    have hsrc := hc6.rd.src (P := Try.prog) (size := 1) Try.underlying25 (by simp) (bV_oneCell _)
    have h56 := hc6.frm.size
    have HC6 := Lib.hid hc6; clear hc6
    have HC6W := Lib.hid hc6w; clear hc6w
    have HS6 := Lib.hid hsrc; clear hsrc
    go_wp2_with (at_builtin; go_loud (refine app_u8 _ rfl (.tmp 49) (.tmp 51) 25 rfl _ b1 HC6W.out.own _ b2 rfl rfl HS6.out ?c1 ?_))
    case c1 => omega
    intro a7 c7 w7 own7 fm7 fr7 _
    have hc7 : Copy w (.slice a7 (b1.length + b2.length) c7) (b1 ++ b2) w7 := HC6W.out.app (cs := b2) own7 (by simp [bV_append]) fm7 fr7
    have ho7 : OutAt w7 w1.heap.size v4 b1 := ((HO4.out.keep HF5.out id fun _ _ h => h).keep HC6.out.frm id fun _ _ h => h).keep fm7 (fun hs => by have := HW.out _ hs; omega) (fun k hk hs => by
      have := HW.out k hs; have := HV4.out k hk; omega)
    have hv7 : ∀ k, (Value.slice a7 (b1.length + b2.length) c7).ownBlock = some k → ¬ OutS w1.heap.size v4 k := fun k hk hs => by
      have h7 : (w1.heap.size < k ∧ k < w3.heap.size) ∨ w6.heap.size ≤ k := by
        rcases fr7 k hk with h | h
        · exact .inl (HW.out k h)
        · exact .inr h
      rcases hs with h | h
      · omega
      · have := HV4.out k h; omega
    have h67 := fm7.size
    have hvm7 : ItemsAt w7 vm m := HM.out.keep hc7.frm fun _ _ h => h
    have HC7 := Lib.hid hc7; clear hc7
    have HO7 := Lib.hid ho7; clear ho7
    have HV7 := Lib.hid hv7; clear hv7
    have HM7 := Lib.hid hvm7; clear hvm7
    clear own7 fm7 fr7
    go_wp2_with fail
    refine (put_go w1.heap.size m vm w7 v4 b1 HO7.out HM7.out (fun hne k hk hs => by
      have h0 := HVM.out hne k hk
      rcases hs with h | h
      · omega
      · have := HV4.out k h
        have := HF3.out.size
        omega) (by rw [HB2.out]; omega)).mono ?_
    rintro e w8 ⟨rfl, v8, ho8, hfr8, hfm8⟩
    rw [HB2.out] at ho8
    have hc8 : Copy w (.slice a7 (b1.length + b2.length) c7) (b1 ++ b2) w8 := HC7.out.keep hfm8 (fun i hi hs => by
      rcases hs with h | h
      · omega
      · have := HV4.out i h
        have := HF3.out.size
        omega) HV7.out
    have HC8 := Lib.hid hc8; clear hc8
    have HO8 := Lib.hid ho8; clear ho8
    clear hfr8 hfm8
    go_wp2_with fail
    refine (end_any w1.heap.size w8 v8 (b1 ++ b2) HO8.out).mono ?_
    rintro e w9 ⟨v9, k9, rfl, h9⟩
    by_cases h60' : b1.length + b2.length ≤ 60000
    · rw [if_pos (by rw [List.length_append]; omega)] at h9
      obtain ⟨rfl, hc9⟩ := h9
      have cv1 := conv_str hc9.rd
      have cv2 := conv_str (HC8.out.step hc9.frm).rd
      have HC9 := Lib.hid hc9; clear hc9
      go_wp2
      go_ret
      exact ⟨rfl, HC8.out.frm.trans HC9.out.frm fun _ _ h => h⟩
    · rw [if_neg (by rw [List.length_append]; omega)] at h9
      obtain ⟨rfl, rfl, hf9⟩ := h9
      have HF9 := Lib.hid hf9; clear hf9
      have hgt : 60000 < b1.length + b2.length := by omega
      go_wp2
      go_ret
      exact ⟨rfl, HC8.out.frm.trans HF9.out fun _ _ h => h⟩
  · rw [if_neg h60] at h5
    obtain ⟨rfl, rfl, hf5⟩ := h5
    have HF5 := Lib.hid hf5; clear hf5

    have hc5 : Copy w vw b1 w5 := HC4.out.step HF5.out
    obtain ⟨aw, cw, rfl⟩ := hc5.shape
    have HC5 := Lib.hid hc5; clear hc5
    have hf50 : Frm (fun _ => False) w w5 := HF4.out.trans HF5.out fun _ _ h => h
    have HF50 := Lib.hid hf50; clear hf50
    have h45 := HF5.out.size
    go_wp2_with fail
    refine (rbytes m vm w5 (HM.out.keep HF50.out fun _ _ h => h) (by rw [HB2.out]; omega)).mono ?_
    rintro e w6 ⟨v6, rfl, hc6⟩
    rw [HB2.out] at hc6
    have hc6w : Copy w (.slice aw b1.length cw) b1 w6 := HC5.out.step hc6.frm
    obtain ⟨a6, c6, rfl⟩ := hc6.shape
    have hsrc := hc6.rd.src (P := Try.prog) (size := 1) Try.underlying25 (by simp) (bV_oneCell _)
    have h56 := hc6.frm.size
    have HC6 := Lib.hid hc6; clear hc6
    have HC6W := Lib.hid hc6w; clear hc6w
    have HS6 := Lib.hid hsrc; clear hsrc
    go_wp2_with (at_builtin; go_loud (refine app_u8 _ rfl (.tmp 49) (.tmp 51) 25 rfl _ b1 HC6W.out.own _ b2 rfl rfl HS6.out ?c1 ?_))
    case c1 => omega
    intro a7 c7 w7 own7 fm7 fr7 _
    have hc7 : Copy w (.slice a7 (b1.length + b2.length) c7) (b1 ++ b2) w7 := HC6W.out.app (cs := b2) own7 (by simp [bV_append]) fm7 fr7
    have ho7 : OutAt w7 w1.heap.size v4 b1 := ((HO4.out.keep HF5.out id fun _ _ h => h).keep HC6.out.frm id fun _ _ h => h).keep fm7 (fun hs => by have := HW.out _ hs; omega) (fun k hk hs => by
      have := HW.out k hs; have := HV4.out k hk; omega)
    have hv7 : ∀ k, (Value.slice a7 (b1.length + b2.length) c7).ownBlock = some k → ¬ OutS w1.heap.size v4 k := fun k hk hs => by
      have h7 : (w1.heap.size < k ∧ k < w3.heap.size) ∨ w6.heap.size ≤ k := by
        rcases fr7 k hk with h | h
        · exact .inl (HW.out k h)
        · exact .inr h
      rcases hs with h | h
      · omega
      · have := HV4.out k h; omega
    have h67 := fm7.size
    have hvm7 : ItemsAt w7 vm m := HM.out.keep hc7.frm fun _ _ h => h
    have HC7 := Lib.hid hc7; clear hc7
    have HO7 := Lib.hid ho7; clear ho7
    have HV7 := Lib.hid hv7; clear hv7
    have HM7 := Lib.hid hvm7; clear hvm7
    clear own7 fm7 fr7
    go_wp2_with fail
    refine (put_go w1.heap.size m vm w7 v4 b1 HO7.out HM7.out (fun hne k hk hs => by
      have h0 := HVM.out hne k hk
      rcases hs with h | h
      · omega
      · have := HV4.out k h
        have := HF3.out.size
        omega) (by rw [HB2.out]; omega)).mono ?_
    rintro e w8 ⟨rfl, v8, ho8, hfr8, hfm8⟩
    rw [HB2.out] at ho8
    have hc8 : Copy w (.slice a7 (b1.length + b2.length) c7) (b1 ++ b2) w8 := HC7.out.keep hfm8 (fun i hi hs => by
      rcases hs with h | h
      · omega
      · have := HV4.out i h
        have := HF3.out.size
        omega) HV7.out
    have HC8 := Lib.hid hc8; clear hc8
    have HO8 := Lib.hid ho8; clear ho8
    clear hfr8 hfm8
    go_wp2_with fail
    refine (end_any w1.heap.size w8 v8 (b1 ++ b2) HO8.out).mono ?_
    rintro e w9 ⟨v9, k9, rfl, h9⟩

    rw [if_neg (by rw [List.length_append]; omega)] at h9
    obtain ⟨rfl, rfl, hf9⟩ := h9
    have HF9 := Lib.hid hf9; clear hf9
    have hgt : 60000 < b1.length + b2.length := by omega
    go_wp2
    go_ret
    exact ⟨rfl, HC8.out.frm.trans HF9.out fun _ _ h => h⟩

theorem puts_law (w : World) (vl : Value) (hl : ∃ l, ItemsAt w vl l) (vm : Value) (hm : ∃ m, ItemsAt w vm m) :
    Calls Try.prog 3 #[vl, vm] w fun e w' => e = .returned (.bool true) ∧ Frm (fun _ => False) w w' := by
  obtain ⟨l, hl⟩ := hl
  obtain ⟨m, hm⟩ := hm
  by_cases h1 : fewP l
  · by_cases h2 : fewP m
    · exact puts_yes w l m vl vm hl hm h1 h2 hl.lt hm.lt
    · exact puts_no2 w l m vl vm hl hm h1 h2
  · exact puts_no1 w l vl vm hl h1

end Go.Proofs.Ytclihppeaikhiaa
