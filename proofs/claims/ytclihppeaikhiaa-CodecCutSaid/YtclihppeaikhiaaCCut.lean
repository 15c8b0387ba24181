/- tributarylaw02.CodecCut: the walk. -/
import Derived.Test.YtclihppeaikhiaaCBack
import Derived.OpenShut
namespace Go.Proofs.Ytclihppeaikhiaa
open Go.RowKit

theorem itemB_pos (i : Item) : 1 ≤ (itemB i).length := by
  unfold itemB
  split
  · rw [textB, List.length_append]
    have := numB_pos i.s.size
    omega
  · exact numB_pos _
theorem itemsB_pos {l : List Item} (h : 0 < l.length) : 1 ≤ (itemsB l).length := by
  cases l with
  | nil => simp at h
  | cons i r =>
    simp only [itemsB, List.flatMap_cons, List.length_append]
    have := itemB_pos i
    omega

set_option maxHeartbeats 400000 in
set_option maxRecDepth 1000000 in
theorem ccut_no (w : World) (l : List Item) (vl vn : Value) (hl : ItemsAt w vl l) (hn : ¬ few50 l) :
    Calls Try.prog 7 #[vl, vn] w fun e w' => e = .returned (.bool true) ∧ Frm (fun _ => False) w w' := by
  have HL := Lib.hid hl; clear hl
  have HN := Lib.hid hn; clear hn
  go_enter Try.func7, Try.ntmps7
  go_wp2_with fail
  refine (awake02 _).mono ?_
  rintro e w1 ⟨rfl, hm1⟩
  have H1 := Lib.hid hm1; clear hm1
  go_wp2_with fail
  refine (few_no l vl 50000 w1 (HL.out.keep H1.out fun _ _ h => h) HN.out (by omega)).mono ?_
  rintro e w2 ⟨rfl, rfl⟩
  go_wp2_with fail
  refine (awake02 _).mono ?_
  rintro e w3 ⟨rfl, hm3⟩
  have H3 := Lib.hid hm3; clear hm3
  go_wp2
  go_ret
  exact ⟨rfl, H1.out.trans H3.out fun _ _ h => h⟩

set_option maxHeartbeats 400000 in
set_option maxRecDepth 1000000 in
theorem ccut_empty (w : World) (l : List Item) (ad : Option Addr) (c : Nat) (vn : Value) (hl : ItemsAt w (.slice ad 0 c) l) (hy : few50 l) :
    Calls Try.prog 7 #[.slice ad 0 c, vn] w fun e w' => e = .returned (.bool true) ∧ Frm (fun _ => False) w w' := by
  have HL := Lib.hid hl; clear hl
  have HY := Lib.hid hy; clear hy
  go_enter Try.func7, Try.ntmps7
  go_wp2_with fail
  refine (awake02 _).mono ?_
  rintro e w1 ⟨rfl, hm1⟩
  have H1 := Lib.hid hm1; clear hm1
  go_wp2_with fail
  refine (few_yes l _ 50000 w1 (HL.out.keep H1.out fun _ _ h => h) HY.out.1 HY.out.2 (by omega)).mono ?_
  rintro e w2 ⟨rfl, rfl⟩
  go_wp2_with fail
  refine (awake02 _).mono ?_
  rintro e w3 ⟨rfl, hm3⟩
  have H3 := Lib.hid hm3; clear hm3
  go_wp2
  go_ret
  exact ⟨rfl, H1.out.trans H3.out fun _ _ h => h⟩

set_option maxHeartbeats 1000000 in
set_option maxRecDepth 1000000 in
theorem ccut_yes (w : World) (l : List Item) (ad : Option Addr) (n c m : Nat) (hl : ItemsAt w (.slice ad n c) l) (hn : n = l.length) (h0 : 0 < n) (hm : m ≤ 65535) (hy : few50 l) (hvl : l ≠ [] → ∀ k, (Value.slice ad n c).ownBlock = some k → k < w.heap.size) :
    Calls Try.prog 7 #[.slice ad n c, .int .u16 m] w fun e w' => e = .returned (.bool true) ∧ Frm (fun _ => False) w w' := by
  have hbl := hy.len hl.2
  have hpos := itemsB_pos (l := l) (by omega)
  have hn101 : n ≤ 101 := by rw [hn]; exact hy.1
  have HN := Lib.hid hn; clear hn
  generalize hB : itemsB l = bb at *
  have HB := Lib.hid hB; clear hB
  have HY := Lib.hid hy; clear hy
  have HVL := Lib.hid hvl; clear hvl
  have HL := Lib.hid hl; clear hl
  go_enter Try.func7, Try.ntmps7
  go_wp2_with fail
  refine (awake02 _).mono ?_
  rintro e wr ⟨rfl, hm1⟩
  have HFM := Lib.hid hm1; clear hm1
  go_wp2_with fail
  refine (few_yes l _ 50000 wr (HL.out.keep HFM.out fun _ _ h => h) HY.out.1 HY.out.2 (by omega)).mono ?_
  rintro e w2 ⟨rfl, rfl⟩
  go_wp2_with fail
  have hf2 : Frm (fun _ => False) w (wr.alloc (.cells #[.slice none 0 0] 27)) := HFM.out.trans (Frm.alloc _ wr _) fun _ _ h => h
  have HF2 := Lib.hid hf2; clear hf2
  have hsz : w.heap.size ≤ wr.heap.size := HFM.out.size
  refine (put_go wr.heap.size l (.slice ad n c) _ (.slice none 0 0) [] (out_new wr) (HL.out.keep HF2.out fun _ _ h => h) (fun hne k hk hs => by
    have := HVL.out hne k hk
    exact out_no (w := w) hsz (fun _ h => by simp [Value.ownBlock] at h) k this hs) (by rw [HB.out]; simp; omega)).mono ?_
  rintro e w4 ⟨rfl, v4, ho4, hfr4, hfm4⟩
  rw [HB.out, List.nil_append] at ho4
  have hf4 : Frm (fun _ => False) w w4 := HF2.out.trans hfm4 fun i hi hs => out_no hsz (fun _ h => by simp [Value.ownBlock] at h) i hi hs
  have HF4 := Lib.hid hf4; clear hf4
  have HO4 := Lib.hid ho4; clear ho4
  clear hfr4 hfm4
  go_wp2_with fail
  refine (end_ok wr.heap.size w4 v4 bb HO4.out (by omega)).mono ?_
  rintro e w5 ⟨v5, rfl, hc5⟩
  have hf5 : Frm (fun _ => False) w w5 := HF4.out.trans hc5.frm fun _ _ h => h
  obtain ⟨a5, c5, rfl⟩ := hc5.shape
  have hrd := hc5.rd
  have hcap : bb.length ≤ c5 := by
    rcases hrd with ⟨_, h1, h2, _⟩ | ⟨_, _, _, h1, h2, _⟩
    · omega
    · injection h1 with e1 e2 e3
      omega
  generalize hL : bb.length = L at *
  have hr : m % L < L := Nat.mod_lt _ (by omega)
  have hpre := hrd.pre2 hL (m % L) (by omega)
  have hlen : (bb.take (m % L)).length = m % L := by rw [List.length_take]; omega
  have hbk := back_any w5 _ (bb.take (m % L)) hpre (by omega) l (.slice ad n c) (HL.out.keep hf5 fun _ _ h => h) false (fun h => by cases h) (fun _ h => by
    rw [HB.out] at h
    have h1 := congrArg List.length h
    omega)
  have hmod : (m : Int).tmod L = ((m % L : Nat) : Int) := by rw [Int.tmod_eq_emod_of_nonneg (by omega)]; exact (Int.natCast_emod m L).symm
  generalize m % L = r at *
  have HBK := Lib.hid hbk; clear hbk
  have HF5 := Lib.hid hf5; clear hf5
  clear hc5 hrd hpre hlen hL
  go_wp2_with fail
  refine HBK.out.mono ?_
  rintro e w6 ⟨rfl, hfm6⟩
  have hf6 : Frm (fun _ => False) w w6 := HF5.out.trans hfm6 fun _ _ h => h
  have HF6 := Lib.hid hf6; clear hf6
  clear hfm6
  go_wp2
  go_ret
  exact ⟨rfl, HF6.out⟩

theorem ccut_law (w : World) (vl : Value) (hl : ∃ l, ItemsAt w vl l) (x : Int) (hx : (Lit.int .u16 x).wf = true) :
    Calls Try.prog 7 #[vl, .int .u16 x] w fun e w' => e = .returned (.bool true) ∧ Frm (fun _ => False) w w' := by
  obtain ⟨l, h⟩ := hl
  by_cases hf : few50 l
  · obtain ⟨hx0, hx1⟩ := bounds_u16 hx
    obtain ⟨m, rfl⟩ := Int.eq_ofNat_of_zero_le hx0
    rcases h.1 with ⟨ad, rfl, h0⟩ | ⟨b, off, c, rfl, -, -, -⟩
    · exact ccut_empty w l ad 0 _ h hf
    · by_cases h0 : l.length = 0
      · rw [h0] at h ⊢
        exact ccut_empty w l _ c _ h hf
      · exact ccut_yes w l _ l.length c m h rfl (by omega) (by omega) hf h.lt
  · exact ccut_no w l vl _ h hf

end Go.Proofs.Ytclihppeaikhiaa
