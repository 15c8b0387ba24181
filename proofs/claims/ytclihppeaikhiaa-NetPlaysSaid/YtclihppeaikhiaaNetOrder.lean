/- tributarylaw26.NetOrder: the walk. -/
import Derived.Test.YtclihppeaikhiaaNetTake
import Derived.Lib.SlBytesConst
import Derived.Test.YtclihppeaikhiaaUnlike
import Derived.Deep.QuietTactic
import Derived.BigQuiet
namespace Go.Proofs.Ytclihppeaikhiaa
open Go.RowKit Go.WideShapes

theorem pars_nil (w : World) (ch : Nat) : ParsAt w ch [] [] := ⟨rfl, fun i x p hx _ => by simp at hx⟩
theorem ParsAt.snoc {w : World} {ch : Nat} {buf : List Value} {l : List Par} {x : Value} {p : Par} (h : ParsAt w ch buf l) (hx : ParAt w ch x p) : ParsAt w ch (buf ++ [x]) (l ++ [p]) := by
  refine ⟨by simp [h.1], fun i y q hy hq => ?_⟩
  rcases Nat.lt_or_ge i buf.length with hi | hi
  · rw [List.getElem?_append_left hi] at hy
    rw [List.getElem?_append_left (by rw [← h.1]; exact hi)] at hq
    exact h.2 i y q hy hq
  · rw [List.getElem?_append_right hi] at hy
    rw [List.getElem?_append_right (by rw [← h.1]; exact hi), ← h.1] at hq
    rcases Nat.eq_zero_or_pos (i - buf.length) with h0 | h0
    · rw [h0] at hy hq
      simp at hy hq
      subst hy hq
      exact hx
    · rw [List.getElem?_eq_none (by simp; omega)] at hy
      cases hy

/-- Send, where there is room. -/
theorem send_ok (w : World) (nb ch cap : Nat) (buf : List Value) (l : List Par) (t : Int) (v : Value) (bs : List UInt8) (h : NetAt w nb ch cap buf l) (hroom : l.length < cap) (hv : Rd w v bs.length (bV bs)) (hl : bs.length ≤ 140737488355328) :
    Calls Try.prog 22 #[.pointer (some ⟨nb, 0, none⟩), .agg #[.int .i64 t, v]] w fun e w' => e = .returned (.int .i64 0) ∧ ∃ x, NetAt w' nb ch cap (buf ++ [x]) (l ++ [(t, bs)]) ∧ Frm (fun i => i = ch) w w' := by
  obtain ⟨s, r, hc⟩ := h.chan
  have hb := h.pars.1
  refine (send_room nb ch cap s r t v bs buf w h.cell hc (by omega) hv hl).mono ?_
  rintro e w' ⟨he, v', w1, hcp, f, hch⟩
  obtain ⟨a, c, rfl⟩ := hcp.shape
  have h1 := h.keep0 hcp.frm
  have hw : Frm (fun i => i = ch) w w' := (hcp.frm.mono fun _ _ h => h.elim).trans f fun _ _ h => h
  have hcl := h.clt
  have hx : ParAt w1 ch (.agg #[.int .i64 t, .slice a bs.length c]) (t, bs) := ⟨a, c, rfl, hcp.own, hl, fun k hk => by have := hcp.new k hk; omega⟩
  exact ⟨he, _, ⟨f.cell' h1.cell (fun h' => h1.ne h'), ⟨_, _, hch⟩, (h1.pars.snoc hx).keep f (noBytes_ch _ _), by simp; omega, h.capb⟩, hw⟩
theorem send_no (w : World) (nb ch cap : Nat) (buf : List Value) (l : List Par) (t : Int) (v : Value) (bs : List UInt8) (h : NetAt w nb ch cap buf l) (hroom : cap ≤ l.length) (hv : Rd w v bs.length (bV bs)) (hl : bs.length ≤ 140737488355328) :
    Calls Try.prog 22 #[.pointer (some ⟨nb, 0, none⟩), .agg #[.int .i64 t, v]] w fun e w' => e = .returned (.int .i64 4) ∧ Frm (fun _ => False) w w' := by
  obtain ⟨s, r, hc⟩ := h.chan
  have hb := h.pars.1
  exact send_full nb ch cap s r t v bs buf w h.cell hc (by omega) hv hl
theorem new_net (n : Nat) (h1 : 1 ≤ n) (h2 : n ≤ 64) (w : World) :
    Calls Try.prog 21 #[.int .i64 n] w fun e w' => ∃ nb ch, e = .returned (.tuple #[.pointer (some ⟨nb, 0, none⟩), .int .i64 0]) ∧ NetAt w' nb ch n [] [] ∧ Frm (fun _ => False) w w' ∧ w.heap.size ≤ ch := by
  refine (new_ok n h1 h2 w).mono ?_
  rintro e w' ⟨he, hc, hch, f⟩
  exact ⟨_, _, he, ⟨hc, ⟨0, 0, hch⟩, pars_nil _ _, by simp, h2⟩, f, Nat.le_refl _⟩
theorem net_len (w : World) (nb ch cap : Nat) (buf : List Value) (l : List Par) (h : NetAt w nb ch cap buf l) :
    Calls Try.prog 24 #[.pointer (some ⟨nb, 0, none⟩)] w fun e w' => e = .returned (.int .i64 l.length) ∧ w = w' := by
  obtain ⟨s, r, hc⟩ := h.chan
  rw [← h.pars.1]
  exact netlen nb ch cap s r buf w h.cell hc

theorem rd_one (w : World) (b : UInt8) (f : Nat × Nat) : Rd (w.alloc (.cells #[.int .u8 (b.toNat : Int)] 5 f)) (.slice (some ⟨w.heap.size, 0, none⟩) 1 1) [b].length (bV [b]) := by
  refine .inr ⟨_, _, _, rfl, Nat.le_refl _, by simp [maxLen], fun j u hu => ?_⟩
  have hc := heap_alloc_new w (.cells #[.int .u8 (b.toNat : Int)] 5 f)
  rw [Nat.zero_add]
  exact cell_at hc j (by simpa [bV] using hu)

set_option maxRecDepth 1000000 in
theorem awake26 (w : World) : Calls Try.prog 20 #[] w fun e w' => e = .returned (.bool true) ∧ Frm (fun _ => False) w w' := by
  have hnew : Calls Try.prog 21 #[.int .i64 (2 : Int)] w _ := new_net 2 (by omega) (by omega) w
  have HNEW := Lib.hid hnew; clear hnew
  have kc := fun (w : World) (C : Array Value) (n c : Nat) => Lib.run_convert_bytes_const (P := Try.prog) w 25 5 C n c Try.underlying25 Try.underlying5
  go_enter Try.func20, Try.ntmps20
  go_wp2_with (go_at_call 21; refine HNEW.out.mono ?_; rintro e w1 ⟨nb, ch, rfl, hn, hf, hch⟩; have HN := Lib.hid hn; clear hn; have HF := Lib.hid hf; clear hf)
  have hs : Calls Try.prog 22 #[.pointer (some ⟨nb, 0, none⟩), .agg #[.int .i64 1, .slice (some ⟨w1.heap.size, 0, none⟩) 1 1]] (w1.alloc (.cells #[.int .u8 97] 5 (1, 2))) _ :=
    send_ok (w1.alloc (.cells #[.int .u8 97] 5 (1, 2))) nb ch 2 [] [] 1 _ [97] (HN.out.keep0 (Frm.alloc _ w1 _)) (by decide) (rd_one w1 97 (1, 2)) (by simp)
  have HS := Lib.hid hs; clear hs
  go_wp2_with (go_at_call 22; refine HS.out.mono ?_; rintro e w2 ⟨rfl, x, hn2, hf2⟩)
  have hl : Calls Try.prog 24 #[.pointer (some ⟨nb, 0, none⟩)] w2 _ := net_len w2 nb ch 2 _ _ hn2
  have HL := Lib.hid hl; clear hl
  have HF2 := Lib.hid hf2; clear hf2
  clear hn2 kc
  go_wp2_with (go_at_call 24; refine HL.out.mono ?_; rintro e w3 ⟨rfl, rfl⟩)
  go_ret
  exact ⟨rfl, (HF.out.trans (Frm.alloc (fun _ => False) w1 _) fun _ _ h => h).trans HF2.out fun i hi h => by have h1 : i = ch := h; omega⟩

/-- A slice of byte slices. -/
def BssAt (w : World) (v : Value) (l : List (List UInt8)) : Prop :=
  ∃ a c, v = .slice a l.length c ∧ l.length ≤ c ∧ c ≤ maxLen ∧ ∀ (k : Nat) (bs : List UInt8), l[k]? = some bs → ∃ b off u, a = some ⟨b, off, none⟩ ∧ w.cell? ⟨b, off + k, none⟩ = some u ∧ Rd w u bs.length (bV bs)
def sentP (l : List (List UInt8)) (k : Nat) : List Par := (List.range k).map fun (j : Nat) => ((j : Int), l.getD j [])
theorem sentP_succ (l : List (List UInt8)) (k : Nat) {bs : List UInt8} (h : l[k]? = some bs) : sentP l k ++ [((k : Int), bs)] = sentP l (k + 1) := by
  simp [sentP, List.range_succ, List.getD, h]
theorem sentP_length (l : List (List UInt8)) (k : Nat) : (sentP l k).length = k := by simp [sentP]
theorem sentP_get (l : List (List UInt8)) (n k : Nat) (hk : k < n) {bs : List UInt8} (h : l[k]? = some bs) : ((sentP l n).drop k)[0]? = some ((k : Int), bs) := by
  simp [sentP, List.getElem?_drop, List.getElem?_map, List.getElem?_range hk, List.getD, h]
def OrdRel1 (W : World) (nb ch : Nat) (l : List (List UInt8)) (i : Value) (wr : World) : Prop :=
  ∃ k buf, k ≤ l.length ∧ i = .int .i64 (k : Nat) ∧ NetAt wr nb ch 64 buf (sentP l k) ∧ (∀ j bs, j < k → l[j]? = some bs → bs.length ≤ 300) ∧ Frm (fun _ => False) W wr
def OrdRel2 (W : World) (nb ch : Nat) (l : List (List UInt8)) (i : Value) (wr : World) : Prop :=
  ∃ k buf, k ≤ l.length ∧ i = .int .i64 (k : Nat) ∧ NetAt wr nb ch 64 buf ((sentP l l.length).drop k) ∧ Frm (fun _ => False) W wr

set_option maxHeartbeats 4000000 in
set_option maxRecDepth 1000000 in
theorem order_few (W : World) (a : Option Addr) (c : Nat) (l : List (List UInt8)) (hel : ∀ (k : Nat) (bs : List UInt8), l[k]? = some bs → ∃ b off u, a = some ⟨b, off, none⟩ ∧ W.cell? ⟨b, off + k, none⟩ = some u ∧ Rd W u bs.length (bV bs)) (hl : l.length ≤ 64) :
    Calls Try.prog 5 #[.slice a l.length c] W fun e w' => e = .returned (.bool true) ∧ Frm (fun _ => False) W w' := by
  have HEL := Lib.hid hel; clear hel
  have hl1 : ¬ (64 : Int) < l.length := by omega
  go_enter Try.func5, Try.ntmps5
  go_wp2_with (go_at_call 20; refine (awake26 _).mono ?_; rintro e w1 ⟨rfl, hf1⟩; have HF1 := Lib.hid hf1; clear hf1)
  have hnew : Calls Try.prog 21 #[.int .i64 (64 : Int)] w1 _ := new_net 64 (by omega) (by omega) w1
  refine hnew.mono ?_
  clear hnew
  rintro e w2 ⟨nb, ch, rfl, hn2, hf2, hch⟩
  have HN2 := Lib.hid hn2; clear hn2
  have hfw := HF1.out.trans hf2 fun _ _ h => h
  have HF2 := Lib.hid hfw; clear hfw
  have hch2 : W.heap.size ≤ ch := by have := HF1.out.size; omega
  clear hf2 HF1
  go_wp2_with fail
  go_loopw [27] (fun i wr => OrdRel1 W nb ch l i wr) (fun i _ => l.length - (intOf i).toNat)
  case atStart => exact ⟨0, [], Nat.zero_le _, rfl, HN2.out, fun j bs h => by omega, HF2.out⟩
  case round =>
    obtain ⟨k, buf, hk, rfl, hn, hle, hf⟩ := hrel
    have HN := Lib.hid hn; clear hn
    have HLE := Lib.hid hle; clear hle
    have HF := Lib.hid hf; clear hf
    by_cases hlt : k < l.length
    · obtain ⟨bs, hbs⟩ : ∃ bs, l[k]? = some bs := ⟨_, List.getElem?_eq_getElem hlt⟩
      obtain ⟨b, off, u, rfl, hcu, hru⟩ := HEL.out k bs hbs
      obtain ⟨ua, uc, rfl⟩ := rd_shape hru
      have hcw := HF.out.cell' hcu id
      have hrw := hru.keep HF.out fun _ _ => id
      have HRW := Lib.hid hrw; clear hrw
      have HBS := Lib.hid hbs; clear hbs
      clear hru hcu
      by_cases hb3 : bs.length ≤ 300
      · have hb4 : ¬ (300 : Int) < bs.length := by omega
        have hs := send_ok wr nb ch 64 buf _ (k : Int) (.slice ua bs.length uc) bs HN.out (by rw [sentP_length]; omega) HRW.out (by omega)
        have HS := Lib.hid hs; clear hs
        go_wp2_with (go_at_call 22; refine HS.out.mono ?_; rintro e w3 ⟨rfl, x, hn3, hf3⟩; have HN3 := Lib.hid hn3; clear hn3; have HF3 := Lib.hid hf3; clear hf3)
        go_roundw
        case rel =>
          refine ⟨k + 1, buf ++ [x], by omega, by go_num, ?_, ?_, HF.out.trans HF3.out fun i hi h => ?_⟩
          · rw [← sentP_succ l k HBS.out]; exact HN3.out
          · intro j bs' hj hb
            rcases Nat.lt_or_ge j k with h | h
            · exact HLE.out j bs' h hb
            · obtain rfl : j = k := by omega
              rw [HBS.out] at hb; cases hb; exact hb3
          · have h1 : i = ch := h; omega
        case measure => simp [intOf]; omega
      · have hb4 : (300 : Int) < bs.length := by omega
        go_wp2
        go_ret
        exact ⟨rfl, HF.out⟩
    · obtain rfl : k = l.length := by omega
      have hn0 : NetAt wr nb ch 64 buf ((sentP l l.length).drop 0) := HN.out
      have HN0 := Lib.hid hn0; clear hn0
      clear HN HN2 HF2
      obtain ⟨wo, rfl⟩ : ∃ wo : World, wo = wr := ⟨_, rfl⟩
      go_wp2_with fail
      go_loopw [48] (fun i wr => OrdRel2 W nb ch l i wr) (fun i _ => l.length - (intOf i).toNat)
      case atStart => exact ⟨0, buf, Nat.zero_le _, rfl, HN0.out, HF.out⟩
      case round =>
        clear HN0 HF HLE hlt hk
        obtain ⟨k, buf2, hk, rfl, hn, hf⟩ := hrel
        have HN := Lib.hid hn; clear hn
        have HF := Lib.hid hf; clear hf
        by_cases hlt : k < l.length
        · obtain ⟨bs, hbs⟩ : ∃ bs, l[k]? = some bs := ⟨_, List.getElem?_eq_getElem hlt⟩
          obtain ⟨b, off, u, rfl, hcu, hru⟩ := HEL.out k bs hbs
          obtain ⟨ua, uc, rfl⟩ := rd_shape hru
          have hg := sentP_get l l.length k hlt hbs
          have ht : Calls Try.prog 23 #[.pointer (some ⟨nb, 0, none⟩), .int .i64 (0 : Int)] wr _ := take_ok wr nb ch 64 0 buf2 _ ((k : Int), bs) HN.out hg
          have HT := Lib.hid ht; clear ht
          have HRU := Lib.hid hru; clear hru
          have HCU := Lib.hid hcu; clear hcu
          clear hbs hg
          go_wp2_with (go_at_call 23; refine HT.out.mono ?_; rintro e w3 ⟨a3, c3, rfl, hpa, hn3, hf3⟩)
          obtain ⟨a', c', he, how, _, _⟩ := hpa
          simp only [Value.agg.injEq, Array.mk.injEq, List.cons.injEq, Value.slice.injEq, true_and, and_true] at he
          obtain ⟨rfl, rfl⟩ := he
          have fW : Frm (fun _ => False) W (w3.alloc (.cells #[.int .i64 k, .slice a3 bs.length c3] 43)) := (HF.out.trans hf3 (fun i hi h => by have h1 : i = ch := h; omega)).trans (Frm.alloc _ w3 _) fun _ _ h => h
          have cv1 := fun nq => conv_str (((Rd.own how).keep (Frm.alloc (fun _ => False) w3 (.cells #[.int .i64 k, .slice a3 bs.length c3] 43)) (fun _ _ => id)).drewN nq)
          have cv2 := fun nq => conv_str ((HRU.out.keep fW (fun _ _ => id)).drewN nq)
          have cl := fW.cell' HCU.out id
          have hn4 : ∀ nq, NetAt ((w3.alloc (.cells #[.int .i64 k, .slice a3 bs.length c3] 43)).drewN nq) nb ch 64 (buf2.eraseIdx 0) ((sentP l l.length).drop (k + 1)) := fun nq => by
            have := hn3.keep0 ((Frm.alloc (fun _ => False) w3 (.cells #[.int .i64 k, .slice a3 bs.length c3] 43)).trans (Frm.drewN _ _ nq) fun _ _ h => h)
            have e1 : ((sentP l l.length).drop k).eraseIdx 0 = (sentP l l.length).drop (k + 1) := by rw [List.eraseIdx_zero, List.tail_drop]
            rw [e1] at this
            exact this
          have HN4 := Lib.hid hn4; clear hn4
          have FW := Lib.hid fW; clear fW
          clear hn3 hf3 how
          go_quiet (fail)
          go_wp2
          go_roundw
          case rel => exact ⟨k + 1, _, by omega, by go_num, HN4.out _, FW.out.trans (Frm.drewN _ _ _) fun _ _ h => h⟩
          case measure => simp [intOf]; omega
        · obtain rfl : k = l.length := by omega
          have hno : Calls Try.prog 23 #[.pointer (some ⟨nb, 0, none⟩), .int .i64 (0 : Int)] wr _ := take_no wr nb ch 64 0 buf2 _ HN.out (.inr (by simp [sentP_length]))
          have HNO := Lib.hid hno; clear hno
          go_wp2_with (go_at_call 23; refine HNO.out.mono ?_; rintro e w3 ⟨rfl, hf3⟩)
          have fa : Frm (fun _ => False) wr (w3.alloc (.cells #[.int .i64 0, .slice none 0 0] 43)) := hf3.trans (Frm.alloc _ w3 _) fun _ _ h => h
          have hn4 := HN.out.keep0 fa
          have hln : Calls Try.prog 24 #[.pointer (some ⟨nb, 0, none⟩)] _ _ := net_len _ nb ch 64 _ _ hn4
          have hal := all_any _ nb ch 64 _ _ hn4
          simp only [sentP_length, List.length_drop, Nat.sub_self] at hln hal
          have HLN := Lib.hid hln; clear hln
          have HAL := Lib.hid hal; clear hal
          have FA := Lib.hid fa; clear fa
          clear hn4 hf3
          go_wp2_with (first | (go_at_call 24; refine HLN.out.mono ?_; rintro e w4 ⟨rfl, rfl⟩) | (go_at_call 25; refine HAL.out.mono ?_; rintro e w5 ⟨v5, outs, rfl, _, hf5, ho5, hq5⟩; obtain ⟨a5, c5, rfl⟩ := own_shape hq5.own; have HQ5 := Lib.hid hq5; clear hq5; have HF5 := Lib.hid hf5; clear hf5))
          go_ret
          exact ⟨rfl, (HF.out.trans FA.out fun _ _ h => h).trans HF5.out fun i hi h => by have h1 : i = ch := h; omega⟩

set_option maxRecDepth 1000000 in
theorem order_many (W : World) (a : Option Addr) (c : Nat) (n : Nat) (hl : 64 < n) :
    Calls Try.prog 5 #[.slice a n c] W fun e w' => e = .returned (.bool true) ∧ Frm (fun _ => False) W w' := by
  have hl1 : (64 : Int) < n := by omega
  go_enter Try.func5, Try.ntmps5
  go_wp2_with fail
  refine (awake26 _).mono ?_
  rintro e w1 ⟨rfl, hf1⟩
  have HF1 := Lib.hid hf1; clear hf1
  go_wp2_with fail
  refine (awake26 _).mono ?_
  rintro e w2 ⟨rfl, hf2⟩
  have HF2 := Lib.hid hf2; clear hf2
  go_wp2_with fail
  go_ret
  exact ⟨rfl, HF1.out.trans HF2.out fun _ _ h => h⟩

theorem order_law (W : World) (v : Value) (h : ∃ l : List (List UInt8), BssAt W v l) :
    Calls Try.prog 5 #[v] W fun e w' => e = .returned (.bool true) ∧ Frm (fun _ => False) W w' := by
  obtain ⟨l, a, c, rfl, _, _, h3⟩ := h
  by_cases hl : l.length ≤ 64
  · exact order_few W a c l h3 hl
  · exact order_many W a c l.length (by omega)

theorem Try.cells_bytes : Try.prog.cellsOf 25 = 1 := by kernel_rfl
set_option maxRecDepth 100000 in
theorem bytes_of_trod {H : Type} {enc : TypeId × Value → H} {w : World} {base : Nat} {fuel : Nat} {cs : List Value} {d : DataW H × List MemPlace} (h : DataW.trod enc Try.prog w base (fun _ => true) true fuel 25 cs = some d) :
    ∃ u bs, cs = [u] ∧ Rd w u bs.length (bV bs) := by
  have hsh : ∃ a0 len cap, cs = [.slice a0 len cap] := by
    rcases Go.Deep.open_slice Try.underlying25 h with ⟨hcs, _⟩ | ⟨a, len', cap', m, n, D, Pl, hcs, _⟩
    · exact ⟨_, _, _, hcs⟩
    · exact ⟨_, _, _, hcs⟩
  obtain ⟨a0, len, cap, rfl⟩ := hsh
  rcases open_arr Try.underlying25 Try.cells_u8 (by omega) (fun _ => rfl) h with ⟨rfl, rfl⟩ | ⟨b, off, rfl, h1, h2, n, hel⟩
  · exact ⟨_, [], rfl, .inl ⟨a0, rfl, rfl, rfl⟩⟩
  · have hx : ∀ k, k < len → ∃ c : UInt8, w.cell? ⟨b, off + k, none⟩ = some (.int .u8 (c.toNat : Int)) := fun k hk => by
      obtain ⟨cs, hl, hc, y, hy⟩ := hel k hk
      obtain ⟨x, rfl, _, hw⟩ := DataW.trod_int Try.underlying5 hy
      have hb : 0 ≤ x ∧ x ≤ 255 := by
        simp only [Lit.wf, IntKind.min, IntKind.max, IntKind.signed, IntKind.bits] at hw
        simpa using hw
      refine ⟨UInt8.ofNat x.toNat, ?_⟩
      have h0 := hc 0 _ rfl
      simp only [Nat.mul_one, Nat.add_zero] at h0
      rw [h0]
      congr 2
      have : (UInt8.ofNat x.toNat).toNat = x.toNat := by simp; omega
      rw [this]; omega
    obtain ⟨l, hl, hlp⟩ := list_of_lt hx
    refine ⟨_, l, rfl, .inr ⟨b, off, cap, by rw [hl], by omega, h2, fun j u hu => ?_⟩⟩
    have hj : j < l.length := by simpa using (List.getElem?_eq_some_iff.1 hu).1
    rw [hlp j (by omega) default]
    rw [← hu]
    simp [bV, List.getD, hj]

set_option maxRecDepth 100000 in
theorem open_bss {H : Type} {enc : TypeId × Value → H} {w : World} {base : Nat} {v : Value} {d : DataW H} {ps : List MemPlace} (hv : Value.okWide Try.prog w .any base 37 v) (h : DataW.Trod enc Try.prog w 0 (fun _ => true) true 37 v d ps) :
    ∃ l : List (List UInt8), BssAt w v l := by
  obtain ⟨a0, len, cap, rfl⟩ := okWide_slice Try.underlying37 hv
  obtain ⟨fuel, hf⟩ := h
  rcases open_arr Try.underlying37 Try.cells_bytes (by omega) (fun _ => rfl) hf with ⟨rfl, rfl⟩ | ⟨b, off, rfl, h1, h2, n, hel⟩
  · exact ⟨[], a0, 0, rfl, Nat.le_refl _, by simp [maxLen], fun k bs hk => by simp at hk⟩
  · have hx : ∀ k, k < len → ∃ bs : List UInt8, ∃ u, w.cell? ⟨b, off + k, none⟩ = some u ∧ Rd w u bs.length (bV bs) := fun k hk => by
      obtain ⟨cs, hl, hc, y, hy⟩ := hel k hk
      obtain ⟨u, bs, rfl, hr⟩ := bytes_of_trod hy
      have h0 := hc 0 _ rfl
      simp only [Nat.mul_one, Nat.add_zero] at h0
      exact ⟨bs, u, h0, hr⟩
    obtain ⟨l, hl, hlp⟩ := list_of_lt hx
    refine ⟨l, some ⟨b, off, none⟩, cap, by rw [hl], by omega, h2, fun k bs hk => ?_⟩
    have hkl : k < l.length := (List.getElem?_eq_some_iff.1 hk).1
    obtain ⟨u, g1, g2⟩ := hlp k (by omega) []
    have e1 : l.getD k [] = bs := by simp [List.getD, hk]
    rw [e1] at g2
    exact ⟨b, off, u, rfl, g1, g2⟩

end Go.Proofs.Ytclihppeaikhiaa
