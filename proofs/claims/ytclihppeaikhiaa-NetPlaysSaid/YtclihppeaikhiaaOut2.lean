/- codec.Out.Text; tributarylaw02.awake. -/
import Derived.Test.YtclihppeaikhiaaOut
namespace Go.Proofs.Ytclihppeaikhiaa
open Go.RowKit

/-- A text's bytes. -/
def textB (s : ByteArray) : List UInt8 := numB s.size ++ s.data.toList
theorem bV_string (s : ByteArray) : byteCells s = bV s.data.toList := rfl
theorem src_string (w : World) (s : ByteArray) : Src Try.prog 1 9 (.string s) s.data.toList.length (bV s.data.toList) w := by
  have := Src.ofString (P := Try.prog) w (tx := 9) Try.underlying9 s
  rw [bV_string] at this
  simpa using this
theorem own_shape {w : World} {e : TypeId} {size : Nat} {v : Value} {n : Nat} {xs : List Value} (h : w.ownsRow 0 e size v n xs) : ∃ a c, v = .slice a n c := by
  rcases h.2 with ⟨rfl, h0⟩ | ⟨g, cap, cur, rfl, _⟩
  · exact ⟨none, 0, by rw [h0]⟩
  · exact ⟨_, _, rfl⟩

set_option maxHeartbeats 400000 in
set_option maxRecDepth 1000000 in
theorem text_nil (s : ByteArray) (w : World) : Calls Try.prog 27 #[.pointer none, .string s] w fun e w' => e = .returned (.tuple #[]) ∧ w = w' := by
  go_enter Try.func27, Try.ntmps27
  go_wp2
  go_end0
  exact ⟨rfl, rfl⟩

set_option maxHeartbeats 400000 in
set_option maxRecDepth 1000000 in
theorem text_go (ob : Nat) (s : ByteArray) (w : World) (v : Value) (bs : List UInt8) (h : OutAt w ob v bs) (hl : bs.length + s.size ≤ 99999000) :
    Calls Try.prog 27 #[.pointer (some ⟨ob, 0, none⟩), .string s] w fun e w' => e = .returned (.tuple #[]) ∧
      ∃ v', OutAt w' ob v' (bs ++ textB s) ∧ Fresh w v v' ∧ Frm (OutS ob v) w w' := by
  have hn := num_go ob s.size w v bs h (by omega) (by omega) (by omega)
  have hb : (numB s.size).length ≤ 10 := numB_le10 (by omega) (by omega)
  have hlen : (bs ++ numB s.size).length + s.size ≤ 100000000 := by simp only [List.length_append]; omega
  generalize hB : bs ++ numB s.size = b1 at hn hlen
  have HB := Lib.hid hB; clear hB
  have HN := Lib.hid hn; clear hn
  have HL := Lib.hid hlen; clear hlen
  clear h hb hl
  go_enter Try.func27, Try.ntmps27
  go_wp2_with (go_at_call 19; refine HN.out.mono ?_)
  rintro e w1 ⟨rfl, v1, ho, hf, hm⟩
  have hcell := cell_of_one ho.cell
  have hfree := free_of_one ho.cell
  obtain ⟨a1, c1, rfl⟩ := own_shape ho.own
  have HO := Lib.hid ho; clear ho
  have HF := Lib.hid hf; clear hf
  have HM := Lib.hid hm; clear hm
  go_wp2_with (at_builtin; go_loud (refine app_u8 _ rfl (.tmp 14) (.tmp 15) 9 rfl _ _ HO.out.own _ s.data.toList rfl rfl (src_string _ s) ?c1 ?_))
  case c1 => have := HL.out; simp only [Array.length_toList]; show _ + s.size ≤ _; omega
  intro ad c2 w2 own1 fm1 fr1 _
  obtain ⟨k0, k1, k2⟩ := HO.out.row fm1
  have OW := Lib.hid own1; clear own1
  have FM := Lib.hid fm1; clear fm1
  have FR := Lib.hid fr1; clear fr1
  obtain ⟨o1, o2⟩ := HO.out.store (cs := s.data.toList) OW.out FM.out FR.out (by simp [bV_append])
  have O1 := Lib.hid o1; clear o1
  have O2 := Lib.hid o2; clear o2
  go_wp2
  go_end0
  refine ⟨rfl, _, ?_, HF.out.trans HM.out.size FR.out, HM.out.trans O2.out (outS_fresh HF.out)⟩
  have e := O1.out
  have hx : b1 ++ s.data.toList = bs ++ textB s := by rw [← HB.out, List.append_assoc]; rfl
  rw [hx] at e
  exact e

theorem out_new (w : World) : OutAt (w.alloc (.cells #[.slice none 0 0] 27)) w.heap.size (.slice none 0 0) [] :=
  ⟨heap_alloc_new w _, World.ownsRow_nil _ 0 _ 1, by simp [Value.ownBlock]⟩

theorem out_alloc_no (w : World) : ∀ i, i < w.heap.size → OutS w.heap.size (.slice none 0 0) i → False := fun i hi hs => by
  rcases hs with h | h
  · omega
  · simp [Value.ownBlock] at h

theorem awake_bytes : numB 150 ++ textB ⟨#[97]⟩ = [172, 2, 2, 97] := by
  have h1 : numB 150 = [172, 2] := by
    unfold numB; rw [show zz 150 = 300 from rfl, vl_big (by omega), vl_small (by omega)]; rfl
  have h2 : numB ((⟨#[97]⟩ : ByteArray).size) = [2] := by
    unfold numB; rw [show zz ((⟨#[97]⟩ : ByteArray).size) = 2 from rfl, vl_small (by omega)]; rfl
  unfold textB
  rw [h1, h2]
  rfl

theorem conv_str {w : World} {v : Value} {bs : List UInt8} (h : Rd w v bs.length (bV bs)) : (convert 25 9 v).run Try.prog w = .ok (.string ⟨bs.toArray⟩) w := by
  rcases h with ⟨ad, rfl, h1, h2⟩ | ⟨b, off, c, rfl, _, _, h3⟩
  · have hb : bs = [] := by simpa [bV] using h2
    subst hb
    rw [run_convert_bytes_string w 25 9 5 _ _ _ Try.underlying25 Try.underlying5 Try.underlying9]
    cases ad with
    | none => rfl
    | some a =>
      have hl := run_loadCells_list (P := Try.prog) w a [] (fun j u hu => by simp at hu)
      rw [run_bytesToString w a 0 0 [] hl]
      rfl
  · rw [run_convert_bytes_string w 25 9 5 _ _ _ Try.underlying25 Try.underlying5 Try.underlying9]
    have e : bV bs = (bs.map (fun b => (b.toNat : Int))).map (Value.int .u8) := by simp [bV]
    have hl := run_loadCells_list (P := Try.prog) w ⟨b, off, none⟩ (bV bs) (fun j u hu => by rw [addr_add]; exact h3 j u hu)
    rw [bV_length, e] at hl
    rw [run_bytesToString w ⟨b, off, none⟩ bs.length c _ hl, foldl_push_byteCells]
    simp

theorem aw1 : ([] ++ numB 150).length + (⟨#[97]⟩ : ByteArray).size ≤ 99999000 := by
  have h : (⟨#[97]⟩ : ByteArray).size = 1 := rfl
  have := numB_le10 (v := 150) (by omega) (by omega)
  simp only [List.nil_append, h]; omega
theorem aw2 : ([] ++ numB 150 ++ textB ⟨#[97]⟩).length ≤ 60000 := by
  rw [List.nil_append, awake_bytes]; decide

set_option maxHeartbeats 400000 in
set_option maxRecDepth 1000000 in
theorem awake02 (w : World) : Calls Try.prog 14 #[] w fun e w' => e = .returned (.bool true) ∧ Frm (fun _ => False) w w' := by
  go_enter Try.func14, Try.ntmps14
  go_wp2_with (go_at_call 19; refine (num_go _ _ _ _ _ (out_new w) (by omega) (by omega) (by simp)).mono ?_)
  rintro e w1 ⟨rfl, v1, ho, hf, hm⟩
  have HO := Lib.hid ho; clear ho
  have HF := Lib.hid hf; clear hf
  have HM := Lib.hid hm; clear hm
  go_wp2_with (go_at_call 27; refine (text_go _ _ _ _ _ HO.out aw1).mono ?_)
  rintro e w2 ⟨rfl, v2, ho2, hf2, hm2⟩
  have HO2 := Lib.hid ho2; clear ho2
  have HF2 := Lib.hid hf2; clear hf2
  have HM2 := Lib.hid hm2; clear hm2
  go_wp2_with (go_at_call 18; refine (end_ok _ _ _ _ HO2.out aw2).mono ?_)
  rintro e w3 ⟨v3, rfl, hcp⟩
  have hcv := conv_str (Rd.own hcp.own)
  rw [show [] ++ numB 150 ++ textB ⟨#[97]⟩ = [172, 2, 2, 97] from awake_bytes] at hcv
  have HP := Lib.hid hcp; clear hcp
  go_wp2_with fail
  go_ret
  refine ⟨rfl, ?_⟩
  exact (((Frm.alloc (fun _ => False) w _).trans HM.out (out_alloc_no w)).trans HM2.out (fun i hi hs => out_alloc_no w i hi (outS_fresh HF.out i (by simp; omega) hs))).trans HP.out.frm (fun _ _ h => h.elim)

end Go.Proofs.Ytclihppeaikhiaa
