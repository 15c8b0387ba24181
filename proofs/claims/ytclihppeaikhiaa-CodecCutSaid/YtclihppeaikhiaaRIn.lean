/- tributaryref02.In: Num, Text, Done. -/
import Derived.Test.YtclihppeaikhiaaRTake2
namespace Go.Proofs.Ytclihppeaikhiaa
open Go.RowKit

/-- The reference's state, as a value: what is left; is it bad? -/
def RSt (w : World) (v : Value) (bad : Bool) : Option (List UInt8) → Prop
  | none => v = .slice none 0 0 ∧ bad = true
  | some bs => bad = false ∧ Rd w v bs.length (bV bs)
theorem RSt.keep {w w' : World} {v : Value} {bad : Bool} {st : Option (List UInt8)} (h : RSt w v bad st) {S : Nat → Prop} (f : Frm S w w') (hn : ∀ k, v.ownBlock = some k → ¬ S k) : RSt w' v bad st := by
  cases st with
  | none => exact h
  | some bs => exact ⟨h.1, h.2.keep f hn⟩

set_option maxHeartbeats 400000 in
set_option maxRecDepth 1000000 in
theorem rdone (w : World) (v : Value) (bad : Bool) (st : Option (List UInt8)) (h : RSt w v bad st) :
    Calls Try.prog 37 #[.agg #[v, .bool bad]] w fun e w' => e = .returned (.bool (doneOf st)) ∧ Frm Nowhere w w' := by
  cases st with
  | none =>
    obtain ⟨rfl, rfl⟩ := h
    go_enter Try.func37, Try.ntmps37
    go_wp2
    go_ret
    exact ⟨rfl, Frm.alloc Nowhere w _⟩
  | some bs =>
    obtain ⟨rfl, hr⟩ := h
    obtain ⟨a, c, rfl⟩ := rd_shape hr
    clear hr
    by_cases h0 : bs.length = 0
    · have hd : ((bs.length : Int) == 0) = true := beq_iff_eq.2 (by omega)
      have he : doneOf (some bs) = true := by simp [doneOf]; simpa using h0
      rw [he]
      clear he h0
      go_enter Try.func37, Try.ntmps37
      go_wp2
      go_ret
      exact ⟨rfl, Frm.alloc Nowhere w _⟩
    · have hd : ((bs.length : Int) == 0) = false := beq_false_of_ne (by omega)
      have he : doneOf (some bs) = false := by simp [doneOf]; simpa using h0
      rw [he]
      clear he h0
      go_enter Try.func37, Try.ntmps37
      go_wp2
      go_ret
      exact ⟨rfl, Frm.alloc Nowhere w _⟩

/-- The one lies nowhere but where the other lies. -/
def SubV (v' v : Value) : Prop := ∀ k, v'.ownBlock = some k → v.ownBlock = some k
theorem SubV.nil (v : Value) : SubV (.slice none 0 0) v := fun _ h => by simp [Value.ownBlock] at h
theorem own_any (a : Option Addr) (n c n' c' : Nat) : (Value.slice a n c).ownBlock = (Value.slice a n' c').ownBlock := by cases a <;> rfl
theorem own_map (a : Option Addr) (k n c n' c' : Nat) : (Value.slice (a.map fun x => x.add k) n c).ownBlock = (Value.slice a n' c').ownBlock := by
  cases a with
  | none => rfl
  | some a => simp [Value.ownBlock, Addr.add]; split <;> rfl
theorem Rd.drop {w : World} {a : Option Addr} {L c : Nat} {bs : List UInt8} (h : Rd w (.slice a L c) L (bV bs)) (hL : bs.length = L) (k : Nat) (hk : k ≤ L) :
    Rd w (.slice (a.map fun x => x.add k) (L - k) (c - k)) (bs.drop k).length (bV (bs.drop k)) := by
  have hlen : (bs.drop k).length = L - k := by rw [List.length_drop, hL]
  rcases h with ⟨ad, h1, h2, h3⟩ | ⟨b, off, c'', h1, h2, h3, h4⟩
  · injection h1 with e1 e2 e3
    have hb : bs = [] := by simpa [bV] using h3
    subst hb
    exact .inl ⟨a.map fun x => x.add k, by rw [h2, e3]; simp, by simp, by simp [bV]⟩
  · injection h1 with e1 e2 e3
    subst e1
    refine .inr ⟨b, off + k, c - k, by rw [hlen]; simp [addr_add], by omega, by omega, fun j u hu => ?_⟩
    have := h4 (k + j) u (by rw [← hu, bV, bV, List.map_drop, List.getElem?_drop])
    rwa [← Nat.add_assoc] at this
theorem frm_two {w w1 : World} {o1 o2 : Obj} (h : Frm Nowhere ((w.alloc o1).alloc o2) w1) (u u' : Value) : Frm Nowhere w ((w1.setCell ⟨w.heap.size + 1, 0, none⟩ u).setCell ⟨w.heap.size + 1, 1, none⟩ u') := by
  have h0 : Frm Nowhere w w1 := ((Frm.alloc Nowhere w o1).trans (Frm.alloc Nowhere _ o2) fun _ _ h => h).trans h fun _ _ h => h
  refine (h0.trans (only_set w1 (w.heap.size + 1) 0 u) fun i hi hs => ?_).trans (only_set _ (w.heap.size + 1) 1 u') fun i hi hs => ?_
  · have : i = w.heap.size + 1 := hs; omega
  · have : i = w.heap.size + 1 := hs; omega

set_option maxHeartbeats 400000 in
set_option maxRecDepth 1000000 in
theorem rinum_bad (m : Int) (w : World) : Calls Try.prog 36 #[.agg #[.slice none 0 0, .bool true], .int .i64 m] w fun e w' => e = .returned (.tuple #[.int .i64 0, .agg #[.slice none 0 0, .bool true]]) ∧ Frm Nowhere w w' := by
  have hno : NoNum [] := fun v r h => by
    have h1 := congrArg List.length h.2
    have h2 := numB_pos v
    simp only [List.length_nil, List.length_append] at h1
    omega
  have htk := fun W => rtake_no (.slice none 0 0) [] W (.inl ⟨none, rfl, rfl, rfl⟩) hno
  have HTK := Lib.hid htk; clear htk
  clear hno
  go_enter Try.func36, Try.ntmps36
  go_wp2_with (go_at_call 53; refine (HTK.out _).mono ?_)
  rintro e w1 ⟨⟨x, k, rfl⟩, hfm⟩
  have hz := hfm.size
  have hc := fun o => hfm.cell (p := ⟨w.heap.size + 1, o, none⟩) (by simp) (fun h => h)
  have hc' := fun o => hfm.cell (p := ⟨w.heap.size, o, none⟩) (by simp; omega) (fun h => h)
  have hq := fun o => hfm.frozen (p := ⟨w.heap.size + 1, o, none⟩) (by simp) (fun h => h)
  have HFM := Lib.hid hfm; clear hfm
  go_wp2
  exact bodyPost_ret (v := .tuple #[.int .i64 0, .agg #[.slice none 0 0, .bool true]]) (by simp [results, Try.results36, go_sem, hc]) rfl ⟨rfl, frm_two HFM.out _ _⟩

set_option maxHeartbeats 400000 in
set_option maxRecDepth 1000000 in
theorem rinum_no (m : Int) (v : Value) (bs : List UInt8) (w : World) (h : Rd w v bs.length (bV bs)) (hno : NoNum bs) :
    Calls Try.prog 36 #[.agg #[v, .bool false], .int .i64 m] w fun e w' => e = .returned (.tuple #[.int .i64 0, .agg #[.slice none 0 0, .bool true]]) ∧ Frm Nowhere w w' := by
  have htk := fun W h => rtake_no v bs W h hno
  obtain ⟨a, c, rfl⟩ := rd_shape h
  have HTK := Lib.hid htk; clear htk
  have HH := Lib.hid h; clear h
  clear hno
  go_enter Try.func36, Try.ntmps36
  go_wp2_with (go_at_call 53; refine (HTK.out _ (HH.out.keep ((Frm.alloc Nowhere w _).trans (Frm.alloc Nowhere _ _) fun _ _ h => h) fun _ _ h => h)).mono ?_)
  rintro e w1 ⟨⟨x, k, rfl⟩, hfm⟩
  have hz := hfm.size
  have hc := fun o => hfm.cell (p := ⟨w.heap.size + 1, o, none⟩) (by simp) (fun h => h)
  have hc' := fun o => hfm.cell (p := ⟨w.heap.size, o, none⟩) (by simp; omega) (fun h => h)
  have hq := fun o => hfm.frozen (p := ⟨w.heap.size + 1, o, none⟩) (by simp) (fun h => h)
  have HFM := Lib.hid hfm; clear hfm
  go_wp2
  exact bodyPost_ret (v := .tuple #[.int .i64 0, .agg #[.slice none 0 0, .bool true]]) (by simp [results, Try.results36, go_sem, hc]) rfl ⟨rfl, frm_two HFM.out _ _⟩

set_option maxHeartbeats 400000 in
set_option maxRecDepth 1000000 in
theorem rinum_out (m : Int) (v : Value) (bs r : List UInt8) (u : Int) (w : World) (h : Rd w v bs.length (bV bs)) (hb : Begins bs u r) (hm : m < 0 ∨ m < u ∨ u < -m) (hm2 : m ≤ 9223372036854775807) (_hm3 : -9223372036854775808 ≤ m) :
    Calls Try.prog 36 #[.agg #[v, .bool false], .int .i64 m] w fun e w' => e = .returned (.tuple #[.int .i64 0, .agg #[.slice none 0 0, .bool true]]) ∧ Frm Nowhere w w' := by
  have hn := hb.vl
  have htk := fun W h => rtake_yes v bs r (zz u) W h hn.2 hn.1
  rw [unzz_zz] at htk
  obtain ⟨a, c, rfl⟩ := rd_shape h
  have HTK := Lib.hid htk; clear htk
  have HH := Lib.hid h; clear h
  generalize (vl (zz u)).length = M at *
  clear hb hn
  rcases (show m < 0 ∨ (0 ≤ m ∧ m < u) ∨ (0 ≤ m ∧ u ≤ m ∧ u < -m) by omega) with h0 | ⟨h0, h1⟩ | ⟨h0, h1, h2⟩
  all_goals
    clear hm
    go_enter Try.func36, Try.ntmps36
    go_wp2_with (go_at_call 53; refine (HTK.out _ (HH.out.keep ((Frm.alloc Nowhere w _).trans (Frm.alloc Nowhere _ _) fun _ _ h => h) fun _ _ h => h)).mono ?_)
    rintro e w1 ⟨rfl, hfm⟩
    have hz := hfm.size
    have hc := fun o => hfm.cell (p := ⟨w.heap.size + 1, o, none⟩) (by simp) (fun h => h)
    have hc' := fun o => hfm.cell (p := ⟨w.heap.size, o, none⟩) (by simp; omega) (fun h => h)
    have hq := fun o => hfm.frozen (p := ⟨w.heap.size + 1, o, none⟩) (by simp) (fun h => h)
    have HFM := Lib.hid hfm; clear hfm
    go_wp2
    exact bodyPost_ret (v := .tuple #[.int .i64 0, .agg #[.slice none 0 0, .bool true]]) (by simp [results, Try.results36, go_sem, hc]) rfl ⟨rfl, frm_two HFM.out _ _⟩

set_option maxHeartbeats 400000 in
set_option maxRecDepth 1000000 in
theorem rinum_yes (m : Int) (v : Value) (bs r : List UInt8) (u : Int) (w : World) (h : Rd w v bs.length (bV bs)) (hb : Begins bs u r) (hm : 0 ≤ m ∧ u ≤ m ∧ -m ≤ u) (hm2 : m ≤ 9223372036854775807) :
    Calls Try.prog 36 #[.agg #[v, .bool false], .int .i64 m] w fun e w' => ∃ v', e = .returned (.tuple #[.int .i64 u, .agg #[v', .bool false]]) ∧ Rd w' v' r.length (bV r) ∧ (v'.ownBlock = v.ownBlock) ∧ Frm Nowhere w w' := by
  have hn := hb.vl
  have htk := fun W h => rtake_yes v bs r (zz u) W h hn.2 hn.1
  rw [unzz_zz] at htk
  obtain ⟨a, c, rfl⟩ := rd_shape h
  have hcap := rd_cap h
  have hlen : (vl (zz u)).length + r.length = bs.length := by rw [hn.2]; simp
  have hdrop : bs.drop (vl (zz u)).length = r := (congrArg (List.drop (vl (zz u)).length) hn.2).trans List.drop_left
  have HTK := Lib.hid htk; clear htk
  have HH := Lib.hid h; clear h
  generalize (vl (zz u)).length = M at *
  generalize hL : bs.length = L at *
  have HL := Lib.hid hL; clear hL
  have HD := Lib.hid hdrop; clear hdrop
  have hML : M ≤ L := by omega
  have HLEN := Lib.hid hlen; clear hlen
  obtain ⟨h0, h1, h2⟩ := hm
  clear hb hn
  go_enter Try.func36, Try.ntmps36
  go_wp2_with (go_at_call 53; refine (HTK.out _ (HH.out.keep ((Frm.alloc Nowhere w _).trans (Frm.alloc Nowhere _ _) fun _ _ h => h) fun _ _ h => h)).mono ?_)
  rintro e w1 ⟨rfl, hfm⟩
  have hz := hfm.size
  have hc := fun o => hfm.cell (p := ⟨w.heap.size + 1, o, none⟩) (by simp) (fun h => h)
  have hc' := fun o => hfm.cell (p := ⟨w.heap.size, o, none⟩) (by simp; omega) (fun h => h)
  have hq := fun o => hfm.frozen (p := ⟨w.heap.size + 1, o, none⟩) (by simp) (fun h => h)
  have HFM := Lib.hid hfm; clear hfm
  by_cases hcap2 : c = M
  · subst hcap2
    go_wp2_with fail
    go_region
    go_wp2
    refine bodyPost_ret (v := .tuple #[.int .i64 u, .agg #[.slice a 0 0, .bool false]]) (by simp [results, Try.results36, go_sem, hc]) rfl ⟨_, rfl, ?_, own_any a 0 0 L c, (frm_two HFM.out _ _).trans (Frm.drew Nowhere _) fun _ _ h => h⟩
    have : r = [] := List.eq_nil_of_length_eq_zero (by have := HLEN.out; omega)
    subst this
    exact .inl ⟨a, rfl, rfl, rfl⟩
  · go_wp2_with fail
    go_region
    go_wp2
    refine bodyPost_ret (v := .tuple #[.int .i64 u, .agg #[.slice (Option.map (fun x => x.add M) a) (L - M) (c - M), .bool false]]) (by simp [results, Try.results36, go_sem, hc]) rfl ⟨_, rfl, ?_, own_map a M _ _ L c, (frm_two HFM.out _ _).trans (Frm.drew Nowhere _) fun _ _ h => h⟩
    have hd := HH.out.drop HL.out M hML
    rw [HD.out] at hd
    exact hd.keep ((frm_two HFM.out _ _).trans (Frm.drew Nowhere _) fun _ _ h => h) fun _ _ h => h

/-- Num of whatever state. -/
theorem rinum_any (m : Int) (v : Value) (bad : Bool) (st : Option (List UInt8)) (w : World) (h : RSt w v bad st) (hm2 : m ≤ 9223372036854775807) (hm3 : -9223372036854775808 ≤ m) :
    Calls Try.prog 36 #[.agg #[v, .bool bad], .int .i64 m] w fun e w' => ∃ n v' bad' st', e = .returned (.tuple #[.int .i64 n, .agg #[v', .bool bad']]) ∧ NumStep st m n st' ∧ RSt w' v' bad' st' ∧ SubV v' v ∧ Frm Nowhere w w' := by
  cases st with
  | none =>
    obtain ⟨rfl, rfl⟩ := h
    exact (rinum_bad m w).mono fun e w' ⟨he, hf⟩ => ⟨0, _, true, none, he, ⟨rfl, rfl⟩, ⟨rfl, rfl⟩, SubV.nil _, hf⟩
  | some bs =>
    obtain ⟨rfl, hr⟩ := h
    by_cases hb : ∃ u r, Begins bs u r
    · obtain ⟨u, r, hb⟩ := hb
      by_cases hm : 0 ≤ m ∧ u ≤ m ∧ -m ≤ u
      · exact (rinum_yes m v bs r u w hr hb hm hm2).mono fun e w' ⟨v', he, h1, h2, h3⟩ => ⟨u, v', false, some r, he, .inl ⟨r, hb, hm.1, hm.2.1, hm.2.2, rfl⟩, ⟨rfl, h1⟩, fun k hk => h2 ▸ hk, h3⟩
      · exact (rinum_out m v bs r u w hr hb (by omega) hm2 hm3).mono fun e w' ⟨he, hf⟩ => ⟨0, _, true, none, he, .inr ⟨fun u' r' hb' => by
          obtain ⟨e1, _⟩ := hb.unique hb'
          omega, rfl, rfl⟩, ⟨rfl, rfl⟩, SubV.nil _, hf⟩
    · exact (rinum_no m v bs w hr fun u r h => hb ⟨u, r, h⟩).mono fun e w' ⟨he, hf⟩ => ⟨0, _, true, none, he, .inr ⟨fun u r h => (hb ⟨u, r, h⟩).elim, rfl, rfl⟩, ⟨rfl, rfl⟩, SubV.nil _, hf⟩

end Go.Proofs.Ytclihppeaikhiaa
