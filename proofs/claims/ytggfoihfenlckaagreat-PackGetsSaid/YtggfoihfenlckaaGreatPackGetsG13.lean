/- Words for the law PackGets: RIn, RIText, Takes0, R16d, Puts0, PackGet. -/
import Derived.Test.YtggfoihfenlckaaGreatPackGetsG1
import Derived.Test.YtggfoihfenlckaaGreatPackGetsG5
import Derived.Test.YtggfoihfenlckaaGreatPackGetsG6
import Derived.Test.YtggfoihfenlckaaGreatPackGetsG11
import Derived.Test.YtggfoihfenlckaaGreatPackGetsG12
set_option linter.unusedSimpArgs false
set_option linter.unusedVariables false
/- tributaryref02.In: Num, Text, Done. -/
namespace Go.Proofs.YtggfoihfenlckaaGreat
open Go.RowKit
/-- The reference's state, as a value: what is left; is it bad? -/
def RSt (w : World) (v : Value) (bad : Bool) : Option (List UInt8) → Prop
  | none => v = .slice none 0 0 ∧ bad = true
  | some bs => bad = false ∧ Rd w v bs.length (bV bs)
theorem RSt.keep {w w' : World} {v : Value} {bad : Bool} {st : Option (List UInt8)} (h : RSt w v bad st) {S : Nat → Prop} (f : Frm S w w') (hn : ∀ k, v.ownBlock = some k → ¬ S k) : RSt w' v bad st := by
  cases st with
  | none => exact h
  | some bs => exact ⟨h.1, h.2.keep f hn⟩
set_option maxHeartbeats 400000 in
set_option maxRecDepth 1000000 in
theorem rdone (w : World) (v : Value) (bad : Bool) (st : Option (List UInt8)) (h : RSt w v bad st) :
    Calls Tryz.prog 20 #[.agg #[v, .bool bad]] w fun e w' => e = .returned (.bool (doneOf st)) ∧ Frm Nowhere w w' := by
  cases st with
  | none =>
    obtain ⟨rfl, rfl⟩ := h
    go_enter Tryz.func20, Tryz.ntmps20
    go_wp2
    go_ret
    exact ⟨rfl, Frm.alloc Nowhere w _⟩
  | some bs =>
    obtain ⟨rfl, hr⟩ := h
    obtain ⟨a, c, rfl⟩ := rd_shape hr
    clear hr
    by_cases h0 : bs.length = 0
    · have hd : ((bs.length : Int) == 0) = true := beq_iff_eq.2 (by omega)
      have he : doneOf (some bs) = true := by simp [doneOf]; simpa using h0
      rw [he]
      clear he h0
      go_enter Tryz.func20, Tryz.ntmps20
      go_wp2
      go_ret
      exact ⟨rfl, Frm.alloc Nowhere w _⟩
    · have hd : ((bs.length : Int) == 0) = false := beq_false_of_ne (by omega)
      have he : doneOf (some bs) = false := by simp [doneOf]; simpa using h0
      rw [he]
      clear he h0
      go_enter Tryz.func20, Tryz.ntmps20
      go_wp2
      go_ret
      exact ⟨rfl, Frm.alloc Nowhere w _⟩
/-- The one lies nowhere but where the other lies. -/
def SubV (v' v : Value) : Prop := ∀ k, v'.ownBlock = some k → v.ownBlock = some k
theorem SubV.nil (v : Value) : SubV (.slice none 0 0) v := fun _ h => by simp [Value.ownBlock] at h
theorem own_any (a : Option Addr) (n c n' c' : Nat) : (Value.slice a n c).ownBlock = (Value.slice a n' c').ownBlock := by cases a <;> rfl
theorem own_map (a : Option Addr) (k n c n' c' : Nat) : (Value.slice (a.map fun x => x.add k) n c).ownBlock = (Value.slice a n' c').ownBlock := by
  cases a with
  | none => rfl
  | some a => simp [Value.ownBlock, Addr.add]; split <;> rfl
theorem Rd.drop {w : World} {a : Option Addr} {L c : Nat} {bs : List UInt8} (h : Rd w (.slice a L c) L (bV bs)) (hL : bs.length = L) (k : Nat) (hk : k ≤ L) :
    Rd w (.slice (a.map fun x => x.add k) (L - k) (c - k)) (bs.drop k).length (bV (bs.drop k)) := by
  have hlen : (bs.drop k).length = L - k := by rw [List.length_drop, hL]
  rcases h with ⟨ad, h1, h2, h3⟩ | ⟨b, off, c'', h1, h2, h3, h4⟩
  · injection h1 with e1 e2 e3
    have hb : bs = [] := by simpa [bV] using h3
    subst hb
    exact .inl ⟨a.map fun x => x.add k, by rw [h2, e3]; simp, by simp, by simp [bV]⟩
  · injection h1 with e1 e2 e3
    subst e1
    refine .inr ⟨b, off + k, c - k, by rw [hlen]; simp [addr_add], by omega, by omega, fun j u hu => ?_⟩
    have := h4 (k + j) u (by rw [← hu, bV, bV, List.map_drop, List.getElem?_drop])
    rwa [← Nat.add_assoc] at this
theorem frm_two {w w1 : World} {o1 o2 : Obj} (h : Frm Nowhere ((w.alloc o1).alloc o2) w1) (u u' : Value) : Frm Nowhere w ((w1.setCell ⟨w.heap.size + 1, 0, none⟩ u).setCell ⟨w.heap.size + 1, 1, none⟩ u') := by
  have h0 : Frm Nowhere w w1 := ((Frm.alloc Nowhere w o1).trans (Frm.alloc Nowhere _ o2) fun _ _ h => h).trans h fun _ _ h => h
  refine (h0.trans (only_set w1 (w.heap.size + 1) 0 u) fun i hi hs => ?_).trans (only_set _ (w.heap.size + 1) 1 u') fun i hi hs => ?_
  · have : i = w.heap.size + 1 := hs; omega
  · have : i = w.heap.size + 1 := hs; omega
set_option maxHeartbeats 400000 in
set_option maxRecDepth 1000000 in
theorem rinum_bad (m : Int) (w : World) : Calls Tryz.prog 105 #[.agg #[.slice none 0 0, .bool true], .int .i64 m] w fun e w' => e = .returned (.tuple #[.int .i64 0, .agg #[.slice none 0 0, .bool true]]) ∧ Frm Nowhere w w' := by
  have hno : NoNum [] := fun v r h => by
    have h1 := congrArg List.length h.2
    have h2 := numB_pos v
    simp only [List.length_nil, List.length_append] at h1
    omega
  have htk := fun W => rtake_no (.slice none 0 0) [] W (.inl ⟨none, rfl, rfl, rfl⟩) hno
  have HTK := Lib.hid htk; clear htk
  clear hno
  go_enter Tryz.func105, Tryz.ntmps105
  go_wp2_with (go_at_call 150; refine (HTK.out _).mono ?_)
  rintro e w1 ⟨⟨x, k, rfl⟩, hfm⟩
  have hz := hfm.size
  have hc := fun o => hfm.cell (p := ⟨w.heap.size + 1, o, none⟩) (by simp) (fun h => h)
  have hc' := fun o => hfm.cell (p := ⟨w.heap.size, o, none⟩) (by simp; omega) (fun h => h)
  have hq := fun o => hfm.frozen (p := ⟨w.heap.size + 1, o, none⟩) (by simp) (fun h => h)
  have HFM := Lib.hid hfm; clear hfm
  go_wp2
  exact bodyPost_ret (v := .tuple #[.int .i64 0, .agg #[.slice none 0 0, .bool true]]) (by simp [results, Tryz.results105, go_sem, hc]) rfl ⟨rfl, frm_two HFM.out _ _⟩
set_option maxHeartbeats 400000 in
set_option maxRecDepth 1000000 in
theorem rinum_no (m : Int) (v : Value) (bs : List UInt8) (w : World) (h : Rd w v bs.length (bV bs)) (hno : NoNum bs) :
    Calls Tryz.prog 105 #[.agg #[v, .bool false], .int .i64 m] w fun e w' => e = .returned (.tuple #[.int .i64 0, .agg #[.slice none 0 0, .bool true]]) ∧ Frm Nowhere w w' := by
  have htk := fun W h => rtake_no v bs W h hno
  obtain ⟨a, c, rfl⟩ := rd_shape h
  have HTK := Lib.hid htk; clear htk
  have HH := Lib.hid h; clear h
  clear hno
  go_enter Tryz.func105, Tryz.ntmps105
  go_wp2_with (go_at_call 150; refine (HTK.out _ (HH.out.keep ((Frm.alloc Nowhere w _).trans (Frm.alloc Nowhere _ _) fun _ _ h => h) fun _ _ h => h)).mono ?_)
  rintro e w1 ⟨⟨x, k, rfl⟩, hfm⟩
  have hz := hfm.size
  have hc := fun o => hfm.cell (p := ⟨w.heap.size + 1, o, none⟩) (by simp) (fun h => h)
  have hc' := fun o => hfm.cell (p := ⟨w.heap.size, o, none⟩) (by simp; omega) (fun h => h)
  have hq := fun o => hfm.frozen (p := ⟨w.heap.size + 1, o, none⟩) (by simp) (fun h => h)
  have HFM := Lib.hid hfm; clear hfm
  go_wp2
  exact bodyPost_ret (v := .tuple #[.int .i64 0, .agg #[.slice none 0 0, .bool true]]) (by simp [results, Tryz.results105, go_sem, hc]) rfl ⟨rfl, frm_two HFM.out _ _⟩
set_option maxHeartbeats 400000 in
set_option maxRecDepth 1000000 in
theorem rinum_out (m : Int) (v : Value) (bs r : List UInt8) (u : Int) (w : World) (h : Rd w v bs.length (bV bs)) (hb : Begins bs u r) (hm : m < 0 ∨ m < u ∨ u < -m) (hm2 : m ≤ 9223372036854775807) (_hm3 : -9223372036854775808 ≤ m) :
    Calls Tryz.prog 105 #[.agg #[v, .bool false], .int .i64 m] w fun e w' => e = .returned (.tuple #[.int .i64 0, .agg #[.slice none 0 0, .bool true]]) ∧ Frm Nowhere w w' := by
  have hn := hb.vl
  have htk := fun W h => rtake_yes v bs r (zz u) W h hn.2 hn.1
  rw [unzz_zz] at htk
  obtain ⟨a, c, rfl⟩ := rd_shape h
  have HTK := Lib.hid htk; clear htk
  have HH := Lib.hid h; clear h
  generalize (vl (zz u)).length = M at *
  clear hb hn
  rcases (show m < 0 ∨ (0 ≤ m ∧ m < u) ∨ (0 ≤ m ∧ u ≤ m ∧ u < -m) by omega) with h0 | ⟨h0, h1⟩ | ⟨h0, h1, h2⟩
  all_goals
    clear hm
    go_enter Tryz.func105, Tryz.ntmps105
    go_wp2_with (go_at_call 150; refine (HTK.out _ (HH.out.keep ((Frm.alloc Nowhere w _).trans (Frm.alloc Nowhere _ _) fun _ _ h => h) fun _ _ h => h)).mono ?_)
    rintro e w1 ⟨rfl, hfm⟩
    have hz := hfm.size
    have hc := fun o => hfm.cell (p := ⟨w.heap.size + 1, o, none⟩) (by simp) (fun h => h)
    have hc' := fun o => hfm.cell (p := ⟨w.heap.size, o, none⟩) (by simp; omega) (fun h => h)
    have hq := fun o => hfm.frozen (p := ⟨w.heap.size + 1, o, none⟩) (by simp) (fun h => h)
    have HFM := Lib.hid hfm; clear hfm
    go_wp2
    exact bodyPost_ret (v := .tuple #[.int .i64 0, .agg #[.slice none 0 0, .bool true]]) (by simp [results, Tryz.results105, go_sem, hc]) rfl ⟨rfl, frm_two HFM.out _ _⟩
set_option maxHeartbeats 400000 in
set_option maxRecDepth 1000000 in
theorem rinum_yes (m : Int) (v : Value) (bs r : List UInt8) (u : Int) (w : World) (h : Rd w v bs.length (bV bs)) (hb : Begins bs u r) (hm : 0 ≤ m ∧ u ≤ m ∧ -m ≤ u) (hm2 : m ≤ 9223372036854775807) :
    Calls Tryz.prog 105 #[.agg #[v, .bool false], .int .i64 m] w fun e w' => ∃ v', e = .returned (.tuple #[.int .i64 u, .agg #[v', .bool false]]) ∧ Rd w' v' r.length (bV r) ∧ (v'.ownBlock = v.ownBlock) ∧ Frm Nowhere w w' := by
  have hn := hb.vl
  have htk := fun W h => rtake_yes v bs r (zz u) W h hn.2 hn.1
  rw [unzz_zz] at htk
  obtain ⟨a, c, rfl⟩ := rd_shape h
  have hcap := rd_cap h
  have hlen : (vl (zz u)).length + r.length = bs.length := by rw [hn.2]; simp
  have hdrop : bs.drop (vl (zz u)).length = r := (congrArg (List.drop (vl (zz u)).length) hn.2).trans List.drop_left
  have HTK := Lib.hid htk; clear htk
  have HH := Lib.hid h; clear h
  generalize (vl (zz u)).length = M at *
  generalize hL : bs.length = L at *
  have HL := Lib.hid hL; clear hL
  have HD := Lib.hid hdrop; clear hdrop
  have hML : M ≤ L := by omega
  have HLEN := Lib.hid hlen; clear hlen
  obtain ⟨h0, h1, h2⟩ := hm
  clear hb hn
  go_enter Tryz.func105, Tryz.ntmps105
  go_wp2_with (go_at_call 150; refine (HTK.out _ (HH.out.keep ((Frm.alloc Nowhere w _).trans (Frm.alloc Nowhere _ _) fun _ _ h => h) fun _ _ h => h)).mono ?_)
  rintro e w1 ⟨rfl, hfm⟩
  have hz := hfm.size
  have hc := fun o => hfm.cell (p := ⟨w.heap.size + 1, o, none⟩) (by simp) (fun h => h)
  have hc' := fun o => hfm.cell (p := ⟨w.heap.size, o, none⟩) (by simp; omega) (fun h => h)
  have hq := fun o => hfm.frozen (p := ⟨w.heap.size + 1, o, none⟩) (by simp) (fun h => h)
  have HFM := Lib.hid hfm; clear hfm
  by_cases hcap2 : c = M
  · subst hcap2
    go_wp2_with fail
    go_region
    go_wp2
    refine bodyPost_ret (v := .tuple #[.int .i64 u, .agg #[.slice a 0 0, .bool false]]) (by simp [results, Tryz.results105, go_sem, hc]) rfl ⟨_, rfl, ?_, own_any a 0 0 L c, (frm_two HFM.out _ _).trans (Frm.drew Nowhere _) fun _ _ h => h⟩
    have : r = [] := List.eq_nil_of_length_eq_zero (by have := HLEN.out; omega)
    subst this
    exact .inl ⟨a, rfl, rfl, rfl⟩
  · go_wp2_with fail
    go_region
    go_wp2
    refine bodyPost_ret (v := .tuple #[.int .i64 u, .agg #[.slice (Option.map (fun x => x.add M) a) (L - M) (c - M), .bool false]]) (by simp [results, Tryz.results105, go_sem, hc]) rfl ⟨_, rfl, ?_, own_map a M _ _ L c, (frm_two HFM.out _ _).trans (Frm.drew Nowhere _) fun _ _ h => h⟩
    have hd := HH.out.drop HL.out M hML
    rw [HD.out] at hd
    exact hd.keep ((frm_two HFM.out _ _).trans (Frm.drew Nowhere _) fun _ _ h => h) fun _ _ h => h
/-- Num of whatever state. -/
theorem rinum_any (m : Int) (v : Value) (bad : Bool) (st : Option (List UInt8)) (w : World) (h : RSt w v bad st) (hm2 : m ≤ 9223372036854775807) (hm3 : -9223372036854775808 ≤ m) :
    Calls Tryz.prog 105 #[.agg #[v, .bool bad], .int .i64 m] w fun e w' => ∃ n v' bad' st', e = .returned (.tuple #[.int .i64 n, .agg #[v', .bool bad']]) ∧ NumStep st m n st' ∧ RSt w' v' bad' st' ∧ SubV v' v ∧ Frm Nowhere w w' := by
  cases st with
  | none =>
    obtain ⟨rfl, rfl⟩ := h
    exact (rinum_bad m w).mono fun e w' ⟨he, hf⟩ => ⟨0, _, true, none, he, ⟨rfl, rfl⟩, ⟨rfl, rfl⟩, SubV.nil _, hf⟩
  | some bs =>
    obtain ⟨rfl, hr⟩ := h
    by_cases hb : ∃ u r, Begins bs u r
    · obtain ⟨u, r, hb⟩ := hb
      by_cases hm : 0 ≤ m ∧ u ≤ m ∧ -m ≤ u
      · exact (rinum_yes m v bs r u w hr hb hm hm2).mono fun e w' ⟨v', he, h1, h2, h3⟩ => ⟨u, v', false, some r, he, .inl ⟨r, hb, hm.1, hm.2.1, hm.2.2, rfl⟩, ⟨rfl, h1⟩, fun k hk => h2 ▸ hk, h3⟩
      · exact (rinum_out m v bs r u w hr hb (by omega) hm2 hm3).mono fun e w' ⟨he, hf⟩ => ⟨0, _, true, none, he, .inr ⟨fun u' r' hb' => by
          obtain ⟨e1, _⟩ := hb.unique hb'
          omega, rfl, rfl⟩, ⟨rfl, rfl⟩, SubV.nil _, hf⟩
    · exact (rinum_no m v bs w hr fun u r h => hb ⟨u, r, h⟩).mono fun e w' ⟨he, hf⟩ => ⟨0, _, true, none, he, .inr ⟨fun u r h => (hb ⟨u, r, h⟩).elim, rfl, rfl⟩, ⟨rfl, rfl⟩, SubV.nil _, hf⟩
end Go.Proofs.YtggfoihfenlckaaGreat
/- tributaryref02.In.Text. -/
namespace Go.Proofs.YtggfoihfenlckaaGreat
open Go.RowKit
theorem Rd.keepIf {w w' : World} {v : Value} {n : Nat} {xs : List Value} (h : Rd w v n xs) {S : Nat → Prop} (f : Frm S w w') (hn : xs ≠ [] → ∀ k, v.ownBlock = some k → ¬ S k) : Rd w' v n xs := by
  rcases h with h | ⟨b, off, c, rfl, h1, h2, h3⟩
  · exact .inl h
  · refine .inr ⟨b, off, c, rfl, h1, h2, fun j u hu => f.cell' (h3 j u hu) (hn (fun e => ?_) b rfl)⟩
    subst e
    simp at hu
theorem Rd.lt {w : World} {v : Value} {n : Nat} {xs : List Value} (h : Rd w v n xs) (hne : xs ≠ []) : ∀ k, v.ownBlock = some k → k < w.heap.size := fun k hk => by
  rcases h with ⟨ad, _, _, h3⟩ | ⟨b, off, c, rfl, _, _, h3⟩
  · exact absurd h3 hne
  · simp [Value.ownBlock] at hk
    subst hk
    obtain ⟨x, l, rfl⟩ := List.exists_cons_of_ne_nil hne
    exact World.block_lt_of_cell? _ _ (h3 0 x rfl)
theorem rst_lt {w : World} {v : Value} {bad : Bool} {st : Option (List UInt8)} {m n : Int} {r : List UInt8} (h : RSt w v bad st) (hs : NumStep st m n (some r)) : ∀ k, v.ownBlock = some k → k < w.heap.size := by
  cases st with
  | none => cases hs.2
  | some bs =>
    refine h.2.lt fun e => ?_
    rcases hs with ⟨r', hb, _⟩ | ⟨_, _, h3⟩
    · have h1 := congrArg List.length hb.2
      have h2 := numB_pos n
      have h3 : bs = [] := by simpa [bV] using e
      subst h3
      simp only [List.length_nil, List.length_append] at h1
      omega
    · cases h3
set_option maxHeartbeats 800000 in
set_option maxRecDepth 1000000 in
theorem ritext_any (m : Int) (v : Value) (bad : Bool) (st : Option (List UInt8)) (w : World) (h : RSt w v bad st) (hm2 : m ≤ 9223372036854775807) (hm3 : -9223372036854775808 ≤ m) :
    Calls Tryz.prog 121 #[.agg #[v, .bool bad], .int .i64 m] w fun e w' => ∃ s v' bad' st', e = .returned (.tuple #[.string s, .agg #[v', .bool bad']]) ∧ TextStep st m s st' ∧ RSt w' v' bad' st' ∧ SubV v' v ∧ Frm Nowhere w w' := by
  have hcall := fun W h => rinum_any m v bad st W h hm2 hm3
  have HCALL := Lib.hid hcall; clear hcall
  have HH := Lib.hid h; clear h
  go_enter Tryz.func121, Tryz.ntmps121
  go_wp2_with fail
  refine (HCALL.out _ (HH.out.keep ((Frm.alloc Nowhere w _).trans (Frm.alloc Nowhere _ _) fun _ _ h => h) fun _ _ h => h)).mono ?_
  rintro e w1 ⟨n, v1, bad1, st1, rfl, hs1, hr1, ho1, hf1⟩
  have hz := hf1.size
  have hc := fun o => hf1.cell (p := ⟨w.heap.size + 1, o, none⟩) (by simp) (fun h => h)
  have hc' := fun o => hf1.cell (p := ⟨w.heap.size, o, none⟩) (by simp; omega) (fun h => h)
  have hq := fun o => hf1.frozen (p := ⟨w.heap.size + 1, o, none⟩) (by simp) (fun h => h)
  have hz1 : w.heap.size + 1 < w1.heap.size := by simp at hz; omega
  clear hz
  have HS := Lib.hid hs1; clear hs1
  have HO := Lib.hid ho1; clear ho1
  have HF := Lib.hid hf1; clear hf1
  cases st1 with
  | none =>
    obtain ⟨rfl, rfl⟩ := hr1
    go_wp2
    exact bodyPost_ret (v := .tuple #[.string ⟨#[]⟩, .agg #[.slice none 0 0, .bool true]]) (by simp [results, Tryz.results121, go_sem, hc, hz1]) rfl ⟨_, _, _, none, rfl, ⟨n, none, HS.out, rfl, rfl⟩, ⟨rfl, rfl⟩, SubV.nil _, (frm_two HF.out _ _).trans (Frm.alloc Nowhere _ _) fun _ _ h => h⟩
  | some bs =>
    obtain ⟨rfl, hrd⟩ := hr1
    obtain ⟨a, c, rfl⟩ := rd_shape hrd
    have hcap := rd_cap hrd
    have HR := Lib.hid hrd; clear hrd
    by_cases hn : 0 ≤ n ∧ n ≤ bs.length
    · obtain ⟨k, rfl⟩ := Int.eq_ofNat_of_zero_le hn.1
      have hk : k ≤ bs.length := by omega
      have cvp := HR.out.pre k hk
      have CVP := Lib.hid cvp; clear cvp
      have cv := fun (W : World) (f : Frm Nowhere w1 W) => conv_str (CVP.out.keep f fun _ _ h => h)
      have CV := Lib.hid cv; clear cv
      have cv0 := CV.out ((w1.alloc (.cells #[.slice a bs.length c, .bool false] 51)).drew) ((Frm.alloc Nowhere w1 _).trans (Frm.drew Nowhere _) fun _ _ h => h)
      have hstep : TextStep st m ⟨(bs.take k).toArray⟩ (some (bs.drop k)) := ⟨k, some bs, HS.out, .inl ⟨by omega, by omega, by simp, by simp⟩⟩
      have ST := Lib.hid hstep; clear hstep
      generalize hL : bs.length = L at *
      have HL := Lib.hid hL; clear hL
      clear hn
      by_cases hcap2 : c = k
      · subst hcap2
        go_wp2_with fail
        go_region
        go_wp2
        have hlc : L = c := by omega
        have hd : bs.drop c = [] := by rw [← hlc, ← HL.out]; exact List.drop_length
        have st := ST.out
        rw [hd] at st
        refine bodyPost_ret (v := .tuple #[.string ⟨(bs.take c).toArray⟩, .agg #[.slice a 0 0, .bool false]]) (by simp [results, Tryz.results121, go_sem, hc, hz1]) rfl ⟨_, _, _, some [], rfl, st, ⟨rfl, .inl ⟨a, rfl, rfl, rfl⟩⟩, fun i hi => HO.out i ((own_any a 0 0 L c) ▸ hi), ?_⟩
        exact ((frm_two HF.out _ _).trans (Frm.alloc Nowhere _ _) fun _ _ h => h).trans (Frm.drew Nowhere _) fun _ _ h => h
      · go_wp2_with fail
        go_region
        go_wp2
        refine bodyPost_ret (v := .tuple #[.string ⟨(bs.take k).toArray⟩, .agg #[.slice (Option.map (fun x => x.add k) a) (L - k) (c - k), .bool false]]) (by simp [results, Tryz.results121, go_sem, hc, hz1]) rfl ⟨_, _, _, some (bs.drop k), rfl, ST.out, ⟨rfl, ?_⟩, ?_, ?_⟩
        · have hd := HR.out.drop HL.out k hk
          have hfr : Frm (Only (w.heap.size + 1)) w1 (((((w1.setCell ⟨w.heap.size + 1, 0, none⟩ (.slice (Option.map (fun x => x.add k) a) (L - k) (c - k))).setCell ⟨w.heap.size + 1, 1, none⟩ (.bool false)).alloc (.cells #[.slice a L c, .bool false] 51)).drew)) :=
            (((only_set w1 _ 0 _).trans (only_set _ _ 1 _) fun _ _ h => h).trans (Frm.alloc _ _ _) fun _ _ h => h).trans (Frm.drew (Only (w.heap.size + 1)) _) fun _ _ h => h
          refine hd.keepIf hfr fun _ i hi hs => ?_
          have h1 := HO.out i ((own_map a k _ _ L c) ▸ hi)
          have h2 := rst_lt HH.out HS.out i h1
          have h3 : i = w.heap.size + 1 := hs
          omega
        · exact fun i hi => HO.out i ((own_map a k _ _ L c) ▸ hi)
        · exact ((frm_two HF.out _ _).trans (Frm.alloc Nowhere _ _) fun _ _ h => h).trans (Frm.drew Nowhere _) fun _ _ h => h
    · have hn' : n < 0 ∨ (bs.length : Int) < n := by omega
      rcases hn' with h0 | h0
      all_goals
        clear hn
        go_wp2
        exact bodyPost_ret (v := .tuple #[.string ⟨#[]⟩, .agg #[.slice none 0 0, .bool true]]) (by simp [results, Tryz.results121, go_sem, hc, hz1]) rfl ⟨_, _, _, none, rfl, ⟨n, some bs, HS.out, .inr ⟨by omega, rfl, rfl⟩⟩, ⟨rfl, rfl⟩, SubV.nil _, (frm_two HF.out _ _).trans (Frm.alloc Nowhere _ _) fun _ _ h => h⟩
end Go.Proofs.YtggfoihfenlckaaGreat
/- What is kept of a state. -/
namespace Go.Proofs.YtggfoihfenlckaaGreat
open Go.RowKit
theorem RSt.isNone {w : World} {v : Value} {bad : Bool} {st : Option (List UInt8)} (h : RSt w v bad st) : bad = st.isNone := by
  cases st with
  | none => exact h.2
  | some bs => exact h.1
theorem RSt.shape {w : World} {v : Value} {bad : Bool} {st : Option (List UInt8)} (h : RSt w v bad st) : ∃ a c, v = .slice a (leftOf st).length c := by
  cases st with
  | none => exact ⟨none, 0, h.1⟩
  | some bs => exact rd_shape h.2
theorem InSt.keep {w w' : World} {ib : Nat} {st : Option (List UInt8)} (h : InSt w ib st) {S : Nat → Prop} (f : Frm S w w') (h1 : ∀ k, k ≤ ib → ¬ S k) : InSt w' ib st := by
  cases st with
  | none => exact f.blk (show w.heap[ib]? = _ from h) (h1 ib (Nat.le_refl _))
  | some bs =>
    obtain ⟨v, hv, hlt⟩ := h
    exact ⟨v, hv.keep f (h1 ib (Nat.le_refl _)) fun k hk => h1 k (Nat.le_of_lt (hlt k hk)), hlt⟩
theorem InSt.lt {w : World} {ib : Nat} {st : Option (List UInt8)} (h : InSt w ib st) : ib < w.heap.size := by
  obtain ⟨a, c, hh⟩ := h.heap
  exact lt_of_block hh
theorem two_set (w : World) (b : Nat) (u u' : Value) : Frm (Only b) w ((w.setCell ⟨b, 0, none⟩ u).setCell ⟨b, 1, none⟩ u') := (only_set w b 0 u).trans (only_set _ b 1 u') fun _ _ h => h
/-- The loop's relation: both have taken the same. -/
def Old (w : World) (v : Value) (st : Option (List UInt8)) : Prop := leftOf st ≠ [] → ∀ k, v.ownBlock = some k → k < w.heap.size
theorem numStep_ne {st stx : Option (List UInt8)} {m n : Int} (h : NumStep st m n stx) (hx : stx ≠ none) : leftOf st ≠ [] := by
  cases st with
  | none => exact absurd h.2 hx
  | some bs =>
    rcases h with ⟨r, hb, _⟩ | ⟨_, _, h3⟩
    · intro e
      have h1 := congrArg List.length hb.2
      have h2 := numB_pos n
      have h3 : bs = [] := e
      subst h3
      simp only [List.length_nil, List.length_append] at h1
      omega
    · exact absurd h3 hx
theorem Old.stepN {w : World} {v vx : Value} {st stx : Option (List UInt8)} {m n : Int} (h : Old w v st) (hs : NumStep st m n stx) (hu : SubV vx v) : Old w vx stx := fun hne k hk =>
  h (numStep_ne hs fun e => by subst e; exact hne rfl) k (hu k hk)
theorem Old.stepT {w : World} {v vx : Value} {st stx : Option (List UInt8)} {m : Int} {s : ByteArray} (h : Old w v st) (hs : TextStep st m s stx) (hu : SubV vx v) : Old w vx stx := fun hne k hk => by
  obtain ⟨n, st1, h1, h2⟩ := hs
  cases st1 with
  | none => rw [h2.2] at hne; exact absurd rfl hne
  | some bs => exact h (numStep_ne h1 (by simp)) k (hu k hk)
theorem rst_keepO {w wx w' : World} {vx : Value} {badx : Bool} {stx : Option (List UInt8)} (ho : Old w vx stx) (hx : RSt wx vx badx stx) {S : Nat → Prop} (f : Frm S wx w') (hS : ∀ k, k < w.heap.size → ¬ S k) : RSt w' vx badx stx := by
  cases stx with
  | none => exact hx
  | some r => exact ⟨hx.1, hx.2.keepIf f fun hne k hk => hS k (ho (fun e => hne (by simp [leftOf] at e; subst e; rfl)) k hk)⟩
end Go.Proofs.YtggfoihfenlckaaGreat
/- tributaryref16: bad, Many: the walks; a reference's In that is kept. -/
namespace Go.Proofs.YtggfoihfenlckaaGreat
open Go.RowKit
/-- A reference's In: where its bytes lie, if it has any, is ahead of w0. -/
structure RIn (w0 w : World) (v : Value) (st : Option (List UInt8)) : Prop where
  rst : RSt w v st.isNone st
  old : Old w0 v st
section
variable {w0 w w' : World} {v : Value} {st : Option (List UInt8)}
theorem RIn.keep (h : RIn w0 w v st) {S : Nat → Prop} (f : Frm S w w') (hS : ∀ k, k < w0.heap.size → ¬ S k) : RIn w0 w' v st := ⟨rst_keepO h.old h.rst f hS, h.old⟩
theorem RIn.keep0 (h : RIn w0 w v st) (f : Frm NoS w w') : RIn w0 w' v st := h.keep f fun _ _ => id
theorem RIn.shape (h : RIn w0 w v st) : ∃ a c, v = .slice a (leftOf st).length c := h.rst.shape
theorem RIn.bad (w0 w : World) : RIn w0 w (.slice none 0 0) none := ⟨⟨rfl, rfl⟩, fun h => absurd rfl h⟩
/-- What a step of the reference hands out: what was read, and what is left. -/
def RPost (w0 w : World) (u : Value) (st' : Option (List UInt8)) (e : Ending) (w' : World) : Prop :=
  ∃ a c, e = .returned (.tuple #[u, .agg #[.slice a (leftOf st').length c, .bool st'.isNone]]) ∧ RIn w0 w' (.slice a (leftOf st').length c) st' ∧ Frm NoS w w'
theorem rnum_at {st' : Option (List UInt8)} {m n : Int} (h : RIn w0 w v st) (hs : NumStep st m n st') (hm2 : m ≤ 9223372036854775807) (hm3 : -9223372036854775808 ≤ m) :
    Calls Tryz.prog 105 #[.agg #[v, .bool st.isNone], .int .i64 m] w (RPost w0 w (.int .i64 n) st') :=
  (rinum_any m v st.isNone st w h.rst hm2 hm3).mono fun e w' ⟨n', v', bad', st2, he, hs2, hr, hu, hf⟩ => by
    obtain ⟨rfl, rfl⟩ := hs.det hs2
    obtain ⟨a, c, rfl⟩ := hr.shape
    obtain rfl := hr.isNone
    exact ⟨a, c, he, ⟨hr, h.old.stepN hs2 hu⟩, hf⟩
theorem rtext_at {st' : Option (List UInt8)} {m : Int} {s : ByteArray} (h : RIn w0 w v st) (hs : TextStep st m s st') (hm2 : m ≤ 9223372036854775807) (hm3 : -9223372036854775808 ≤ m) :
    Calls Tryz.prog 121 #[.agg #[v, .bool st.isNone], .int .i64 m] w (RPost w0 w (.string s) st') :=
  (ritext_any m v st.isNone st w h.rst hm2 hm3).mono fun e w' ⟨n', v', bad', st2, he, hs2, hr, hu, hf⟩ => by
    obtain ⟨rfl, rfl⟩ := hs.det hs2
    obtain ⟨a, c, rfl⟩ := hr.shape
    obtain rfl := hr.isNone
    exact ⟨a, c, he, ⟨hr, h.old.stepT hs2 hu⟩, hf⟩
end
set_option maxHeartbeats 1000000 in
set_option maxRecDepth 1000000 in
theorem rbad_any (w : World) : Calls Tryz.prog 119 #[] w fun e w' => e = .returned (.agg #[.slice none 0 0, .bool true]) ∧ Frm NoS w w' := by
  go_enter Tryz.func119, Tryz.ntmps119
  go_wp2
  have hb := heap_alloc_new w (.cells #[.slice none 0 0, .bool true] 51)
  have y0 := cell_at' hb 0 rfl
  have y1 := cell_at' hb 1 rfl
  exact bodyPost_ret (v := .agg #[.slice none 0 0, .bool true]) (by simp [results, Tryz.results119, go_sem, y0, y1]) rfl ⟨rfl, Frm.alloc NoS w _⟩
/-- The box of the state, the result's block behind it: what of them stands in a world behind it. -/
structure Box2 (w ww : World) (a b : Value) (R : Array Value) (T : TypeId) : Prop where
  box : ww.heap[w.heap.size]? = some (.cells #[a, b] 51 (0, 0))
  res : ww.heap[w.heap.size + 1]? = some (.cells R T (0, 0))
  frm : Frm NoS w ww
section
variable {w ww w' : World} {a b : Value} {R : Array Value} {T : TypeId}
theorem Box2.start (w : World) (a b : Value) (R : Array Value) (T : TypeId) : Box2 w ((w.alloc (.cells #[a, b] 51)).alloc (.cells R T)) a b R T := by
  obtain ⟨h1, h2, _⟩ := two_blocks w (.cells #[a, b] 51) R T
  refine ⟨?_, h1, h2⟩
  rw [Below.heap_alloc _ _ _ (by simp)]
  exact heap_alloc_new w _
theorem Box2.keep (h : Box2 w ww a b R T) (f : Frm NoS ww w') : Box2 w w' a b R T := ⟨f.blk h.box id, f.blk h.res id, h.frm.then1 f⟩
theorem Box2.put (h : Box2 w ww a b R T) (a' b' : Value) : Box2 w ((ww.setCell ⟨w.heap.size, 0, none⟩ a').setCell ⟨w.heap.size, 1, none⟩ b') a' b' R T := by
  obtain ⟨h1, h2, h3⟩ := res2 h.box h.frm (Nat.le_refl _) a' b'
  exact ⟨h1, (h3 _ (by omega)).trans h.res, h2⟩
theorem Box2.facts (h : Box2 w ww a b R T) : ww.cell? ⟨w.heap.size, 0, none⟩ = some a ∧ ww.cell? ⟨w.heap.size, 1, none⟩ = some b ∧ ww.frozen? ⟨w.heap.size, 0, none⟩ = false ∧ ww.frozen? ⟨w.heap.size, 1, none⟩ = false ∧ w.heap.size < ww.heap.size :=
  ⟨cell_at' h.box 0 rfl, cell_at' h.box 1 rfl, free_at' h.box 0, free_at' h.box 1, lt_of_block h.box⟩
end
set_option maxHeartbeats 4000000 in
set_option maxRecDepth 1000000 in
theorem many_at {w0 : World} {v : Value} {st st' : Option (List UInt8)} {n : Nat} (w : World) (h : RIn w0 w v st) (h0 : w0.heap.size ≤ w.heap.size) (hs : CntStep st 9223372036854775807 n st') :
    Calls Tryz.prog 118 #[.agg #[v, .bool st.isNone]] w (RPost w0 w (.int .i64 n) st') := by
  obtain ⟨x, s1, h1, h2⟩ := hs
  have hxr := num_in h1
  obtain ⟨a0, c0, rfl⟩ := h.shape
  have HB0 := Lib.hid (Box2.start w (.slice a0 (leftOf st).length c0) (.bool st.isNone) #[.slice none 0 0, .bool false] 51)
  have HN := Lib.hid (fun W (f : Frm NoS w W) => rnum_at (h.keep0 f) h1 (by omega) (by omega))
  unfold RPost at HN
  clear h h1
  generalize st.isNone = bd at *
  generalize (leftOf st).length = L at *
  have bads : n = 0 → st' = none → (s1.isNone = true ∨ x < 0 ∨ ((leftOf s1).length : Int) < x) → Calls Tryz.prog 118 #[.agg #[.slice a0 L c0, .bool bd]] w (RPost w0 w (.int .i64 n) st') := by
    rintro rfl rfl hbad
    clear h2
    have HH0 := Lib.hid h0; clear h0
    generalize (leftOf s1).length = L1 at *
    generalize s1.isNone = b1 at *
    have fin : ∀ w', Frm NoS w w' → RPost w0 w (.int .i64 ((0 : Nat) : Int)) none (.returned (.tuple #[.int .i64 0, .agg #[.slice none 0 0, .bool true]])) w' := fun w' f => ⟨none, 0, rfl, RIn.bad w0 w', f⟩
    have FIN := Lib.hid fin; clear fin
    cases b1 with
    | true =>
      clear hbad
      go_enter Tryz.func118, Tryz.ntmps118
      go_wp2_with (first
        | (go_at_call 105; refine (HN.out _ HB0.out.frm).mono ?_; rintro e w1 ⟨a1, c1, rfl, hr1, hf1⟩; have HB1 := Lib.hid ((HB0.out.keep hf1).put (.slice a1 L1 c1) (.bool true)); obtain ⟨y0, y1, y2, y3, y4⟩ := (HB0.out.keep hf1).facts; clear hr1 hf1)
        | (go_at_call 119; go_loud (refine (rbad_any _).mono ?_); rintro e w2 ⟨rfl, hf2⟩; clear y0 y1 y2 y3 y4; have HB2 := Lib.hid (HB1.out.keep hf2); have z0 := free_at' HB2.out.res 0; have z1 := free_at' HB2.out.res 1; have z2 := lt_of_block HB2.out.res; have z3 := cell_at' HB2.out.res 0 rfl; have z4 := cell_at' HB2.out.res 1 rfl; clear hf2))
      clear z0 z1 z2 z3 z4
      have hr := res2 HB2.out.res HB2.out.frm (Nat.le_succ _) (.slice none 0 0) (.bool true)
      have y0 := cell_at' hr.1 0 rfl
      have y1 := cell_at' hr.1 1 rfl
      exact bodyPost_ret (v := .tuple #[.int .i64 0, .agg #[.slice none 0 0, .bool true]]) (by simp [results, Tryz.results118, go_sem, y0, y1]) rfl (FIN.out _ hr.2.1)
    | false =>
      by_cases hx : x < 0
      · clear hbad
        go_enter Tryz.func118, Tryz.ntmps118
        go_wp2_with (first
          | (go_at_call 105; refine (HN.out _ HB0.out.frm).mono ?_; rintro e w1 ⟨a1, c1, rfl, hr1, hf1⟩; have HB1 := Lib.hid ((HB0.out.keep hf1).put (.slice a1 L1 c1) (.bool false)); obtain ⟨y0, y1, y2, y3, y4⟩ := (HB0.out.keep hf1).facts; clear hr1 hf1)
          | (go_at_call 119; go_loud (refine (rbad_any _).mono ?_); rintro e w2 ⟨rfl, hf2⟩; clear y0 y1 y2 y3 y4; have HB2 := Lib.hid (HB1.out.keep hf2); have z0 := free_at' HB2.out.res 0; have z1 := free_at' HB2.out.res 1; have z2 := lt_of_block HB2.out.res; have z3 := cell_at' HB2.out.res 0 rfl; have z4 := cell_at' HB2.out.res 1 rfl; clear hf2))
        clear z0 z1 z2 z3 z4
        have hr := res2 HB2.out.res HB2.out.frm (Nat.le_succ _) (.slice none 0 0) (.bool true)
        have y0 := cell_at' hr.1 0 rfl
        have y1 := cell_at' hr.1 1 rfl
        exact bodyPost_ret (v := .tuple #[.int .i64 0, .agg #[.slice none 0 0, .bool true]]) (by simp [results, Tryz.results118, go_sem, y0, y1]) rfl (FIN.out _ hr.2.1)
      · have hlx : (L1 : Int) < x := by
          rcases hbad with h | h | h
          · cases h
          · exact absurd h hx
          · exact h
        clear hbad
        go_enter Tryz.func118, Tryz.ntmps118
        go_wp2_with (first
          | (go_at_call 105; refine (HN.out _ HB0.out.frm).mono ?_; rintro e w1 ⟨a1, c1, rfl, hr1, hf1⟩; have HB1 := Lib.hid ((HB0.out.keep hf1).put (.slice a1 L1 c1) (.bool false)); obtain ⟨y0, y1, y2, y3, y4⟩ := (HB0.out.keep hf1).facts; clear hr1 hf1)
          | (go_at_call 119; go_loud (refine (rbad_any _).mono ?_); rintro e w2 ⟨rfl, hf2⟩; clear y0 y1 y2 y3 y4; have HB2 := Lib.hid (HB1.out.keep hf2); have z0 := free_at' HB2.out.res 0; have z1 := free_at' HB2.out.res 1; have z2 := lt_of_block HB2.out.res; have z3 := cell_at' HB2.out.res 0 rfl; have z4 := cell_at' HB2.out.res 1 rfl; clear hf2))
        clear z0 z1 z2 z3 z4
        have hr := res2 HB2.out.res HB2.out.frm (Nat.le_succ _) (.slice none 0 0) (.bool true)
        have y0 := cell_at' hr.1 0 rfl
        have y1 := cell_at' hr.1 1 rfl
        exact bodyPost_ret (v := .tuple #[.int .i64 0, .agg #[.slice none 0 0, .bool true]]) (by simp [results, Tryz.results118, go_sem, y0, y1]) rfl (FIN.out _ hr.2.1)
  cases s1 with
  | none => exact bads h2.1 h2.2 (.inl rfl)
  | some r =>
    rcases h2 with ⟨hx0, hxl, rfl, rfl⟩ | ⟨hb, h3, h4⟩
    · clear bads
      obtain ⟨n, rfl⟩ := Int.eq_ofNat_of_zero_le hx0
      have HH0 := Lib.hid h0; clear h0
      have FIN := Lib.hid (fun a c w' (hr : RIn w0 w' (.slice a r.length c) (some r)) (f : Frm NoS w w') => (⟨a, c, rfl, hr, f⟩ : RPost w0 w (.int .i64 ((n : Int).toNat : Int)) (some r) (.returned (.tuple #[.int .i64 n, .agg #[.slice a r.length c, .bool false]])) w'))
      have hsh : (leftOf (some r)).length = r.length := rfl
      simp only [leftOf, Option.isNone] at HN
      generalize hR : r.length = R1 at *
      have HR := Lib.hid hR; clear hR hsh
      go_enter Tryz.func118, Tryz.ntmps118
      go_wp2_with (go_at_call 105; refine (HN.out _ HB0.out.frm).mono ?_; rintro e w1 ⟨a1, c1, rfl, hr1, hf1⟩; have HB1 := Lib.hid ((HB0.out.keep hf1).put (.slice a1 R1 c1) (.bool false)); obtain ⟨y0, y1, y2, y3, y4⟩ := (HB0.out.keep hf1).facts; have HR1 := Lib.hid hr1; clear hr1 hf1)
      clear y0 y1 y2 y3 y4
      have hts := two_set w1 w.heap.size (.slice a1 R1 c1) (.bool false)
      generalize (w1.setCell ⟨w.heap.size, 0, none⟩ (.slice a1 R1 c1)).setCell ⟨w.heap.size, 1, none⟩ (.bool false) = W1 at *
      have HRI := Lib.hid (HR1.out.keep hts fun k hk hs => by have hs : k = w.heap.size := hs; have := HH0.out; omega); clear hts
      obtain ⟨y0, y1, y2, y3, y4⟩ := HB1.out.facts
      have z0 := free_at' HB1.out.res 0
      have z1 := free_at' HB1.out.res 1
      have z2 := lt_of_block HB1.out.res
      have z3 := cell_at' HB1.out.res 0 rfl
      have z4 := cell_at' HB1.out.res 1 rfl
      go_region
      all_goals
        clear y0 y1 y2 y3 y4 z0 z1 z2 z3 z4
        have hr := res2 HB1.out.res HB1.out.frm (Nat.le_succ _) (.slice a1 R1 c1) (.bool false)
        have hts := two_set W1 (w.heap.size + 1) (.slice a1 R1 c1) (.bool false)
        have y0 := cell_at' hr.1 0 rfl
        have y1 := cell_at' hr.1 1 rfl
        go_wp2
        exact bodyPost_ret (v := .tuple #[.int .i64 n, .agg #[.slice a1 R1 c1, .bool false]]) (by simp [results, Tryz.results118, go_sem, y0, y1]) rfl (FIN.out _ _ _ ((HRI.out.keep hts fun k hk hs => by have hs : k = w.heap.size + 1 := hs; have := HH0.out; omega).keep0 (Frm.drew NoS _)) (hr.2.1.then1 (Frm.drew NoS _)))
    · exact bads h3 h4 (.inr hb)
end Go.Proofs.YtggfoihfenlckaaGreat
/- An Out, a copy that are kept. -/
namespace Go.Proofs.YtggfoihfenlckaaGreat
open Go.RowKit
theorem own_lt {w : World} {e : TypeId} {size : Nat} {v : Value} {n : Nat} {xs : List Value} (h : w.ownsRow 0 e size v n xs) : ∀ k, v.ownBlock = some k → k < w.heap.size := fun k hk => (h.lt k hk).2
theorem NewV.fresh {w wi : World} {v v' : Value} (h : NewV w v) (hs : w.heap.size ≤ wi.heap.size) (f : Fresh wi v v') : NewV w v' := fun k hk => by
  rcases f k hk with h1 | h1
  · exact h k h1
  · omega
theorem OutAt.keep {w w' : World} {ob : Nat} {v : Value} {bs : List UInt8} (h : OutAt w ob v bs) {S : Nat → Prop} (f : Frm S w w') (h1 : ¬ S ob) (h2 : ∀ k, v.ownBlock = some k → ¬ S k) : OutAt w' ob v bs :=
  ⟨f.blk h.cell h1, f.owns h.own h2, h.apart⟩
end Go.Proofs.YtggfoihfenlckaaGreat
/- pack: count, GetCtx: the walks. -/
namespace Go.Proofs.YtggfoihfenlckaaGreat
open Go.RowKit
set_option maxHeartbeats 1000000 in
set_option maxRecDepth 1000000 in
theorem pcount_any (ib : Nat) (st : Option (List UInt8)) (w : World) (h : InSt w ib st) :
    Calls Tryz.prog 76 #[.pointer (some ⟨ib, 0, none⟩)] w fun e w' => ∃ (n : Nat) (st' : Option (List UInt8)), e = .returned (.int .i64 n) ∧ CntStep st 60000 n st' ∧ InSt w' ib st' ∧ Frm (Only ib) w w' := by
  obtain ⟨v, s1, hs⟩ := NumStep.total st 60000
  have hvr := num_in hs
  have HN := Lib.hid (inum_at ib st 60000 v s1 w h hs (by omega) (by omega))
  clear h
  have HS := Lib.hid hs; clear hs
  obtain ⟨L, hL⟩ : ∃ L, L = (leftOf s1).length := ⟨_, rfl⟩
  by_cases c1 : v < 0
  · have hpost : ∀ w', InSt w' ib none → CntStep st 60000 0 none := fun w' _ => ⟨v, s1, HS.out, by
      cases s1 with
      | none => exact ⟨rfl, rfl⟩
      | some r => exact .inr ⟨.inl c1, rfl, rfl⟩⟩
    have HPOST := Lib.hid hpost; clear hpost
    go_enter Tryz.func76, Tryz.ntmps76
    go_wp2_with (first
      | (go_at_call 77; refine HN.out.mono ?_; rintro e w1 ⟨rfl, hi, hf⟩; have HI := Lib.hid hi; clear hi; have HF := Lib.hid hf; clear hf)
      | (go_at_call 79; obtain ⟨a, c, hh⟩ := HI.out.heap; refine (fail_go ib _ _ w1 hh).mono ?_; rintro e w2 ⟨rfl, hi2, hf2⟩; have HI2 := Lib.hid hi2; clear hi2 hh; have HF2 := Lib.hid hf2; clear hf2))
    go_ret
    exact ⟨0, none, rfl, HPOST.out w2 HI2.out, HI2.out, HF.out.trans HF2.out fun _ _ h => h⟩
  · by_cases c2 : (L : Int) < v
    · have hpost : ∀ w', InSt w' ib none → CntStep st 60000 0 none := fun w' _ => ⟨v, s1, HS.out, by
        cases s1 with
        | none => exact ⟨rfl, rfl⟩
        | some r => exact .inr ⟨.inr (by rw [hL] at c2; exact c2), rfl, rfl⟩⟩
      have HPOST := Lib.hid hpost; clear hpost
      have HL := Lib.hid hL; clear hL
      go_enter Tryz.func76, Tryz.ntmps76
      go_wp2_with (first
        | (go_at_call 77; refine HN.out.mono ?_; rintro e w1 ⟨rfl, hi, hf⟩; have HI := Lib.hid hi; clear hi; have HF := Lib.hid hf; clear hf)
        | (go_at_call 18; refine (left_go ib s1 w1 HI.out).mono ?_; rintro e w2 ⟨rfl, rfl⟩; rw [← HL.out])
        | (go_at_call 79; obtain ⟨a, c, hh⟩ := HI.out.heap; refine (fail_go ib _ _ w1 hh).mono ?_; rintro e w2 ⟨rfl, hi2, hf2⟩; have HI2 := Lib.hid hi2; clear hi2 hh; have HF2 := Lib.hid hf2; clear hf2))
      go_ret
      exact ⟨0, none, rfl, HPOST.out w2 HI2.out, HI2.out, HF.out.trans HF2.out fun _ _ h => h⟩
    · obtain ⟨n, rfl⟩ := Int.eq_ofNat_of_zero_le (show 0 ≤ v by omega)
      have hpost : ∃ st', CntStep st 60000 n st' ∧ st' = s1 := ⟨s1, ⟨n, s1, HS.out, by
        cases s1 with
        | none => exact ⟨by rw [hL] at c2; simp [leftOf] at c2; omega, rfl⟩
        | some r => exact .inl ⟨by omega, by rw [hL] at c2; simpa [leftOf] using c2, by omega, rfl⟩⟩, rfl⟩
      have HPOST := Lib.hid hpost; clear hpost
      have HL := Lib.hid hL; clear hL
      go_enter Tryz.func76, Tryz.ntmps76
      go_wp2_with (first
        | (go_at_call 77; refine HN.out.mono ?_; rintro e w1 ⟨rfl, hi, hf⟩; have HI := Lib.hid hi; clear hi; have HF := Lib.hid hf; clear hf)
        | (go_at_call 18; refine (left_go ib s1 w1 HI.out).mono ?_; rintro e w2 ⟨rfl, rfl⟩; rw [← HL.out]))
      go_ret
      obtain ⟨st', h1, rfl⟩ := HPOST.out
      exact ⟨n, _, rfl, h1, HI.out, HF.out⟩
/-- What of a list of own cells is made, while blocks of S turn. -/
structure MadeAt (S : Nat → Prop) (w ww : World) (e : TypeId) (size : Nat) (v : Value) (n : Nat) (xs : List Value) : Prop where
  own : ww.ownsRow 0 e size v n xs
  new : NewV w v
  frm : Frm S w ww
theorem MadeAt.keep {S : Nat → Prop} {w ww w' : World} {e : TypeId} {size : Nat} {v : Value} {n : Nat} {xs : List Value} (low : ∀ k, S k → k < w.heap.size) (h : MadeAt S w ww e size v n xs) (f : Frm S ww w') : MadeAt S w w' e size v n xs :=
  ⟨f.owns h.own fun b hb hs => by have := h.new b hb; have := low b hs; omega, h.new, h.frm.trans f fun _ _ h => h⟩
theorem MadeAt.step {S : Nat → Prop} {w w1 w' : World} {e e' : TypeId} {size size' : Nat} {v v' : Value} {n n' : Nat} {xs xs' : List Value} (h : MadeAt S w w1 e size v n xs) (own : w'.ownsRow 0 e' size' v' n' xs') (fm : Frm (RowS v) w1 w') (fr : Fresh w1 v v') : MadeAt S w w' e' size' v' n' xs' :=
  ⟨own, NewV.fresh (w := w) (wi := w1) (v := v) (v' := v') h.new h.frm.size fr, h.frm.trans fm fun i hi hs => by have := h.new i hs; omega⟩
theorem MadeAt.rdq {S : Nat → Prop} {w ww : World} {e : TypeId} {size : Nat} {v : Value} {n : Nat} {xs : List Value} (h : MadeAt S w ww e size v n xs) : RdQ (fun k => w.heap.size ≤ k) ww v n xs := ⟨Rd.own h.own, fun _ k hk => h.new k hk⟩
theorem SpStep.total (B : Lim) (st : Option (List UInt8)) : ∃ (a b c : Int) (s1 s2 s3 : Option (List UInt8)), NumStep st B.dc a s1 ∧ NumStep s1 B.n b s2 ∧ NumStep s2 B.n c s3 := by
  obtain ⟨a, s1, h1⟩ := NumStep.total st B.dc
  obtain ⟨b, s2, h2⟩ := NumStep.total s1 B.n
  obtain ⟨c, s3, h3⟩ := NumStep.total s2 B.n
  exact ⟨a, b, c, s1, s2, s3, h1, h2, h3⟩
theorem SpRun.fits {B : Lim} {st t : Option (List UInt8)} {k : Nat} {c : CtxL} (h : SpRun B st k c t) : FitsC c := fun s hs => by
  obtain ⟨h1, h2, h3⟩ := Run.all (P := fun s => inR s.1 ∧ inR s.2.1 ∧ inR s.2.2) (fun h => SpStep.fits h) h s hs
  exact ⟨h1.1, h1.2, h2.1, h2.2, h3.1, h3.2⟩
theorem spC_snoc (c : CtxL) (a b d : Int) : spC c ++ [.int .i64 a, .int .i64 b, .int .i64 d] = spC (c ++ [(a, b, d)]) := by rw [spC_append]; rfl
def CtxPost (st : Option (List UInt8)) (ib : Nat) (w : World) (e : Ending) (w' : World) : Prop :=
  ∃ cv c s, e = .returned cv ∧ RdQ (fun b => w.heap.size ≤ b) w' cv c.length (spC c) ∧ CtxRes st c s ∧ FitsC c ∧ (c.length ≤ (leftOf st).length) ∧ InSt w' ib s ∧ Frm (Only ib) w w'
theorem CntStep.left {st s : Option (List UInt8)} {m : Int} {n : Nat} (h : CntStep st m n s) : n ≤ (leftOf st).length := by
  cases s with
  | some r =>
    obtain ⟨rfl, h1, _⟩ := h.good
    show n ≤ (numB n ++ r).length
    rw [List.length_append]; omega
  | none =>
    obtain ⟨v, s1, h1, h2⟩ := h
    cases s1 with
    | none => rw [h2.1]; exact Nat.zero_le _
    | some q =>
      rcases h2 with ⟨_, _, _, d⟩ | ⟨_, c, _⟩
      · cases d
      · rw [c]; exact Nat.zero_le _
set_option maxHeartbeats 2000000 in
set_option maxRecDepth 1000000 in
theorem pGetCtx_any (ib : Nat) (st : Option (List UInt8)) (w : World) (h : InSt w ib st) (hl : (leftOf st).length ≤ 60000) :
    Calls Tryz.prog 26 #[.pointer (some ⟨ib, 0, none⟩)] w (CtxPost st ib w) := by
  obtain ⟨i0, hi, hz0, hz1, hz2⟩ := info_parts info_span
  have HC := Lib.hid (pcount_any ib st w h)
  have low : ∀ k, Only ib k → k < w.heap.size := fun k hk => by rw [show k = ib from hk]; exact h.lt
  have HLO := Lib.hid low; clear low
  clear h
  go_enter Tryz.func26, Tryz.ntmps26
  go_wp2_with (go_at_call 76; refine HC.out.mono ?_; rintro e w1 ⟨n, s1, rfl, hc1, hi1, hf1⟩; have HC1 := Lib.hid hc1; have hn : n ≤ 60000 := by { have := hc1.left; omega }; clear hc1; have HI1 := Lib.hid hi1; clear hi1; have HF1 := Lib.hid hf1; clear hf1)
  go_loopw [3, 6] (fun cv i ww => ∃ (k : Nat) (c : CtxL) (s : Option (List UInt8)), k ≤ n ∧ i = .int .i64 k ∧ SpRun bdP s1 k c s ∧ InSt ww ib s ∧ MadeAt (Only ib) w ww 122 3 cv k (spC c)) (fun _ i _ => n - (intOf i).toNat)
  case atStart => exact ⟨0, [], s1, Nat.zero_le _, rfl, .zero, HI1.out, World.ownsRow_nil _ 0 _ 3, (fun b hb => by simp [Value.ownBlock] at hb), HF1.out⟩
  case round =>
    obtain ⟨k, c, s, hk, rfl, hrun, hin, hmd⟩ := hrel
    have HRUN := Lib.hid hrun; clear hrun
    have HIN := Lib.hid hin; clear hin
    obtain ⟨aV, cV, rfl⟩ := (Rd.own hmd.own).sl
    have HMD := Lib.hid hmd; clear hmd
    by_cases hlt : k < n
    · obtain ⟨d, a, b, t1, t2, t3, g1, g2, g3⟩ := SpStep.total bdP s
      have HG1 := Lib.hid g1; clear g1
      have HG2 := Lib.hid g2; clear g2
      have HG3 := Lib.hid g3; clear g3
      go_wp2_with (first
        | (go_at_call 77; refine (inum_at ib t2 1099511627776 b t3 _ HI4.out HG3.out (by omega) (by omega)).mono ?_; rintro e w5 ⟨rfl, hi5, hf5⟩; have HI5 := Lib.hid hi5; clear hi5; have HF5 := Lib.hid hf5; clear hf5)
        | (go_at_call 77; refine (inum_at ib t1 1099511627776 a t2 _ HI3.out HG2.out (by omega) (by omega)).mono ?_; rintro e w4 ⟨rfl, hi4, hf4⟩; have HI4 := Lib.hid hi4; clear hi4; have HF4 := Lib.hid hf4; clear hf4)
        | (go_at_call 77; refine (inum_at ib s 4 d t1 _ HIN.out HG1.out (by omega) (by omega)).mono ?_; rintro e w3 ⟨rfl, hi3, hf3⟩; have HI3 := Lib.hid hi3; clear hi3; have HF3 := Lib.hid hf3; clear hf3)
        | (at_builtin; have hm5 := ((HMD.out.keep HLO.out HF3.out).keep HLO.out HF4.out).keep HLO.out HF5.out; have HM5 := Lib.hid hm5; clear hm5; go_loud (refine wpList_app1 w5 [.int .i64 d, .int .i64 a, .int .i64 b] rfl (.tmp 8) (.tmp 16) 31 rfl 122 i0 _ 3 24 Tryz.underlying31 hi hz0 hz1 hz2 (by decide) (by decide) _ _ _ HM5.out.own 1 1 rfl rfl rfl ?c1 ?c2 ?c3 ?_)))
      case c1 => simp [Value.oneCell']
      case c2 => simp only [maxLen]; omega
      case c3 => omega
      intro ad cc w6 own6 fm6 fr6
      have HIK := Lib.hid (show InSt w6 ib t3 from HI5.out.keep fm6 fun j hj hs => by
        have := HM5.out.new j hs
        have := HLO.out ib rfl
        omega)
      have HST := Lib.hid (HM5.out.step own6 fm6 fr6)
      clear own6 fm6 fr6
      go_wp2
      go_roundw
      case rel => exact ⟨k + 1, c ++ [(d, a, b)], t3, by omega, by go_num, .snoc HRUN.out ⟨_, _, HG1.out, HG2.out, HG3.out⟩, HIK.out, by rw [← spC_snoc]; exact HST.out⟩
      case measure => simp [intOf]; omega
    · obtain rfl : n = k := by omega
      have hcl := HRUN.out.len
      have HBAD := Lib.hid (bad_go ib s wr HIN.out)
      cases s with
      | none =>
        have HPOST := Lib.hid (ctx_bad bdP_ok wideP (M := 60000) (by omega) (by omega) HC1.out HRUN.out (.inl rfl))
        go_wp2_with (first
          | (go_at_call 17; refine HBAD.out.mono ?_; rintro e w2 ⟨rfl, rfl⟩)
          | (go_at_call 79; obtain ⟨a, c, hh⟩ := HIN.out.heap; refine (fail_go ib _ _ wr hh).mono ?_; rintro e w2 ⟨rfl, hi2, hf2⟩; have HI2 := Lib.hid hi2; clear hi2 hh; have HF2 := Lib.hid hf2; clear hf2))
        go_ret
        exact ⟨_, [], none, rfl, ⟨.inl ⟨none, rfl, rfl, rfl⟩, fun h => absurd rfl h⟩, HPOST.out, (fun s hs => by cases hs), Nat.zero_le _, HI2.out, HMD.out.frm.trans HF2.out fun _ _ h => h⟩
      | some r =>
        have hcr := cRight_any wr (.slice aV n cV) c (by unfold CtxAt; rw [hcl]; exact Rd.own HMD.out.own) (SpRun.fits HRUN.out) (by omega)
        have HCR := Lib.hid hcr; clear hcr
        by_cases hr : RightC c
        · rw [tf_true hr] at HCR
          have HPOST := Lib.hid (ctx_good HC1.out HRUN.out hr); clear hr
          have HFI := Lib.hid (SpRun.fits HRUN.out)
          have hnl := HC1.out.left
          go_wp2_with (first
            | (go_at_call 17; refine HBAD.out.mono ?_; rintro e w2 ⟨rfl, rfl⟩)
            | (go_at_call 78; refine HCR.out.mono ?_; rintro e w2 ⟨rfl, hf2⟩; have HF2 := Lib.hid hf2; clear hf2))
          go_ret
          exact ⟨_, c, some r, rfl, by rw [hcl]; exact HMD.out.rdq.keep HF2.out (fun _ _ s => s.elim), HPOST.out, HFI.out, by omega, HIN.out.keep HF2.out (fun _ _ h => h), HMD.out.frm.trans HF2.out fun _ _ h => h.elim⟩
        · rw [tf_false hr] at HCR
          have HPOST := Lib.hid (ctx_bad bdP_ok wideP (M := 60000) (by omega) (by omega) HC1.out HRUN.out (.inr hr)); clear hr
          go_wp2_with (first
            | (go_at_call 17; refine HBAD.out.mono ?_; rintro e w2 ⟨rfl, rfl⟩)
            | (go_at_call 78; refine HCR.out.mono ?_; rintro e w2 ⟨rfl, hf2⟩; have HIN2 := Lib.hid (HIN.out.keep hf2 (fun _ _ h => h)); have HF2 := Lib.hid hf2; clear hf2)
            | (go_at_call 79; obtain ⟨a, c, hh⟩ := HIN2.out.heap; refine (fail_go ib _ _ w2 hh).mono ?_; rintro e w3 ⟨rfl, hi2, hf2⟩; have HI2 := Lib.hid hi2; clear hi2 hh; have HF3 := Lib.hid hf2; clear hf2))
          go_ret
          exact ⟨_, [], none, rfl, ⟨.inl ⟨none, rfl, rfl, rfl⟩, fun h => absurd rfl h⟩, HPOST.out, (fun s hs => by cases hs), Nat.zero_le _, HI2.out, (HMD.out.frm.trans HF2.out fun _ _ h => h.elim).trans HF3.out fun _ _ h => h⟩
end Go.Proofs.YtggfoihfenlckaaGreat