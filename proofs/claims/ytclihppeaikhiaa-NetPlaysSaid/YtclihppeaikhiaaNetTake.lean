/- net: there; Take and its closure: the walks. -/
import Derived.Test.YtclihppeaikhiaaNetAll2
import Derived.Deep.QuietTactic
import Derived.BigQuiet
namespace Go.Proofs.Ytclihppeaikhiaa
open Go.RowKit

set_option maxRecDepth 1000000 in
theorem there_nil (k : Int) (w : World) : Calls Try.prog 48 #[.pointer none, .int .i64 k] w fun e w' => e = .returned (.int .i64 1) ∧ w = w' := by
  go_enter Try.func48, Try.ntmps48
  go_wp2
  go_ret
  exact ⟨rfl, rfl⟩
set_option maxRecDepth 1000000 in
theorem there_no (nb ch cap : Nat) (buf : List Value) (l : List Par) (k : Int) (w : World) (h : NetAt w nb ch cap buf l) (hk : k < 0 ∨ (l.length : Int) ≤ k) :
    Calls Try.prog 48 #[.pointer (some ⟨nb, 0, none⟩), .int .i64 k] w fun e w' => e = .returned (.int .i64 7) ∧ w = w' := by
  obtain ⟨s, r, hc⟩ := h.chan
  have hlen := netlen nb ch cap s r buf w h.cell hc
  rw [h.pars.1] at hlen
  have HL := Lib.hid hlen; clear hlen
  clear h hc
  by_cases h0 : k < 0
  · go_enter Try.func48, Try.ntmps48
    go_wp2
    go_ret
    exact ⟨rfl, rfl⟩
  · have h1 : (l.length : Int) ≤ k := by omega
    go_enter Try.func48, Try.ntmps48
    go_wp2_with (go_at_call 24; refine HL.out.mono ?_; rintro e w' ⟨rfl, rfl⟩)
    go_ret
    exact ⟨rfl, rfl⟩
set_option maxRecDepth 1000000 in
theorem there_ok (nb ch cap : Nat) (buf : List Value) (l : List Par) (k : Nat) (w : World) (h : NetAt w nb ch cap buf l) (hk : k < l.length) :
    Calls Try.prog 48 #[.pointer (some ⟨nb, 0, none⟩), .int .i64 k] w fun e w' => e = .returned (.int .i64 0) ∧ w = w' := by
  obtain ⟨s, r, hc⟩ := h.chan
  have hlen := netlen nb ch cap s r buf w h.cell hc
  rw [h.pars.1] at hlen
  have HL := Lib.hid hlen; clear hlen
  clear h hc
  have h0 : ¬ (k : Int) < 0 := by omega
  have h1 : ¬ (l.length : Int) ≤ k := by omega
  go_enter Try.func48, Try.ntmps48
  go_wp2_with (go_at_call 24; refine HL.out.mono ?_; rintro e w' ⟨rfl, rfl⟩)
  go_ret
  exact ⟨rfl, rfl⟩

set_option maxRecDepth 1000000 in
theorem take1_miss (w : World) (i K t : Int) (a : Option Addr) (n c : Nat) (kb ob : Nat) (hkb : w.heap[kb]? = some (.cells #[.int .i64 K] 3 (0, 0))) (hne : i ≠ K) :
    Calls Try.prog 50 #[.int .i64 i, .agg #[.int .i64 t, .slice a n c], .pointer (some ⟨kb, 0, none⟩), .pointer (some ⟨ob, 0, none⟩)] w fun e w' => e = .returned (.tuple #[.agg #[.int .i64 t, .slice a n c], .bool true]) ∧ Frm (fun _ => False) w w' := by
  have ck : w.cell? ⟨kb, 0, none⟩ = some (.int .i64 K) := cell_at hkb 0 rfl
  have hlt := lt_of_block hkb
  clear hkb
  have h1 : (i == K) = false := by simpa using hne
  have h2 : (i != K) = true := by simpa using hne
  go_enter Try.func50, Try.ntmps50
  go_wp2
  go_region
  all_goals
    go_wp2
    refine bodyPost_ret (v := .tuple #[.agg #[.int .i64 t, .slice a n c], .bool true]) (by simp [results, Try.results50, go_sem]) rfl ⟨rfl, ?_⟩
    exact ((Frm.alloc _ w _).trans (Frm.alloc _ _ _) fun _ _ h => h).trans (Frm.drew _ _) fun _ _ h => h

set_option maxRecDepth 1000000 in
theorem take1_hit (w : World) (K t : Int) (a : Option Addr) (n c : Nat) (kb ob : Nat) (x0 y0 : Value) (hkb : w.heap[kb]? = some (.cells #[.int .i64 K] 3 (0, 0))) (hob : w.heap[ob]? = some (.cells #[x0, y0] 43 (0, 0))) :
    Calls Try.prog 50 #[.int .i64 K, .agg #[.int .i64 t, .slice a n c], .pointer (some ⟨kb, 0, none⟩), .pointer (some ⟨ob, 0, none⟩)] w fun e w' => e = .returned (.tuple #[.agg #[.int .i64 t, .slice a n c], .bool false]) ∧ w'.heap[ob]? = some (.cells #[.int .i64 t, .slice a n c] 43 (0, 0)) ∧ Frm (fun i => i = ob) w w' := by
  have ck : w.cell? ⟨kb, 0, none⟩ = some (.int .i64 K) := cell_at hkb 0 rfl
  have co0 : w.cell? ⟨ob, 0, none⟩ = some x0 := cell_at hob 0 rfl
  have co1 : w.cell? ⟨ob, 1, none⟩ = some y0 := cell_at hob 1 rfl
  have fo0 : w.frozen? ⟨ob, 0, none⟩ = false := free_at hob 0
  have fo1 : w.frozen? ⟨ob, 1, none⟩ = false := free_at hob 1
  have hlt := lt_of_block hkb
  have hlo := lt_of_block hob
  have hbo : kb ≠ ob := fun e => by subst e; rw [hkb] at hob; cases hob
  have HKB := Lib.hid hkb; clear hkb
  have HOB := Lib.hid hob; clear hob
  have h1 : (K == K) = true := by simp
  have h2 : (K != K) = false := by simp
  go_enter Try.func50, Try.ntmps50
  go_wp2
  have hne : ¬ ob = kb := fun h => hbo h.symm
  go_region
  all_goals
    go_wp2
    refine bodyPost_ret (v := .tuple #[.agg #[.int .i64 t, .slice a n c], .bool false]) (by simp [results, Try.results50, go_sem]) rfl ⟨rfl, ?_⟩
    have o2 := set_at HOB.out 0 (.int .i64 t)
    have o3 := set_at o2 1 (.slice a n c)
    have f2 : Frm (fun i => i = ob) w ((w.setCell ⟨ob, 0, none⟩ (.int .i64 t)).setCell ⟨ob, 1, none⟩ (.slice a n c)) :=
      (Frm.setCell (S := fun i => i = ob) w (p := ⟨ob, 0, none⟩) (.inl rfl) _).trans (Frm.setCell (S := fun i => i = ob) _ (p := ⟨ob, 1, none⟩) (.inl rfl) _) fun _ _ h => h
    generalize (w.setCell ⟨ob, 0, none⟩ (.int .i64 t)).setCell ⟨ob, 1, none⟩ (.slice a n c) = w2 at *
    have f3 : Frm (fun _ => False) w2 ((w2.alloc (.cells #[.int .i64 t, .slice a n c] 43)).alloc (.cells #[.int .i64 t, .slice a n c] 43)).drew := ((Frm.alloc _ w2 _).trans (Frm.alloc _ _ _) fun _ _ h => h).trans (Frm.drew _ _) fun _ _ h => h
    exact ⟨f3.blk o3 id, f2.trans f3 fun _ _ h => h.elim⟩

/-- What Take's closure keeps. -/
structure TakeJ (w0 : World) (ch ob K : Nat) (buf : List Value) (l : List Par) (k : Nat) (d r : List Value) (w : World) : Prop where
  left : r = buf.drop k
  done : d = (buf.take k).eraseIdx K
  pars : ParsAt w ch buf l
  frm : Frm (fun i => i = ch ∨ i = ob) w0 w
  out : ∃ t a n c, w.heap[ob]? = some (.cells #[.int .i64 t, .slice a n c] 43 (0, 0)) ∧ (K < k → buf[K]? = some (.agg #[.int .i64 t, .slice a n c]))

theorem drop_cons {α : Type} {l r : List α} {p : α} {k : Nat} (h : p :: r = l.drop k) : l[k]? = some p ∧ r = l.drop (k + 1) := by
  have h1 : (l.drop k)[0]? = some p := by rw [← h]; rfl
  rw [List.getElem?_drop] at h1
  refine ⟨by simpa using h1, ?_⟩
  rw [← List.drop_drop, ← h]
  rfl
theorem take_snoc' {α : Type} {l : List α} {p : α} {k : Nat} (h : l[k]? = some p) : l.take (k + 1) = l.take k ++ [p] := by
  rw [List.take_add_one, h]
  rfl
theorem len_of_some {α : Type} {l : List α} {p : α} {k : Nat} (h : l[k]? = some p) : k < l.length := (List.getElem?_eq_some_iff.1 h).1
theorem ParsAt.erase {w : World} {ch : Nat} {buf : List Value} {l : List Par} (h : ParsAt w ch buf l) (K : Nat) : ParsAt w ch (buf.eraseIdx K) (l.eraseIdx K) := by
  refine ⟨by rw [List.length_eraseIdx, List.length_eraseIdx, h.1], fun i x p hx hp => ?_⟩
  rw [List.getElem?_eraseIdx] at hx hp
  split at hx
  · rename_i hi; rw [if_pos hi] at hp; exact h.2 _ _ _ hx hp
  · rename_i hi; rw [if_neg hi] at hp; exact h.2 _ _ _ hx hp

set_option maxRecDepth 100000 in
theorem takeJ (w0 : World) (nb ch kb ob cap K : Nat) (buf : List Value) (l : List Par) (h : NetAt w0 nb ch cap buf l) (ho : ob < w0.heap.size) (hoc : ob ≠ ch) (hon : ob ≠ nb) (hko : kb ≠ ob) (hkc : kb ≠ ch) (hkb : w0.heap[kb]? = some (.cells #[.int .i64 K] 3 (0, 0))) :
    TurnJ 50 #[.pointer (some ⟨kb, 0, none⟩), .pointer (some ⟨ob, 0, none⟩)] nb ch (TakeJ w0 ch ob K buf l) := by
  have hcl := h.clt
  have hnl := h.nlt
  have hne := h.ne
  refine ⟨?_, ?_, ?_⟩
  · intro k d r w w' hj f
    obtain ⟨t, a, n, c, q1, q2⟩ := hj.out
    exact ⟨hj.left, hj.done, hj.pars.keep f (noBytes_ch _ _), hj.frm.trans f fun i _ h => .inl h, t, a, n, c, f.blk q1 hoc, q2⟩
  · intro k d p r w hj
    obtain ⟨hk, _⟩ := drop_cons hj.left
    have hlt : k < l.length := by rw [← hj.pars.1]; exact len_of_some hk
    obtain ⟨a, c, h1, _⟩ := hj.pars.2 _ _ _ hk (List.getElem?_eq_getElem hlt)
    exact ⟨_, _, _, _, h1⟩
  · intro k d p r w hj
    obtain ⟨hk, hr⟩ := drop_cons hj.left
    have hlt : k < l.length := by rw [← hj.pars.1]; exact len_of_some hk
    obtain ⟨p0, hlk⟩ : ∃ p0, l[k]? = some p0 := ⟨_, List.getElem?_eq_getElem hlt⟩
    obtain ⟨a, c, rfl, h2, h3, h4⟩ := hj.pars.2 _ _ _ hk hlk
    obtain ⟨t, a', n', c', q1, q2⟩ := hj.out
    have hsz := hj.frm.size
    have hkl : k < buf.length := len_of_some hk
    have hkb' := hj.frm.blk hkb (fun h => by rcases h with h | h <;> contradiction)
    by_cases hK : k = K
    · subst hK
      refine (take1_hit w k _ a _ c kb ob _ _ hkb' q1).mono ?_
      rintro e w' ⟨he, g1, g2⟩
      refine ⟨_, _, _, _, false, he, g2.block ch (by omega) (fun h => hoc h.symm), g2.block nb (by omega) (fun h => hon h.symm), g2.size, ?_⟩
      refine ⟨hr, ?_, hj.pars.keep g2 (fun i hi => .inr fun cur hc => ?_), hj.frm.trans g2 fun i _ h => .inr h, _, _, _, _, g1, fun _ => hk⟩
      · rw [if_neg (by simp), hj.done, take_snoc' hk, List.eraseIdx_of_length_le (by simp; omega), List.eraseIdx_append_of_length_le (by simp; omega)]
        simp [Nat.min_eq_left (Nat.le_of_lt hkl)]
      · have h1 : i = ob := hi
        subst h1
        rw [q1] at hc
        cases hc
    · refine (take1_miss w k K _ a _ c kb ob hkb' (by omega)).mono ?_
      rintro e w' ⟨he, g2⟩
      refine ⟨_, _, _, _, true, he, g2.block ch (by omega) id, g2.block nb (by omega) id, g2.size, ?_⟩
      refine ⟨hr, ?_, hj.pars.keep g2 (noBytes_none _ _), hj.frm.trans g2 fun i _ h => h.elim, t, a', n', c', g2.blk q1 id, fun h => q2 (by omega)⟩
      rw [if_pos rfl, hj.done, take_snoc' hk]
      by_cases hlt2 : K < k
      · rw [List.eraseIdx_append_of_lt_length (by simp; omega)]
      · rw [List.eraseIdx_of_length_le (by simp; omega), List.eraseIdx_of_length_le (by simp; omega)]

set_option maxHeartbeats 1000000 in
set_option maxRecDepth 1000000 in
theorem take_ok (w : World) (nb ch cap K : Nat) (buf : List Value) (l : List Par) (p : Par) (h : NetAt w nb ch cap buf l) (hp : l[K]? = some p) :
    Calls Try.prog 23 #[.pointer (some ⟨nb, 0, none⟩), .int .i64 K] w fun e w' => ∃ a c, e = .returned (.tuple #[.agg #[.int .i64 p.1, .slice a p.2.length c], .int .i64 0]) ∧
      ParAt w' ch (.agg #[.int .i64 p.1, .slice a p.2.length c]) p ∧ NetAt w' nb ch cap (buf.eraseIdx K) (l.eraseIdx K) ∧ Frm (fun i => i = ch) w w' := by
  have hkl : K < l.length := len_of_some hp
  have hfA : Frm (fun _ => False) w ((w.alloc (.cells #[.int .i64 K] 3)).alloc (.cells #[.int .i64 0, .slice none 0 0] 43)) := (Frm.alloc _ w _).trans (Frm.alloc _ _ _) fun _ _ h => h
  have b0 : ((w.alloc (.cells #[.int .i64 K] 3)).alloc (.cells #[.int .i64 0, .slice none 0 0] 43)).heap[w.heap.size]? = some (.cells #[.int .i64 K] 3 (0, 0)) := by
    rw [Below.heap_alloc _ _ _ (by simp)]; exact heap_alloc_new w _
  have b1 : ((w.alloc (.cells #[.int .i64 K] 3)).alloc (.cells #[.int .i64 0, .slice none 0 0] 43)).heap[w.heap.size + 1]? = some (.cells #[.int .i64 0, .slice none 0 0] 43 (0, 0)) := by
    have := heap_alloc_new (w.alloc (.cells #[.int .i64 K] 3)) (.cells #[.int .i64 0, .slice none 0 0] 43)
    simpa only [World.size_alloc] using this
  have hsA : ((w.alloc (.cells #[.int .i64 K] 3)).alloc (.cells #[.int .i64 0, .slice none 0 0] 43)).heap.size = w.heap.size + 1 + 1 := by simp
  have hfB := Frm.alloc (fun _ => False) ((w.alloc (.cells #[.int .i64 K] 3)).alloc (.cells #[.int .i64 0, .slice none 0 0] 43)) (.cells #[.int .i64 0, .slice none 0 0] 43)
  have ho := heap_alloc_new ((w.alloc (.cells #[.int .i64 K] 3)).alloc (.cells #[.int .i64 0, .slice none 0 0] 43)) (.cells #[.int .i64 0, .slice none 0 0] 43)
  rw [hsA] at ho
  have hB0 := hfB.blk b0 id
  have hB1 := hfB.blk b1 id
  have hA := h.keep0 hfA
  have hB := hA.keep0 hfB
  have hthere := there_ok nb ch cap buf l K _ hA hkl
  have hcl := h.clt
  have hnl := h.nlt
  have hJ := takeJ _ nb ch w.heap.size (w.heap.size + 1 + 1) cap K buf l hB (lt_of_block ho) (by omega) (by omega) (by omega) (by omega) hB0
  obtain ⟨s, r, hc⟩ := hB.chan
  have hcapb := h.capb
  have hturn := turn_any nb ch cap s r buf _ hB.cell hc h.room (by omega) 50 #[.pointer (some ⟨w.heap.size, 0, none⟩), .pointer (some ⟨w.heap.size + 1 + 1, 0, none⟩)] _ Try.func50 (by kernel_rfl) (by kernel_rfl) _ hJ
    ⟨rfl, rfl, hB.pars, Frm.refl _ _, _, _, _, _, ho, fun h => by omega⟩
  have HT := Lib.hid hturn; clear hturn
  have HTH := Lib.hid hthere; clear hthere
  have H := Lib.hid h; clear h
  have HP := Lib.hid hp; clear hp
  have hfAB := hfA.trans hfB fun _ _ h => h
  have HF := Lib.hid hfAB; clear hfAB
  have HC := Lib.hid hc; clear hc
  have HB1 := Lib.hid hB1; clear hB1
  have HSA := Lib.hid hsA; clear hsA
  clear hJ hA hB hB0 hfA hfB b0 b1 ho
  go_enter Try.func23, Try.ntmps23
  go_wp2_with (go_at_call 48; refine HTH.out.mono ?_; rintro e w' ⟨rfl, rfl⟩)
  refine HT.out.mono ?_
  rintro e w' ⟨rfl, d, s', r', hd, hch, hj⟩
  obtain ⟨t, a, n, c, q1, q2⟩ := hj.out
  have hq := q2 (by rw [hj.pars.1]; exact hkl)
  obtain ⟨a1, c1, hx, hown, hsm, hnc⟩ := hj.pars.2 _ _ _ hq HP.out
  have hx1 : t = p.1 ∧ a = a1 ∧ n = p.2.length ∧ c = c1 := by simp at hx; exact hx
  obtain ⟨rfl, rfl, rfl, rfl⟩ := hx1
  have hd : d = buf.eraseIdx K := by rw [hj.done, List.take_length]
  subst hd
  have hfr := hj.frm
  have hB1' := hfr.blk HB1.out (fun h => by rcases h with h | h <;> omega)
  have c0 : w'.cell? ⟨w.heap.size + 1 + 1, 0, none⟩ = some (.int .i64 p.1) := cell_at q1 0 rfl
  have c1 : w'.cell? ⟨w.heap.size + 1 + 1, 1, none⟩ = some (.slice a p.2.length c) := cell_at q1 1 rfl
  have c2 : w'.cell? ⟨w.heap.size + 1, 0, none⟩ = some (.int .i64 0) := cell_at hB1' 0 rfl
  have c3 : w'.cell? ⟨w.heap.size + 1, 1, none⟩ = some (.slice none 0 0) := cell_at hB1' 1 rfl
  have f2 := free_at hB1' 0
  have f3 := free_at hB1' 1
  have HCH := Lib.hid hch; clear hch
  have HFR := Lib.hid hfr; clear hfr
  have HPR := Lib.hid hj.pars
  have PAR := Lib.hid (show ParAt w' ch (.agg #[.int .i64 p.1, .slice a p.2.length c]) p from ⟨a, c, rfl, hown, hsm, hnc⟩)
  have BB := Lib.hid hB1'; clear hB1'
  clear hj hx hown hsm hnc hq q1 q2
  have z0 := set_at BB.out 0 (.int .i64 p.1)
  have z1 := set_at z0 1 (.slice a p.2.length c)
  have d0 := cell_at z1 0 rfl
  have d1 := cell_at z1 1 rfl
  simp at d0 d1
  clear z0 z1
  go_wp2
  refine bodyPost_ret (v := .tuple #[.agg #[.int .i64 p.1, .slice a p.2.length c], .int .i64 0]) (by simp [results, Try.results23, go_sem, d0, d1]) rfl ⟨a, c, rfl, ?_⟩
  have hw : Frm (fun i => i = ch) w w' := ((HF.out.mono fun _ _ h => h.elim).trans HFR.out fun i hi hs => hs.elim id fun h => by omega)
  have fz : Frm (fun i => i = w.heap.size + 1) w' ((w'.setCell ⟨w.heap.size + 1, 0, none⟩ (.int .i64 p.1)).setCell ⟨w.heap.size + 1, 1, none⟩ (.slice a p.2.length c)) :=
    (Frm.setCell (S := fun i => i = w.heap.size + 1) w' (p := ⟨w.heap.size + 1, 0, none⟩) (.inl rfl) _).trans (Frm.setCell (S := fun i => i = w.heap.size + 1) _ (p := ⟨w.heap.size + 1, 1, none⟩) (.inl rfl) _) fun _ _ h => h
  have nb1 : NoBytes w' ch (fun i => i = w.heap.size + 1) := fun i hi => .inr fun cur hc => by
    have h1 : i = w.heap.size + 1 := hi
    rw [h1, BB.out] at hc
    cases hc
  have hpe := HPR.out.erase K
  have hnet : NetAt w' nb ch cap (buf.eraseIdx K) (l.eraseIdx K) := ⟨hw.cell' H.out.cell (fun h => H.out.ne h), ⟨s', r', HCH.out⟩, hpe, by rw [List.length_eraseIdx]; have := H.out.room; split <;> omega, H.out.capb⟩
  exact ⟨PAR.out.keep fz nb1, hnet.keep fz (fun h => by omega) (fun h => by omega) nb1, hw.trans fz fun i hi h => by have h1 : i = w.heap.size + 1 := h; omega⟩

set_option maxRecDepth 1000000 in
theorem take_no (w : World) (nb ch cap : Nat) (k : Int) (buf : List Value) (l : List Par) (h : NetAt w nb ch cap buf l) (hk : k < 0 ∨ (l.length : Int) ≤ k) :
    Calls Try.prog 23 #[.pointer (some ⟨nb, 0, none⟩), .int .i64 k] w fun e w' => e = .returned (.tuple #[.agg #[.int .i64 0, .slice none 0 0], .int .i64 7]) ∧ Frm (fun _ => False) w w' := by
  have hfA : Frm (fun _ => False) w ((w.alloc (.cells #[.int .i64 k] 3)).alloc (.cells #[.int .i64 0, .slice none 0 0] 43)) := (Frm.alloc _ w _).trans (Frm.alloc _ _ _) fun _ _ h => h
  have hthere := there_no nb ch cap buf l k _ (h.keep0 hfA) hk
  have HTH := Lib.hid hthere; clear hthere
  clear h hk
  go_enter Try.func23, Try.ntmps23
  go_wp2_with (go_at_call 48; refine HTH.out.mono ?_; rintro e w' ⟨rfl, rfl⟩)
  exact bodyPost_ret (v := .tuple #[.agg #[.int .i64 0, .slice none 0 0], .int .i64 7]) (by simp [results, Try.results23, go_sem]) rfl ⟨rfl, hfA⟩

set_option maxRecDepth 1000000 in
theorem take_nil (w : World) (k : Int) :
    Calls Try.prog 23 #[.pointer none, .int .i64 k] w fun e w' => e = .returned (.tuple #[.agg #[.int .i64 0, .slice none 0 0], .int .i64 1]) ∧ Frm (fun _ => False) w w' := by
  have hfA : Frm (fun _ => False) w ((w.alloc (.cells #[.int .i64 k] 3)).alloc (.cells #[.int .i64 0, .slice none 0 0] 43)) := (Frm.alloc _ w _).trans (Frm.alloc _ _ _) fun _ _ h => h
  have hthere := there_nil k ((w.alloc (.cells #[.int .i64 k] 3)).alloc (.cells #[.int .i64 0, .slice none 0 0] 43))
  have HTH := Lib.hid hthere; clear hthere
  go_enter Try.func23, Try.ntmps23
  go_wp2_with (go_at_call 48; refine HTH.out.mono ?_; rintro e w' ⟨rfl, rfl⟩)
  exact bodyPost_ret (v := .tuple #[.agg #[.int .i64 0, .slice none 0 0], .int .i64 1]) (by simp [results, Try.results23, go_sem]) rfl ⟨rfl, hfA⟩

end Go.Proofs.Ytclihppeaikhiaa
