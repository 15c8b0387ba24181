/- tributaryref02.In.Text. -/
import Derived.Test.YtclihppeaikhiaaRIn
namespace Go.Proofs.Ytclihppeaikhiaa
open Go.RowKit

theorem Rd.keepIf {w w' : World} {v : Value} {n : Nat} {xs : List Value} (h : Rd w v n xs) {S : Nat → Prop} (f : Frm S w w') (hn : xs ≠ [] → ∀ k, v.ownBlock = some k → ¬ S k) : Rd w' v n xs := by
  rcases h with h | ⟨b, off, c, rfl, h1, h2, h3⟩
  · exact .inl h
  · refine .inr ⟨b, off, c, rfl, h1, h2, fun j u hu => f.cell' (h3 j u hu) (hn (fun e => ?_) b rfl)⟩
    subst e
    simp at hu
theorem Rd.lt {w : World} {v : Value} {n : Nat} {xs : List Value} (h : Rd w v n xs) (hne : xs ≠ []) : ∀ k, v.ownBlock = some k → k < w.heap.size := fun k hk => by
  rcases h with ⟨ad, _, _, h3⟩ | ⟨b, off, c, rfl, _, _, h3⟩
  · exact absurd h3 hne
  · simp [Value.ownBlock] at hk
    subst hk
    obtain ⟨x, l, rfl⟩ := List.exists_cons_of_ne_nil hne
    exact World.block_lt_of_cell? _ _ (h3 0 x rfl)
theorem rst_lt {w : World} {v : Value} {bad : Bool} {st : Option (List UInt8)} {m n : Int} {r : List UInt8} (h : RSt w v bad st) (hs : NumStep st m n (some r)) : ∀ k, v.ownBlock = some k → k < w.heap.size := by
  cases st with
  | none => cases hs.2
  | some bs =>
    refine h.2.lt fun e => ?_
    rcases hs with ⟨r', hb, _⟩ | ⟨_, _, h3⟩
    · have h1 := congrArg List.length hb.2
      have h2 := numB_pos n
      have h3 : bs = [] := by simpa [bV] using e
      subst h3
      simp only [List.length_nil, List.length_append] at h1
      omega
    · cases h3

set_option maxHeartbeats 800000 in
set_option maxRecDepth 1000000 in
theorem ritext_any (m : Int) (v : Value) (bad : Bool) (st : Option (List UInt8)) (w : World) (h : RSt w v bad st) (hm2 : m ≤ 9223372036854775807) (hm3 : -9223372036854775808 ≤ m) :
    Calls Try.prog 35 #[.agg #[v, .bool bad], .int .i64 m] w fun e w' => ∃ s v' bad' st', e = .returned (.tuple #[.string s, .agg #[v', .bool bad']]) ∧ TextStep st m s st' ∧ RSt w' v' bad' st' ∧ SubV v' v ∧ Frm Nowhere w w' := by
  have hcall := fun W h => rinum_any m v bad st W h hm2 hm3
  have HCALL := Lib.hid hcall; clear hcall
  have HH := Lib.hid h; clear h
  go_enter Try.func35, Try.ntmps35
  go_wp2_with fail
  refine (HCALL.out _ (HH.out.keep ((Frm.alloc Nowhere w _).trans (Frm.alloc Nowhere _ _) fun _ _ h => h) fun _ _ h => h)).mono ?_
  rintro e w1 ⟨n, v1, bad1, st1, rfl, hs1, hr1, ho1, hf1⟩
  have hz := hf1.size
  have hc := fun o => hf1.cell (p := ⟨w.heap.size + 1, o, none⟩) (by simp) (fun h => h)
  have hc' := fun o => hf1.cell (p := ⟨w.heap.size, o, none⟩) (by simp; omega) (fun h => h)
  have hq := fun o => hf1.frozen (p := ⟨w.heap.size + 1, o, none⟩) (by simp) (fun h => h)
  have hz1 : w.heap.size + 1 < w1.heap.size := by simp at hz; omega
  clear hz
  have HS := Lib.hid hs1; clear hs1
  have HO := Lib.hid ho1; clear ho1
  have HF := Lib.hid hf1; clear hf1
  cases st1 with
  | none =>
    obtain ⟨rfl, rfl⟩ := hr1
    go_wp2
    exact bodyPost_ret (v := .tuple #[.string ⟨#[]⟩, .agg #[.slice none 0 0, .bool true]]) (by simp [results, Try.results35, go_sem, hc, hz1]) rfl ⟨_, _, _, none, rfl, ⟨n, none, HS.out, rfl, rfl⟩, ⟨rfl, rfl⟩, SubV.nil _, (frm_two HF.out _ _).trans (Frm.alloc Nowhere _ _) fun _ _ h => h⟩
  | some bs =>
    obtain ⟨rfl, hrd⟩ := hr1
    obtain ⟨a, c, rfl⟩ := rd_shape hrd
    have hcap := rd_cap hrd
    have HR := Lib.hid hrd; clear hrd
    by_cases hn : 0 ≤ n ∧ n ≤ bs.length
    · obtain ⟨k, rfl⟩ := Int.eq_ofNat_of_zero_le hn.1
      have hk : k ≤ bs.length := by omega
      have cvp := HR.out.pre k hk
      have CVP := Lib.hid cvp; clear cvp
      have cv := fun (W : World) (f : Frm Nowhere w1 W) => conv_str (CVP.out.keep f fun _ _ h => h)
      have CV := Lib.hid cv; clear cv
      have cv0 := CV.out ((w1.alloc (.cells #[.slice a bs.length c, .bool false] 64)).drew) ((Frm.alloc Nowhere w1 _).trans (Frm.drew Nowhere _) fun _ _ h => h)
      have hstep : TextStep st m ⟨(bs.take k).toArray⟩ (some (bs.drop k)) := ⟨k, some bs, HS.out, .inl ⟨by omega, by omega, by simp, by simp⟩⟩
      have ST := Lib.hid hstep; clear hstep
      generalize hL : bs.length = L at *
      have HL := Lib.hid hL; clear hL
      clear hn
      by_cases hcap2 : c = k
      · subst hcap2
        go_wp2_with fail
        go_region
        go_wp2
        have hlc : L = c := by omega
        have hd : bs.drop c = [] := by rw [← hlc, ← HL.out]; exact List.drop_length
        have st := ST.out
        rw [hd] at st
        refine bodyPost_ret (v := .tuple #[.string ⟨(bs.take c).toArray⟩, .agg #[.slice a 0 0, .bool false]]) (by simp [results, Try.results35, go_sem, hc, hz1]) rfl ⟨_, _, _, some [], rfl, st, ⟨rfl, .inl ⟨a, rfl, rfl, rfl⟩⟩, fun i hi => HO.out i ((own_any a 0 0 L c) ▸ hi), ?_⟩
        exact ((frm_two HF.out _ _).trans (Frm.alloc Nowhere _ _) fun _ _ h => h).trans (Frm.drew Nowhere _) fun _ _ h => h
      · go_wp2_with fail
        go_region
        go_wp2
        refine bodyPost_ret (v := .tuple #[.string ⟨(bs.take k).toArray⟩, .agg #[.slice (Option.map (fun x => x.add k) a) (L - k) (c - k), .bool false]]) (by simp [results, Try.results35, go_sem, hc, hz1]) rfl ⟨_, _, _, some (bs.drop k), rfl, ST.out, ⟨rfl, ?_⟩, ?_, ?_⟩
        · have hd := HR.out.drop HL.out k hk
          have hfr : Frm (Only (w.heap.size + 1)) w1 (((((w1.setCell ⟨w.heap.size + 1, 0, none⟩ (.slice (Option.map (fun x => x.add k) a) (L - k) (c - k))).setCell ⟨w.heap.size + 1, 1, none⟩ (.bool false)).alloc (.cells #[.slice a L c, .bool false] 64)).drew)) :=
            (((only_set w1 _ 0 _).trans (only_set _ _ 1 _) fun _ _ h => h).trans (Frm.alloc _ _ _) fun _ _ h => h).trans (Frm.drew (Only (w.heap.size + 1)) _) fun _ _ h => h
          refine hd.keepIf hfr fun _ i hi hs => ?_
          have h1 := HO.out i ((own_map a k _ _ L c) ▸ hi)
          have h2 := rst_lt HH.out HS.out i h1
          have h3 : i = w.heap.size + 1 := hs
          omega
        · exact fun i hi => HO.out i ((own_map a k _ _ L c) ▸ hi)
        · exact ((frm_two HF.out _ _).trans (Frm.alloc Nowhere _ _) fun _ _ h => h).trans (Frm.drew Nowhere _) fun _ _ h => h
    · have hn' : n < 0 ∨ (bs.length : Int) < n := by omega
      rcases hn' with h0 | h0
      all_goals
        clear hn
        go_wp2
        exact bodyPost_ret (v := .tuple #[.string ⟨#[]⟩, .agg #[.slice none 0 0, .bool true]]) (by simp [results, Try.results35, go_sem, hc, hz1]) rfl ⟨_, _, _, none, rfl, ⟨n, some bs, HS.out, .inr ⟨by omega, rfl, rfl⟩⟩, ⟨rfl, rfl⟩, SubV.nil _, (frm_two HF.out _ _).trans (Frm.alloc Nowhere _ _) fun _ _ h => h⟩

end Go.Proofs.Ytclihppeaikhiaa
