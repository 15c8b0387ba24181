/- Words for the law PackBack: R9Same, Awake16, PackBytes, Put16, PackPuts, R16o, VecEq, Get16a. -/
import Derived.Test.YtggfoihfenlckaaGreatPackBackG3
import Derived.Test.YtggfoihfenlckaaGreatPackBackG10
import Derived.Test.YtggfoihfenlckaaGreatPackBackG11
import Derived.Test.YtggfoihfenlckaaGreatPackBackG13
import Derived.Test.YtggfoihfenlckaaGreatPackBackG14
import Derived.Test.YtggfoihfenlckaaGreatPackBackG19
import Derived.Test.YtggfoihfenlckaaGreatPackBackG20
import Derived.Test.YtggfoihfenlckaaGreatPackBackG21
import Derived.Test.YtggfoihfenlckaaGreatPackBackG22
import Derived.Test.YtggfoihfenlckaaGreatPackBackG23
import Derived.ChangeKeysEq
set_option linter.unusedSimpArgs false
set_option linter.unusedVariables false
/- tributaryref09: Same: the walk. -/
namespace Go.Proofs.YtggfoihfenlckaaGreat
open Go.RowKit
set_option maxHeartbeats 4000000 in
set_option maxRecDepth 1000000 in
theorem r9Same_any (Q Q' : Nat → Prop) (es : List Ent) (ks : KidsL) (c : CtxL) (es' : List Ent) (ks' : KidsL) (c' : CtxL) (w : World) (ev kv cv ev' kv' cv' : Value) (h : CauAt Q w ev kv cv es ks c) (hok : CauOk es ks c) (h' : CauAt Q' w ev' kv' cv' es' ks' c') (hok' : CauOk es' ks' c') :
    Calls Tryz.prog 29 #[.agg #[ev, kv, cv], .agg #[ev', kv', cv']] w fun e w' => e = .returned (.bool (tf ((es = es' ∧ ks = ks') ∧ c = c'))) ∧ Frm NoS w w' := by
  obtain ⟨a0, c0, a1, c1, a2, c2, rfl, rfl, rfl⟩ := h.shape
  obtain ⟨b0, d0, b1, d1, b2, d2, rfl, rfl, rfl⟩ := h'.shape
  have HT := Lib.hid (fun W (f : Frm NoS w W) => r8Same_any Q Q' _ es ks es' ks' W _ _ _ _ (Nat.lt_succ_self _) (h.tree.keep0 f) (h'.tree.keep0 f) (Nat.le_trans hok.small (by decide)) (Nat.le_trans hok'.small (by decide)))
  have hde : decide (c = c') = tf (c = c') := tf_bool (by rw [decide_eq_true_iff])
  have HC := Lib.hid (fun W (f : Frm NoS w W) => hde ▸ r7Same_any W _ _ c c' (Rd.keep0 h.ctx f) (Rd.keep0 h'.ctx f) (Nat.le_trans hok.len (by decide)) (Nat.le_trans hok'.len (by decide)))
  clear h hok h' hok' hde
  by_cases r3 : es = es' ∧ ks = ks'
  rotate_left 1
  · rw [tf_false r3] at HT
    rw [tf_false fun h => r3 h.1]
    clear r3 HC
    generalize es.length = n at *
    generalize ks.len = m at *
    generalize c.length = k at *
    generalize es'.length = n' at *
    generalize ks'.len = m' at *
    generalize c'.length = k' at *
    have HFB := Lib.hid ((Frm.alloc NoS w (.cells #[.slice a0 n c0, .slice a1 m c1, .slice a2 k c2] 37)).alloc1 (o := .cells #[.slice b0 n' d0, .slice b1 m' d1, .slice b2 k' d2] 37))
    have HBX := Lib.hid (pair3 w (.slice a0 n c0) (.slice a1 m c1) (.slice a2 k c2) (.slice b0 n' d0) (.slice b1 m' d1) (.slice b2 k' d2) 37)
    go_enter Tryz.func29, Tryz.ntmps29
    go_wp2_with (first
      | (go_at_call 27; go_loud (refine (HT.out _ HFB.out).mono ?_; rintro e w1 ⟨rfl, hw1⟩; obtain ⟨y0, y1, y2, y3, y4, y5⟩ := HBX.out w1 hw1; have HW1 := Lib.hid hw1; clear hw1)))
    go_ret
    exact ⟨rfl, HFB.out.then1 HW1.out⟩
  rw [tf_true r3] at HT
  have hall : tf ((es = es' ∧ ks = ks') ∧ c = c') = tf (c = c') := tf_congr ⟨fun h => h.2, fun h => ⟨r3, h⟩⟩
  rw [hall]
  clear hall r3
  generalize tf (c = c') = y at *
  generalize es.length = n at *
  generalize ks.len = m at *
  generalize c.length = k at *
  generalize es'.length = n' at *
  generalize ks'.len = m' at *
  generalize c'.length = k' at *
  have HFB := Lib.hid ((Frm.alloc NoS w (.cells #[.slice a0 n c0, .slice a1 m c1, .slice a2 k c2] 37)).alloc1 (o := .cells #[.slice b0 n' d0, .slice b1 m' d1, .slice b2 k' d2] 37))
  have HBX := Lib.hid (pair3 w (.slice a0 n c0) (.slice a1 m c1) (.slice a2 k c2) (.slice b0 n' d0) (.slice b1 m' d1) (.slice b2 k' d2) 37)
  go_enter Tryz.func29, Tryz.ntmps29
  go_wp2_with (first
    | (go_at_call 27; go_loud (refine (HT.out _ HFB.out).mono ?_; rintro e w1 ⟨rfl, hw1⟩; obtain ⟨y0, y1, y2, y3, y4, y5⟩ := HBX.out w1 hw1; have HW1 := Lib.hid hw1; clear hw1))
    | (go_at_call 25; go_loud (refine (HC.out _ (HFB.out.then1 HW1.out)).mono ?_; rintro e w2 ⟨rfl, hw2⟩; have HW2 := Lib.hid (HW1.out.then1 hw2); clear hw2)))
  go_ret
  exact ⟨rfl, HFB.out.then1 HW2.out⟩
end Go.Proofs.YtggfoihfenlckaaGreat
/- tributarylaw16: awake: the walk. -/
namespace Go.Proofs.YtggfoihfenlckaaGreat
open Go.RowKit
theorem kbytes_any (w : World) (ev kv cv : Value) (h : CauAt (fun _ => True) w ev kv cv kEs kKs kC) :
    Calls Tryz.prog 46 #[.agg #[ev, kv, cv]] w fun e w' => ∃ a c, e = .returned (.tuple #[.slice a kB.length c, .int .i64 0]) ∧ Copy w (.slice a kB.length c) kB w' :=
  (pBytes_any (fun _ => True) kEs kKs kC w ev kv cv h kOk).mono fun e w' ⟨h1, _, _⟩ => by
    obtain ⟨v, k, he, hend⟩ := h1 kRight
    rw [kBytes] at hend
    unfold EndIs at hend
    rw [if_pos (by decide)] at hend
    obtain ⟨rfl, hcp⟩ := hend
    obtain ⟨a, c, rfl⟩ := hcp.shape
    exact ⟨a, c, he, hcp⟩
theorem kread_any (w : World) (v : Value) (h : Rd w v kB.length (bV kB)) :
    Calls Tryz.prog 48 #[v] w fun e w' => ∃ ev kv cv, e = .returned (.tuple #[.agg #[ev, kv, cv], .int .i64 0]) ∧ CauAt (fun _ => True) w' ev kv cv kEs kKs kC ∧ Frm NoS w w' :=
  (pRead_any v kB kEs kKs kC (some []) w h (by have h0 := CauRes.make [] kRight; rw [List.append_nil, kBytes] at h0; exact h0) (by decide)).mono fun e w' hp => by
    obtain ⟨ev, kv, cv, he, ht, hc⟩ := hp.yes rfl
    exact ⟨ev, kv, cv, he, ⟨ht.turn fun b _ _ => ⟨rfl, trivial⟩, hc.at_⟩, hp.frm⟩
set_option maxHeartbeats 4000000 in
set_option maxRecDepth 1000000 in
theorem awake16_any (w : World) : Calls Tryz.prog 11 #[] w fun e w' => e = .returned (.bool true) ∧ Frm NoS w w' := by
  have HSM := Lib.hid (fun W ev kv cv ev' kv' cv' (h : CauAt (fun _ => True) W ev kv cv kEs kKs kC) (h' : CauAt (fun _ => True) W ev' kv' cv' kEs kKs kC) => tf_true (⟨⟨rfl, rfl⟩, rfl⟩ : (kEs = kEs ∧ kKs = kKs) ∧ kC = kC) ▸ r9Same_any (fun _ => True) (fun _ => True) kEs kKs kC kEs kKs kC W ev kv cv ev' kv' cv' h kOk h' kOk)
  go_enter Tryz.func11, Tryz.ntmps11
  go_wp2_with (first
    | (go_at_call 47; go_loud (refine (known16_any _).mono ?_); rintro e w1 ⟨ev1, kv1, cv1, rfl, hc1, hf1⟩; obtain ⟨a0, c0, a1, c1, a2, c2, rfl, rfl, rfl⟩ := hc1.shape; have HC1 := Lib.hid hc1; clear hc1; have HF1 := Lib.hid hf1; clear hf1)
    | (go_at_call 46; go_loud (refine (kbytes_any _ _ _ _ HC1.out).mono ?_); rintro e w2 ⟨a3, c3, rfl, cp2⟩; have HF2 := Lib.hid (HF1.out.then1 cp2.frm); have HP2 := Lib.hid cp2; clear cp2)
    | (go_at_call 48; go_loud (refine (kread_any _ _ HP2.out.rd).mono ?_); rintro e w3 ⟨ev3, kv3, cv3, rfl, hc3, hf3⟩; obtain ⟨b0, d0, b1, d1, b2, d2, rfl, rfl, rfl⟩ := hc3.shape; have HC3 := Lib.hid hc3; clear hc3; have HF3 := Lib.hid (HF2.out.then1 hf3); have HP3 := Lib.hid (HP2.out.step hf3); clear hf3))
  have hx := heap_alloc_new w3 (.cells #[.slice b0 kEs.length d0, .slice b1 kKs.len d1, .slice b2 kC.length d2] 37)
  have hwa : Frm NoS w3 (w3.alloc (.cells #[.slice b0 kEs.length d0, .slice b1 kKs.len d1, .slice b2 kC.length d2] 37)) := Frm.alloc _ _ _
  generalize w3.alloc (.cells #[.slice b0 kEs.length d0, .slice b1 kKs.len d1, .slice b2 kC.length d2] 37) = WA at *
  have hlb := lt_of_block hx
  refine wp_region_G (S := fun w' => Frm NoS WA w' ∧ w'.cell? ⟨w3.heap.size, 0, none⟩ = some (.slice b0 kEs.length d0) ∧ w'.cell? ⟨w3.heap.size, 1, none⟩ = some (.slice b1 kKs.len d1) ∧ w'.cell? ⟨w3.heap.size, 2, none⟩ = some (.slice b2 kC.length d2)) 16 (by kernel_rfl) ⟨Frm.drew NoS WA, cell_at' hx 0 rfl, cell_at' hx 1 rfl, cell_at' hx 2 rfl⟩ ?_
  intro hS
  have HWA := Lib.hid hwa; clear hwa hx
  generalize WA.drew = Y0 at *
  have hcv : (convert 25 9 (.slice a3 kB.length c3)).run Tryz.prog Y0 = .ok (.string ⟨#[2, 2, 2, 2, 97, 6, 0, 2, 2, 2, 2]⟩) Y0 := conv_str ((HP3.out.step HWA.out).step hS.1).rd
  refine take_opG 0 15 (v := ?_) rfl rfl (by kernel_rfl) (by kernel_rfl) (by decide) (by kernel_rfl) (by kernel_rfl) (fun _ _ _ h => h) (Or.inl ⟨by rfl, ?_⟩) (by assumption) ?_
  rotate_left 1
  · (intro w hSw; (try dsimp only at hSw); go_simp; (try with_reducible rfl))
  try simp only [Act.put, List.setIfInBounds_toArray, List.set_cons_zero, List.set_cons_succ]
  refine take_opG 1 16 (v := ?_) rfl rfl (by kernel_rfl) (by kernel_rfl) (by decide) (by kernel_rfl) (by kernel_rfl) (fun _ _ _ h => h) (Or.inl ⟨by rfl, ?_⟩) (by assumption) ?_
  rotate_left 1
  · (intro w hSw; (try dsimp only at hSw); go_simp; (try with_reducible rfl))
  try simp only [Act.put, List.setIfInBounds_toArray, List.set_cons_zero, List.set_cons_succ]
  refine take_opG 2 17 (v := ?_) rfl rfl (by kernel_rfl) (by kernel_rfl) (by decide) (by kernel_rfl) (by kernel_rfl) (fun _ _ _ h => h) (Or.inl ⟨by rfl, ?_⟩) (by assumption) ?_
  rotate_left 1
  · (intro w hSw; (try dsimp only at hSw); go_simp; (try with_reducible rfl))
  try simp only [Act.put, List.setIfInBounds_toArray, List.set_cons_zero, List.set_cons_succ]
  refine take_opG 3 18 (v := ?_) rfl rfl (by kernel_rfl) (by kernel_rfl) (by decide) (by kernel_rfl) (by kernel_rfl) (fun _ _ _ h => h) (Or.inl ⟨by rfl, ?_⟩) (by assumption) ?_
  rotate_left 1
  · (intro w hSw; (try dsimp only at hSw); go_simp; (try with_reducible rfl))
  try simp only [Act.put, List.setIfInBounds_toArray, List.set_cons_zero, List.set_cons_succ]
  refine take_opG 4 19 (v := ?_) rfl rfl (by kernel_rfl) (by kernel_rfl) (by decide) (by kernel_rfl) (by kernel_rfl) (fun _ _ _ h => h) (Or.inl ⟨by rfl, ?_⟩) (by assumption) ?_
  rotate_left 1
  · (intro w hSw; (try dsimp only at hSw); go_simp; (try with_reducible rfl))
  try simp only [Act.put, List.setIfInBounds_toArray, List.set_cons_zero, List.set_cons_succ]
  refine take_opG 5 20 (v := ?_) rfl rfl (by kernel_rfl) (by kernel_rfl) (by decide) (by kernel_rfl) (by kernel_rfl) (fun _ _ _ h => h) (Or.inl ⟨by rfl, ?_⟩) (by assumption) ?_
  rotate_left 1
  · (intro w hSw; (try dsimp only at hSw); go_simp; (try with_reducible rfl))
  try simp only [Act.put, List.setIfInBounds_toArray, List.set_cons_zero, List.set_cons_succ]
  refine take_opG 6 21 (v := ?_) rfl rfl (by kernel_rfl) (by kernel_rfl) (by decide) (by kernel_rfl) (by kernel_rfl) (fun _ _ _ h => h) (Or.inl ⟨by rfl, ?_⟩) (by assumption) ?_
  rotate_left 1
  · (intro w hSw; (try dsimp only at hSw); go_simp; (try with_reducible rfl))
  try simp only [Act.put, List.setIfInBounds_toArray, List.set_cons_zero, List.set_cons_succ]
  refine take_opG 7 22 (v := ?_) rfl rfl (by kernel_rfl) (by kernel_rfl) (by decide) (by kernel_rfl) (by kernel_rfl) (fun _ _ _ h => h) (Or.inl ⟨by rfl, ?_⟩) (by assumption) ?_
  rotate_left 1
  · (intro w hSw; (try dsimp only at hSw); go_simp; (try with_reducible rfl))
  try simp only [Act.put, List.setIfInBounds_toArray, List.set_cons_zero, List.set_cons_succ]
  refine one_opG (i := 8) (by kernel_rfl) rfl (fun K hK => ?_)
  go_simp
  refine hK.out _ _ hS ?_
  clear hK K hcv
  try simp only [Act.put, List.setIfInBounds_toArray, List.set_cons_zero, List.set_cons_succ]
  refine take_opG 9 24 (v := ?_) rfl rfl (by kernel_rfl) (by kernel_rfl) (by decide) (by kernel_rfl) (by kernel_rfl) (fun _ _ _ h => h) (Or.inl ⟨by rfl, ?_⟩) (by assumption) ?_
  rotate_left 1
  · (intro w hSw; (try dsimp only at hSw); go_simp; (try with_reducible rfl))
  try simp only [Act.put, List.setIfInBounds_toArray, List.set_cons_zero, List.set_cons_succ]
  refine take_opG 10 25 (v := ?_) rfl rfl (by kernel_rfl) (by kernel_rfl) (by decide) (by kernel_rfl) (by kernel_rfl) (fun _ _ _ h => h) (Or.inl ⟨by rfl, ?_⟩) (by assumption) ?_
  rotate_left 1
  · (intro w hSw; (try dsimp only at hSw); go_simp; (try with_reducible rfl))
  try simp only [Act.put, List.setIfInBounds_toArray, List.set_cons_zero, List.set_cons_succ]
  refine take_opG 11 26 (v := ?_) rfl rfl (by kernel_rfl) (by kernel_rfl) (by decide) (by kernel_rfl) (by kernel_rfl) (fun _ _ _ h => h) (Or.inl ⟨by rfl, ?_⟩) (by assumption) ?_
  rotate_left 1
  · (intro w hSw; (try dsimp only at hSw); go_simp; (try with_reducible rfl))
  try simp only [Act.put, List.setIfInBounds_toArray, List.set_cons_zero, List.set_cons_succ]
  refine take_opG 12 27 (v := ?_) rfl rfl (by kernel_rfl) (by kernel_rfl) (by decide) (by kernel_rfl) (by kernel_rfl) (fun _ _ _ h => h) (Or.inl ⟨by rfl, ?_⟩) (by assumption) ?_
  rotate_left 1
  · (intro w hSw; (try dsimp only at hSw); go_simp; (try with_reducible rfl))
  try simp only [Act.put, List.setIfInBounds_toArray, List.set_cons_zero, List.set_cons_succ]
  refine one_opG (i := 13) (by kernel_rfl) rfl (fun K hK => ?_)
  go_simp
  refine (known16_any _).mono ?_
  rintro e1 Y1 ⟨ev4, kv4, cv4, rfl, hc4, hf4⟩
  obtain ⟨g0, j0, g1, j1, g2, j2, rfl, rfl, rfl⟩ := hc4.shape
  have hS1 : Frm NoS WA Y1 ∧ Y1.cell? ⟨w3.heap.size, 0, none⟩ = some (.slice b0 kEs.length d0) ∧ Y1.cell? ⟨w3.heap.size, 1, none⟩ = some (.slice b1 kKs.len d1) ∧ Y1.cell? ⟨w3.heap.size, 2, none⟩ = some (.slice b2 kC.length d2) := ⟨hS.1.then1 hf4, hf4.cell' hS.2.1 id, hf4.cell' hS.2.2.1 id, hf4.cell' hS.2.2.2 id⟩
  refine hK.out _ _ hS1 ?_
  clear hK K hS hf4
  have HC4 := Lib.hid hc4; clear hc4
  try simp only [Act.put, List.setIfInBounds_toArray, List.set_cons_zero, List.set_cons_succ]
  refine one_opG (i := 14) (by kernel_rfl) rfl (fun K hK => ?_)
  go_simp
  refine (HSM.out _ _ _ _ _ _ _ (HC3.out.keep0 (HWA.out.then1 hS1.1)) HC4.out).mono ?_
  rintro e2 Y2 ⟨rfl, hf5⟩
  have hS2 : Frm NoS WA Y2 ∧ Y2.cell? ⟨w3.heap.size, 0, none⟩ = some (.slice b0 kEs.length d0) ∧ Y2.cell? ⟨w3.heap.size, 1, none⟩ = some (.slice b1 kKs.len d1) ∧ Y2.cell? ⟨w3.heap.size, 2, none⟩ = some (.slice b2 kC.length d2) := ⟨hS1.1.then1 hf5, hf5.cell' hS1.2.1 id, hf5.cell' hS1.2.2.1 id, hf5.cell' hS1.2.2.2 id⟩
  refine hK.out _ _ hS2 ?_
  clear hK K hS1 hf5
  try simp only [Act.put, List.setIfInBounds_toArray, List.set_cons_zero, List.set_cons_succ]
  refine take_opG 15 30 (v := ?_) rfl rfl (by kernel_rfl) (by kernel_rfl) (by decide) (by kernel_rfl) (by kernel_rfl) (fun _ _ _ h => h) (Or.inl ⟨by rfl, ?_⟩) (by assumption) ?_
  rotate_left 1
  · (intro w hSw; (try dsimp only at hSw); go_simp; (try with_reducible rfl))
  try simp only [Act.put, List.setIfInBounds_toArray, List.set_cons_zero, List.set_cons_succ]
  refine last_opG (by kernel_rfl) (by kernel_rfl) rfl (fun K hK => ?_)
  go_simp
  refine hK.out _ _ ?_
  clear hK K
  go_wp2
  go_ret
  exact ⟨rfl, (HF3.out.then1 HWA.out).then1 hS2.1⟩
end Go.Proofs.YtggfoihfenlckaaGreat
/- The law PackBytes: its walk. -/
namespace Go.Proofs.YtggfoihfenlckaaGreat
open Go.RowKit
theorem cau_small {es : List Ent} {ks : KidsL} {c : CtxL} (hok : TrOk es ks) (hf : FitsC c) (h : (decide (0 ≤ roomT es ks 40 8) && decide ((c.length : Int) ≤ 40)) = true) : CauOk es ks c ∧ sizeT es ks ≤ 40 ∧ c.length ≤ 40 := by
  simp only [Bool.and_eq_true, decide_eq_true_iff] at h
  have := roomT_size h.1
  exact ⟨⟨hok, by omega, hf, by omega⟩, by omega, by omega⟩
end Go.Proofs.YtggfoihfenlckaaGreat
/- tributarylaw16: put: the walk. Printed by wip/put16gen.py. -/
namespace Go.Proofs.YtggfoihfenlckaaGreat
open Go.RowKit
theorem RdQ.old {w : World} {v : Value} {n : Nat} {xs : List Value} (h : Rd w v n xs) : RdQ (fun b => b < w.heap.size) w v n xs := ⟨h, fun hx k hk => by
  rcases h with ⟨ad, h1, h2, h3⟩ | ⟨b, off, c, rfl, h2, h3, h4⟩
  · exact absurd h3 hx
  · simp [Value.ownBlock] at hk
    subst hk
    cases xs with
    | nil => exact absurd rfl hx
    | cons x xs => exact World.block_lt_of_cell? _ _ (h4 0 x rfl)⟩
theorem r16Op_any (ss : List ByteArray) (a n : Int) (s : ByteArray) (w : World) (v : Value) (h : StrsAt w v ss) (hl : ss.length ≤ 100000) (hsz : s.size ≤ 9223372036854775807) :
    Calls Tryz.prog 58 #[.agg #[v, .int .i64 a, .string s, .int .i64 n]] w (Ret w (opY ss a s n)) := by
  cases hb : opB ss a s n with
  | true => exact r16Op_yes ss a n s w v h hl hsz hb
  | false => exact r16Op_no ss a n s w v h hl hsz hb
theorem pPutOp_any (Q : Nat → Prop) (ob : Nat) (w : World) (v : Value) (bs : List UInt8) (pv : Value) (ss : List ByteArray) (a n : Int) (s : ByteArray) (ho : OutAt w ob v bs) (hc : RdQ Q w pv ss.length (ss.map Value.string)) (hq : ∀ b, OutS ob v b → ¬ Q b) (hl : ss.length ≤ 100000) (hb : bs.length ≤ 80000000) :
    Calls Tryz.prog 57 #[.pointer (some ⟨ob, 0, none⟩), .agg #[pv, .int .i64 a, .string s, .int .i64 n]] w fun e w' => e = .returned (.tuple #[]) ∧ Put1 w ob v bs (opY ss a s n) w' := by
  unfold opY
  cases hr : opB ss a s n with
  | true => exact pPutOp_yes Q ob w v bs pv ss a n s ho hc hq hl hb hr
  | false => exact pPutOp_no Q ob w v bs pv ss a n s ho hc hl hb hr
theorem pPutVec_all (ob : Nat) (w : World) (v : Value) (bs : List UInt8) (v0 v1 v2 v3 : Int) (ho : OutAt w ob v bs) (hb : bs.length ≤ 80000000) :
    Calls Tryz.prog 59 #[.pointer (some ⟨ob, 0, none⟩), .agg #[.int .i64 v0, .int .i64 v1, .int .i64 v2, .int .i64 v3]] w fun e w' => e = .returned (.tuple #[]) ∧ Put1 w ob v bs (vecB v0 v1 v2 v3) w' :=
  (pPutVector_any ob w v bs v0 v1 v2 v3 ho hb).mono fun e w' ⟨he, h1, h2⟩ => ⟨he, by
    unfold vecB
    by_cases hm : MayV (vecF v0 v1 v2 v3)
    · rw [if_pos (tf_true hm)]; exact h1 hm
    · rw [if_neg (by rw [tf_false hm]; decide)]; exact h2 hm⟩
/-- A thing's bytes. -/
noncomputable def thB (o : Th) : List UInt8 := if o.kind = 0 then ctxB o.c else if o.kind = 1 then treeB o.es o.ks else if o.kind = 2 then cauB o.es o.ks o.xc else if o.kind = 3 then opY o.ss o.a o.s o.n else vecB o.v0 o.v1 o.v2 o.v3
/-- So much was put, and is handed out. -/
def PutTh (W : World) (ob : Nat) (v : Value) (bs cs : List UInt8) (e : Ending) (w' : World) : Prop := ∃ w1, Put1 W ob v bs cs w1 ∧ Ret w1 cs e w'
structure Th.Ok (o : Th) : Prop where
  c60 : o.c.length ≤ 60
  cau : CauOk o.es o.ks o.xc
  sz : sizeT o.es o.ks ≤ 40
  xl : o.xc.length ≤ 40
  pl : o.ss.length ≤ 9
  s99 : o.s.size ≤ 99
  p99 : ∀ x ∈ o.ss, x.size ≤ 99
theorem Th.ok {o : Th} (hf : ThFit o) (h : o.small = true) : o.Ok := by
  unfold Th.small shortB at h
  simp only [Bool.and_eq_true] at h
  obtain ⟨h1, h2, h3, h4, h5⟩ := h
  obtain ⟨g1, g2, g3⟩ := cau_small hf.tr hf.xf (by simp only [Bool.and_eq_true]; exact h2)
  refine ⟨of_decide_eq_true h1, g1, g2, g3, of_decide_eq_true h3, of_decide_eq_true h4, fun x hx => ?_⟩
  by_cases hy : x.size ≤ 99
  · exact hy
  · have : o.ss.any longS = true := List.any_eq_true.2 ⟨x, hx, decide_eq_true (by omega)⟩
    rw [this] at h5
    cases h5
theorem opY_le {ss : List ByteArray} {a n : Int} {s : ByteArray} : (opY ss a s n).length ≤ 200 := by
  have z := numB_le10 (v := 0) (by decide) (by decide)
  unfold opY
  cases hb : opB ss a s n with
  | true =>
    rw [if_pos rfl]
    obtain ⟨⟨_, g1⟩, g2, ⟨g3, g4⟩, g5, g6, g7⟩ := opB_bd hb
    have h1 := encP_leR g2 ss.length
    rw [List.take_length] at h1
    have h2 := numN_le (n := ss.length) (by omega)
    have h3 := numB_le10 (v := a) (by omega) (by omega)
    have h4 := numB_le10 (v := n) (by omega) (by omega)
    have h5 := textB_up g5
    unfold encO
    simp only [List.length_append]
    omega
  | false =>
    rw [if_neg (by decide)]
    have h5 := textB_up (s := ByteArray.empty) (by decide)
    have z0 : (numB ((0 : Nat) : Int)).length ≤ 10 := z
    unfold encO encP
    simp only [List.length_append, List.flatMap_nil, List.length_nil]
    omega
theorem vecB_le {v0 v1 v2 v3 : Int} : (vecB v0 v1 v2 v3).length ≤ 40 := by
  unfold vecB
  have z := numB_le10 (v := 0) (by decide) (by decide)
  by_cases hm : MayV (vecF v0 v1 v2 v3)
  · rw [if_pos (tf_true hm)]
    have g0 : 0 ≤ v0 ∧ v0 ≤ 1099511627776 := hm 0 (by decide) (by decide)
    have g1 : 0 ≤ v1 ∧ v1 ≤ 1099511627776 := hm 1 (by decide) (by decide)
    have g2 : 0 ≤ v2 ∧ v2 ≤ 1099511627776 := hm 2 (by decide) (by decide)
    have g3 : 0 ≤ v3 ∧ v3 ≤ 1099511627776 := hm 3 (by decide) (by decide)
    have h0 := numB_le10 (v := v0) (by omega) (by omega)
    have h1 := numB_le10 (v := v1) (by omega) (by omega)
    have h2 := numB_le10 (v := v2) (by omega) (by omega)
    have h3 := numB_le10 (v := v3) (by omega) (by omega)
    unfold encV
    simp only [List.length_append]
    omega
  · rw [if_neg (by rw [tf_false hm]; decide)]
    unfold encV
    simp only [List.length_append]
    omega
theorem thB_le {o : Th} (h : o.Ok) : (thB o).length ≤ 5000 := by
  unfold thB
  split
  · unfold ctxB
    by_cases hr : RightC o.c
    · rw [if_pos (tf_true hr)]
      have := encC_le hr (by have := h.c60; omega)
      have := h.c60
      omega
    · rw [if_neg (by rw [tf_false hr]; decide)]
      have h0 : (encC []).length ≤ 10 := by rw [encC_nil]; exact numB_le10 (by decide) (by decide)
      omega
  · split
    · unfold treeB
      cases hr : rightT 5 o.es o.ks with
      | true => rw [if_pos rfl]; have := encT_le hr (by have := h.sz; omega); have := h.sz; omega
      | false => rw [if_neg (by decide)]; exact Nat.le_trans (encT_le right_nilT (by decide)) (by decide)
    · split
      · unfold cauB
        by_cases hr : CauRight o.es o.ks o.xc
        · rw [if_pos (tf_true hr)]
          have h1 := encT_le hr.tree (by have := h.sz; omega)
          have h2 := encC_le hr.ctx (by have := h.xl; omega)
          have := h.sz
          have := h.xl
          unfold encX
          rw [List.length_append]
          omega
        · rw [if_neg (by rw [tf_false hr]; decide)]
          have h1 := encT_le right_nilT (by decide)
          have h0 : (encC []).length ≤ 10 := by rw [encC_nil]; exact numB_le10 (by decide) (by decide)
          have h3 : sizeT [] KidsL.nil = 0 := rfl
          unfold encX
          rw [List.length_append]
          omega
      · split
        · exact Nat.le_trans opY_le (by decide)
        · exact Nat.le_trans vecB_le (by decide)
set_option maxHeartbeats 8000000 in
set_option maxRecDepth 1000000 in
theorem put16_any (w0 : World) (o : Th) (h : ThAt w0 o) (hfit : ThFit o) (hok : o.Ok) (W : World) (f : Frm NoS w0 W) (ob : Nat) (v : Value) (bs : List UInt8) (ho : OutAt W ob v bs) (hnew : ∀ b, OutS ob v b → w0.heap.size ≤ b) (hl : bs.length ≤ 1000000) :
    Calls Tryz.prog 13 #[.pointer (some ⟨ob, 0, none⟩), .agg #[.int .u8 o.kind, o.cv, o.ev, o.kv, o.xv, o.pv, .int .i64 o.a, .string o.s, .int .i64 o.n, .int .i64 o.v0, .int .i64 o.v1, .int .i64 o.v2, .int .i64 o.v3]] W (PutTh W ob v bs (thB o)) := by
  obtain ⟨kind, cv, ev, kv, xv, pv, a, s, n, v0, v1, v2, v3, c, es, ks, xc, ss⟩ := o
  obtain ⟨hc, hx, hp⟩ := h
  obtain ⟨hcf, -, -, -, -, hsl⟩ := hfit
  have h60 := hok.c60
  have hco := hok.cau
  have hpl := hok.pl
  clear hok
  dsimp only at hc hx hp hcf hsl h60 hco hpl
  obtain ⟨WB, hWB⟩ : ∃ X, X = W.alloc (.cells #[.int .u8 kind, cv, ev, kv, xv, pv, .int .i64 a, .string s, .int .i64 n, .int .i64 v0, .int .i64 v1, .int .i64 v2, .int .i64 v3] 44) := ⟨_, rfl⟩
  have fB : Frm NoS W WB := by rw [hWB]; exact Frm.alloc _ _ _
  have HOB := Lib.hid (ho.keep0 fB)
  have hnb : ¬ OutS ob v W.heap.size := fun hs => Nat.lt_irrefl _ (outS_lt ho _ hs)
  have hbx : WB.heap[W.heap.size]? = some (.cells #[.int .u8 kind, cv, ev, kv, xv, pv, .int .i64 a, .string s, .int .i64 n, .int .i64 v0, .int .i64 v1, .int .i64 v2, .int .i64 v3] 44 (0, 0)) := by rw [hWB]; exact heap_alloc_new W _
  have hbw : ∀ w1 cs, Put1 WB ob v bs cs w1 → w1.heap[W.heap.size]? = some (.cells #[.int .u8 kind, cv, ev, kv, xv, pv, .int .i64 a, .string s, .int .i64 n, .int .i64 v0, .int .i64 v1, .int .i64 v2, .int .i64 v3] 44 (0, 0)) ∧ Frm NoS w0 w1 ∧ Put1 W ob v bs cs w1 := fun w1 cs hp => by
    have hp' := hp.base fB
    obtain ⟨_, _, _, h3⟩ := hp
    exact ⟨h3.blk hbx hnb, (f.then1 fB).trans h3 fun i hi hs => absurd (hnew i hs) (by omega), hp'⟩
  have HBW := Lib.hid hbw; clear hbw
  have f0B := f.then1 fB
  have HF0 := Lib.hid f0B; clear f0B
  have hq : ∀ b, OutS ob v b → ¬ b < w0.heap.size := fun b hb hlt => by have := hnew b hb; omega
  have HCQ := Lib.hid ((RdQ.old hc).keep (f.then1 fB) fun _ _ hs => hs.elim)
  have HPQ := Lib.hid ((RdQ.old hp).keep (f.then1 fB) fun _ _ hs => hs.elim)
  have HQ := Lib.hid hq; clear hq
  have HX := Lib.hid (fun w1 (f : Frm NoS w0 w1) => hx.keep0 f)
  have HC := Lib.hid (fun w1 (f : Frm NoS w0 w1) => (show CtxAt w1 cv c from Rd.keep0 hc f))
  have HP := Lib.hid (fun w1 (f : Frm NoS w0 w1) => hp.keep0 f)
  have x0 := cell_at' hbx 0 rfl
  have x1 := cell_at' hbx 1 rfl
  have x2 := cell_at' hbx 2 rfl
  have x3 := cell_at' hbx 3 rfl
  have x4 := cell_at' hbx 4 rfl
  have x5 := cell_at' hbx 5 rfl
  have x6 := cell_at' hbx 6 rfl
  have x7 := cell_at' hbx 7 rfl
  have x8 := cell_at' hbx 8 rfl
  have x9 := cell_at' hbx 9 rfl
  have x10 := cell_at' hbx 10 rfl
  have x11 := cell_at' hbx 11 rfl
  have x12 := cell_at' hbx 12 rfl
  have hbl := lt_of_block hbx
  obtain ⟨a5, c5, rfl⟩ := Rd.sl hc
  obtain ⟨a1, c1, a2, c2, a3, c3, rfl, rfl, rfl⟩ := hx.shape
  obtain ⟨a6, c6, rfl⟩ := hp.sl
  clear hc hx hp fB ho hnb hbx f hnew
  have HHC := Lib.hid hcf; clear hcf
  have HHX := Lib.hid hco; clear hco
  subst hWB
  unfold PutTh thB
  dsimp only
  go_enter Tryz.func13, Tryz.ntmps13
  by_cases h0 : kind = 0
  · subst h0
    rw [if_pos rfl]
    have HA := Lib.hid (pPutCtx_any (fun b => b < w0.heap.size) ob _ v bs _ c HOB.out HCQ.out HQ.out HHC.out (by omega) (by omega))
    have HB := Lib.hid (fun w1 (HF1 : Hid (Frm NoS w0 w1)) => r16Ctx_any w1 _ c (HC.out _ HF1.out) HHC.out (by omega))
    clear HOB HCQ HPQ HQ HX HC HP HHC HHX hsl
    generalize ctxB c = bb at *
    generalize c.length = lc at *
    generalize es.length = les at *
    generalize ks.len = lks at *
    generalize xc.length = lxc at *
    generalize ss.length = lss at *
    go_wp2_with (first
      | (go_at_call 51; go_loud (refine HA.out.mono ?_); rintro e w1 ⟨rfl, hp1⟩; clear x0 x1 x2 x3 x4 x5 x6 x7 x8 x9 x10 x11 x12 hbl; obtain ⟨hbx, hf1, hp1⟩ := HBW.out _ _ hp1; have x0 := cell_at' hbx 0 rfl; have x1 := cell_at' hbx 1 rfl; have x2 := cell_at' hbx 2 rfl; have x3 := cell_at' hbx 3 rfl; have x4 := cell_at' hbx 4 rfl; have x5 := cell_at' hbx 5 rfl; have x6 := cell_at' hbx 6 rfl; have x7 := cell_at' hbx 7 rfl; have x8 := cell_at' hbx 8 rfl; have x9 := cell_at' hbx 9 rfl; have x10 := cell_at' hbx 10 rfl; have x11 := cell_at' hbx 11 rfl; have x12 := cell_at' hbx 12 rfl; have hbl := lt_of_block hbx; have HF1 := Lib.hid hf1; have HP1 := Lib.hid hp1; clear hbx hf1 hp1)
      | (go_at_call 52; go_loud (refine (HB.out _ HF1).mono ?_); rintro e w2 ⟨b9, c9, t9, ht9, rfl, cp9⟩; have HT9 := Lib.hid ht9; have HC9 := Lib.hid cp9; clear ht9 cp9))
    go_ret
    exact ⟨_, HP1.out, b9, c9, t9, HT9.out, rfl, HC9.out⟩
  by_cases h1 : kind = 1
  · subst h1
    rw [if_neg (by decide)]
    rw [if_pos rfl]
    have HA := Lib.hid (pPutTree_any (fun _ => True) ob _ v bs es ks _ _ HOB.out (HX.out _ HF0.out).tree HHX.out.tree (Nat.le_trans HHX.out.small (by decide)) (by omega))
    have HB := Lib.hid (fun w1 (HF1 : Hid (Frm NoS w0 w1)) => r16Tree_any (fun _ => True) es ks w1 _ _ (HX.out _ HF1.out).tree HHX.out.tree (Nat.le_trans HHX.out.small (by decide)))
    clear HOB HCQ HPQ HQ HX HC HP HHC HHX hsl
    generalize treeB es ks = bb at *
    generalize c.length = lc at *
    generalize es.length = les at *
    generalize ks.len = lks at *
    generalize xc.length = lxc at *
    generalize ss.length = lss at *
    go_wp2_with (first
      | (go_at_call 53; go_loud (refine HA.out.mono ?_); rintro e w1 ⟨rfl, hp1⟩; clear x0 x1 x2 x3 x4 x5 x6 x7 x8 x9 x10 x11 x12 hbl; obtain ⟨hbx, hf1, hp1⟩ := HBW.out _ _ hp1; have x0 := cell_at' hbx 0 rfl; have x1 := cell_at' hbx 1 rfl; have x2 := cell_at' hbx 2 rfl; have x3 := cell_at' hbx 3 rfl; have x4 := cell_at' hbx 4 rfl; have x5 := cell_at' hbx 5 rfl; have x6 := cell_at' hbx 6 rfl; have x7 := cell_at' hbx 7 rfl; have x8 := cell_at' hbx 8 rfl; have x9 := cell_at' hbx 9 rfl; have x10 := cell_at' hbx 10 rfl; have x11 := cell_at' hbx 11 rfl; have x12 := cell_at' hbx 12 rfl; have hbl := lt_of_block hbx; have HF1 := Lib.hid hf1; have HP1 := Lib.hid hp1; clear hbx hf1 hp1)
      | (go_at_call 54; go_loud (refine (HB.out _ HF1).mono ?_); rintro e w2 ⟨b9, c9, t9, ht9, rfl, cp9⟩; have HT9 := Lib.hid ht9; have HC9 := Lib.hid cp9; clear ht9 cp9))
    go_ret
    exact ⟨_, HP1.out, b9, c9, t9, HT9.out, rfl, HC9.out⟩
  by_cases h2 : kind = 2
  · subst h2
    rw [if_neg (by decide)]
    rw [if_neg (by decide)]
    rw [if_pos rfl]
    have HA := Lib.hid (pPutCausal_any (fun _ => True) ob _ v bs es ks xc _ _ _ HOB.out (HX.out _ HF0.out) HHX.out (by omega))
    have HB := Lib.hid (fun w1 (HF1 : Hid (Frm NoS w0 w1)) => r16Causal_any (fun _ => True) es ks xc w1 _ _ _ (HX.out _ HF1.out) HHX.out)
    clear HOB HCQ HPQ HQ HX HC HP HHC HHX hsl
    generalize cauB es ks xc = bb at *
    generalize c.length = lc at *
    generalize es.length = les at *
    generalize ks.len = lks at *
    generalize xc.length = lxc at *
    generalize ss.length = lss at *
    go_wp2_with (first
      | (go_at_call 55; go_loud (refine HA.out.mono ?_); rintro e w1 ⟨rfl, hp1⟩; clear x0 x1 x2 x3 x4 x5 x6 x7 x8 x9 x10 x11 x12 hbl; obtain ⟨hbx, hf1, hp1⟩ := HBW.out _ _ hp1; have x0 := cell_at' hbx 0 rfl; have x1 := cell_at' hbx 1 rfl; have x2 := cell_at' hbx 2 rfl; have x3 := cell_at' hbx 3 rfl; have x4 := cell_at' hbx 4 rfl; have x5 := cell_at' hbx 5 rfl; have x6 := cell_at' hbx 6 rfl; have x7 := cell_at' hbx 7 rfl; have x8 := cell_at' hbx 8 rfl; have x9 := cell_at' hbx 9 rfl; have x10 := cell_at' hbx 10 rfl; have x11 := cell_at' hbx 11 rfl; have x12 := cell_at' hbx 12 rfl; have hbl := lt_of_block hbx; have HF1 := Lib.hid hf1; have HP1 := Lib.hid hp1; clear hbx hf1 hp1)
      | (go_at_call 56; go_loud (refine (HB.out _ HF1).mono ?_); rintro e w2 ⟨b9, c9, t9, ht9, rfl, cp9⟩; have HT9 := Lib.hid ht9; have HC9 := Lib.hid cp9; clear ht9 cp9))
    go_ret
    exact ⟨_, HP1.out, b9, c9, t9, HT9.out, rfl, HC9.out⟩
  by_cases h3 : kind = 3
  · subst h3
    rw [if_neg (by decide)]
    rw [if_neg (by decide)]
    rw [if_neg (by decide)]
    rw [if_pos rfl]
    have HA := Lib.hid (pPutOp_any (fun b => b < w0.heap.size) ob _ v bs _ ss a n s HOB.out HPQ.out HQ.out (by omega) (by omega))
    have HB := Lib.hid (fun w1 (HF1 : Hid (Frm NoS w0 w1)) => r16Op_any ss a n s w1 _ (HP.out _ HF1.out) (by omega) hsl)
    clear HOB HCQ HPQ HQ HX HC HP HHC HHX hsl
    generalize opY ss a s n = bb at *
    generalize c.length = lc at *
    generalize es.length = les at *
    generalize ks.len = lks at *
    generalize xc.length = lxc at *
    generalize ss.length = lss at *
    go_wp2_with (first
      | (go_at_call 57; go_loud (refine HA.out.mono ?_); rintro e w1 ⟨rfl, hp1⟩; clear x0 x1 x2 x3 x4 x5 x6 x7 x8 x9 x10 x11 x12 hbl; obtain ⟨hbx, hf1, hp1⟩ := HBW.out _ _ hp1; have x0 := cell_at' hbx 0 rfl; have x1 := cell_at' hbx 1 rfl; have x2 := cell_at' hbx 2 rfl; have x3 := cell_at' hbx 3 rfl; have x4 := cell_at' hbx 4 rfl; have x5 := cell_at' hbx 5 rfl; have x6 := cell_at' hbx 6 rfl; have x7 := cell_at' hbx 7 rfl; have x8 := cell_at' hbx 8 rfl; have x9 := cell_at' hbx 9 rfl; have x10 := cell_at' hbx 10 rfl; have x11 := cell_at' hbx 11 rfl; have x12 := cell_at' hbx 12 rfl; have hbl := lt_of_block hbx; have HF1 := Lib.hid hf1; have HP1 := Lib.hid hp1; clear hbx hf1 hp1)
      | (go_at_call 58; go_loud (refine (HB.out _ HF1).mono ?_); rintro e w2 ⟨b9, c9, t9, ht9, rfl, cp9⟩; have HT9 := Lib.hid ht9; have HC9 := Lib.hid cp9; clear ht9 cp9))
    go_ret
    exact ⟨_, HP1.out, b9, c9, t9, HT9.out, rfl, HC9.out⟩
  rw [if_neg h0]
  rw [if_neg h1]
  rw [if_neg h2]
  rw [if_neg h3]
  have b0 : ((kind : Int) == 0) = false := beq_false_of_ne h0
  have b1 : ((kind : Int) == 1) = false := beq_false_of_ne h1
  have b2 : ((kind : Int) == 2) = false := beq_false_of_ne h2
  have b3 : ((kind : Int) == 3) = false := beq_false_of_ne h3
  have HA := Lib.hid (pPutVec_all ob _ v bs v0 v1 v2 v3 HOB.out (by omega))
  have HB := Lib.hid (fun w1 (HF1 : Hid (Frm NoS w0 w1)) => r16Vec_any w1 v0 v1 v2 v3)
  clear HOB HCQ HPQ HQ HX HC HP HHC HHX hsl
  generalize vecB v0 v1 v2 v3 = bb at *
  generalize c.length = lc at *
  generalize es.length = les at *
  generalize ks.len = lks at *
  generalize xc.length = lxc at *
  generalize ss.length = lss at *
  go_wp2_with (first
    | (go_at_call 59; go_loud (refine HA.out.mono ?_); rintro e w1 ⟨rfl, hp1⟩; clear x0 x1 x2 x3 x4 x5 x6 x7 x8 x9 x10 x11 x12 hbl; obtain ⟨hbx, hf1, hp1⟩ := HBW.out _ _ hp1; have x0 := cell_at' hbx 0 rfl; have x1 := cell_at' hbx 1 rfl; have x2 := cell_at' hbx 2 rfl; have x3 := cell_at' hbx 3 rfl; have x4 := cell_at' hbx 4 rfl; have x5 := cell_at' hbx 5 rfl; have x6 := cell_at' hbx 6 rfl; have x7 := cell_at' hbx 7 rfl; have x8 := cell_at' hbx 8 rfl; have x9 := cell_at' hbx 9 rfl; have x10 := cell_at' hbx 10 rfl; have x11 := cell_at' hbx 11 rfl; have x12 := cell_at' hbx 12 rfl; have hbl := lt_of_block hbx; have HF1 := Lib.hid hf1; have HP1 := Lib.hid hp1; clear hbx hf1 hp1)
    | (go_at_call 60; go_loud (refine (HB.out _ HF1).mono ?_); rintro e w2 ⟨b9, c9, t9, ht9, rfl, cp9⟩; have HT9 := Lib.hid ht9; have HC9 := Lib.hid cp9; clear ht9 cp9))
  go_ret
  exact ⟨_, HP1.out, b9, c9, t9, HT9.out, rfl, HC9.out⟩
end Go.Proofs.YtggfoihfenlckaaGreat
/- The law PackPuts: its walk. -/
namespace Go.Proofs.YtggfoihfenlckaaGreat
open Go.RowKit
theorem thB_take {l : List Th} {k : Nat} (h : k < l.length) : (l.take (k + 1)).flatMap thB = (l.take k).flatMap thB ++ thB (l.getD k Th.zero) := by
  rw [take_succ Th.zero h, List.flatMap_append]
  simp
theorem fewB_ok {l : List Th} (h : fewB l = true) (hf : ∀ o ∈ l, ThFit o) : l.length ≤ 12 ∧ ∀ o ∈ l, o.Ok := by
  unfold fewB at h
  simp only [Bool.and_eq_true] at h
  exact ⟨of_decide_eq_true h.1, fun o ho => Th.ok (hf o ho) (List.all_eq_true.1 h.2 o ho)⟩
theorem ths_le {l : List Th} (h : ∀ o ∈ l, o.Ok) (k : Nat) : ((l.take k).flatMap thB).length ≤ 5000 * k := by
  have h1 : ((l.take k).flatMap thB).length ≤ 5000 * (l.take k).length := flat_le fun o ho => thB_le (h o (List.mem_of_mem_take ho))
  have := List.length_take_le k l
  exact Nat.le_trans h1 (Nat.mul_le_mul_left _ this)
theorem th_cells {w : World} {b off c n : Nat} {l : List Th} (h : Rd w (.slice (some ⟨b, off, none⟩) n c) n (thC l)) (k : Nat) (hk : k < l.length) :
    (w.cell? ⟨b, off + k * 13, none⟩ = some (.int .u8 (l.getD k Th.zero).kind) ∧ w.cell? ⟨b, off + k * 13 + 1, none⟩ = some (l.getD k Th.zero).cv ∧ w.cell? ⟨b, off + k * 13 + 2, none⟩ = some (l.getD k Th.zero).ev ∧ w.cell? ⟨b, off + k * 13 + 3, none⟩ = some (l.getD k Th.zero).kv ∧ w.cell? ⟨b, off + k * 13 + 4, none⟩ = some (l.getD k Th.zero).xv) ∧
    (w.cell? ⟨b, off + k * 13 + 5, none⟩ = some (l.getD k Th.zero).pv ∧ w.cell? ⟨b, off + k * 13 + 6, none⟩ = some (.int .i64 (l.getD k Th.zero).a) ∧ w.cell? ⟨b, off + k * 13 + 7, none⟩ = some (.string (l.getD k Th.zero).s) ∧ w.cell? ⟨b, off + k * 13 + 8, none⟩ = some (.int .i64 (l.getD k Th.zero).n)) ∧
    (w.cell? ⟨b, off + k * 13 + 9, none⟩ = some (.int .i64 (l.getD k Th.zero).v0) ∧ w.cell? ⟨b, off + k * 13 + 10, none⟩ = some (.int .i64 (l.getD k Th.zero).v1) ∧ w.cell? ⟨b, off + k * 13 + 11, none⟩ = some (.int .i64 (l.getD k Th.zero).v2) ∧ w.cell? ⟨b, off + k * 13 + 12, none⟩ = some (.int .i64 (l.getD k Th.zero).v3)) :=
  ⟨⟨th_at h k hk 0 rfl, th_at h k hk 1 rfl, th_at h k hk 2 rfl, th_at h k hk 3 rfl, th_at h k hk 4 rfl⟩, ⟨th_at h k hk 5 rfl, th_at h k hk 6 rfl, th_at h k hk 7 rfl, th_at h k hk 8 rfl⟩, ⟨th_at h k hk 9 rfl, th_at h k hk 10 rfl, th_at h k hk 11 rfl, th_at h k hk 12 rfl⟩⟩
end Go.Proofs.YtggfoihfenlckaaGreat
/- tributaryref16: ToOp: the walk. Printed by wip/r16toopgen.py. -/
namespace Go.Proofs.YtggfoihfenlckaaGreat
open Go.RowKit
end Go.Proofs.YtggfoihfenlckaaGreat
/- Two vectors compared. -/
namespace Go.Proofs.YtggfoihfenlckaaGreat
open Go.RowKit
theorem Tryz.vec_cells : Tryz.prog.cellsOf 2 = 1 := by kernel_rfl
theorem i64_eql (d : Nat) (a b : Int) (W : World) : (Op.equalIn (d + 1) 2 (.int .i64 a) (.int .i64 b)).run Tryz.prog W = .ok (a == b) W := by
  simp [Op.equalIn, run_underlying Tryz.underlying2]
theorem part_i64 (xs : Array Value) (k : Nat) (v : Value) (h : xs[k]? = some v) (W : World) : (part 2 xs k).run Tryz.prog W = .ok v W := by
  obtain ⟨i0, hi, hz0, hz1, hz2⟩ := info_parts info_i64
  simp [part, go_sem, h]
theorem items_step (d : Nat) (xs ys : Array Value) (i : Nat) (is : List Nat) (a b : Int) (hx : xs[i]? = some (.int .i64 a)) (hy : ys[i]? = some (.int .i64 b)) (W : World) :
    (Op.eqItems (d + 1) 2 1 xs ys (i :: is)).run Tryz.prog W = if a = b then (Op.eqItems (d + 1) 2 1 xs ys is).run Tryz.prog W else .ok false W := by
  have h1 := part_i64 xs i _ hx
  have h2 := part_i64 ys i _ hy
  rw [Op.eqItems]
  simp only [Sem.run_bind, Nat.mul_one, h1, h2, Result.andThen_ok, i64_eql]
  by_cases h : a = b
  · rw [if_pos h]; subst h; simp
  · rw [if_neg h]
    have : (a == b) = false := by simpa using h
    rw [this]; simp
set_option maxRecDepth 100000 in
theorem vec_equal (a0 a1 a2 a3 b0 b1 b2 b3 : Int) (W : World) : (Op.equal 42 (.agg #[.int .i64 a0, .int .i64 a1, .int .i64 a2, .int .i64 a3]) (.agg #[.int .i64 b0, .int .i64 b1, .int .i64 b2, .int .i64 b3])).run Tryz.prog W = .ok ((a0 == b0) && ((a1 == b1) && ((a2 == b2) && (a3 == b3)))) W := by
  obtain ⟨i0, hi, hz0, hz1, hz2⟩ := info_parts info_i64
  unfold Op.equal
  obtain ⟨d, hd⟩ : ∃ d, Op.maxDepth = d + 1 + 1 := ⟨Op.maxDepth - 2, rfl⟩
  rw [hd, run_equalIn_array (d := d + 1) (hu := Tryz.underlying42) (hi := hi), Tryz.vec_cells, show List.range 4 = [0, 1, 2, 3] from rfl]
  rw [items_step d _ _ 0 _ a0 b0 rfl rfl, items_step d _ _ 1 _ a1 b1 rfl rfl, items_step d _ _ 2 _ a2 b2 rfl rfl, items_step d _ _ 3 _ a3 b3 rfl rfl]
  by_cases h0 : a0 = b0 <;> by_cases h1 : a1 = b1 <;> by_cases h2 : a2 = b2 <;> by_cases h3 : a3 = b3 <;> simp [h0, h1, h2, h3, Op.eqItems]
theorem vec_eql (a0 a1 a2 a3 b0 b1 b2 b3 : Int) (W : World) : (binOp .eql 42 (.agg #[.int .i64 a0, .int .i64 a1, .int .i64 a2, .int .i64 a3]) (.agg #[.int .i64 b0, .int .i64 b1, .int .i64 b2, .int .i64 b3])).run Tryz.prog W = .ok (.bool ((a0 == b0) && ((a1 == b1) && ((a2 == b2) && (a3 == b3))))) W := by
  simp [binOp, vec_equal]
theorem vec_same (a0 a1 a2 a3 : Int) (W : World) : (binOp .eql 42 (.agg #[.int .i64 a0, .int .i64 a1, .int .i64 a2, .int .i64 a3]) (.agg #[.int .i64 a0, .int .i64 a1, .int .i64 a2, .int .i64 a3])).run Tryz.prog W = .ok (.bool true) W := by
  rw [vec_eql]; simp
end Go.Proofs.YtggfoihfenlckaaGreat
/- tributarylaw16: get: the walk. Printed by wip/get16gen.py. -/
namespace Go.Proofs.YtggfoihfenlckaaGreat
open Go.RowKit
end Go.Proofs.YtggfoihfenlckaaGreat