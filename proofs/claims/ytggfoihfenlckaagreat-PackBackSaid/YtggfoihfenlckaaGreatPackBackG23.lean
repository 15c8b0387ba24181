/- Words for the law PackBack: R16y, Awake16a, PackRead, Eq, TSame, R8Same. -/
import Derived.Test.YtggfoihfenlckaaGreatPackBackG8
import Derived.Test.YtggfoihfenlckaaGreatPackBackG10
import Derived.Test.YtggfoihfenlckaaGreatPackBackG11
import Derived.Test.YtggfoihfenlckaaGreatPackBackG16
import Derived.Test.YtggfoihfenlckaaGreatPackBackG20
import Derived.Test.YtggfoihfenlckaaGreatPackBackG22
set_option linter.unusedSimpArgs false
set_option linter.unusedVariables false
/- tributaryref16: Op where the change is not right: the walk. -/
namespace Go.Proofs.YtggfoihfenlckaaGreat
open Go.RowKit
set_option maxHeartbeats 8000000 in
set_option maxRecDepth 1000000 in
theorem r16Op_no (ss : List ByteArray) (a n : Int) (s : ByteArray) (w : World) (v : Value) (h : StrsAt w v ss) (hl : ss.length ≤ 100000) (hsz : s.size ≤ 9223372036854775807) (hb0 : opB ss a s n = false) :
    Calls Tryz.prog 58 #[.agg #[v, .int .i64 a, .string s, .int .i64 n]] w (Ret w (opY ss a s n)) := by
  have HR := Lib.hid (fun W (f : Frm NoS w W) => r15Op_any ss a n s W v (h.keep0 f) hl hsz)
  unfold opY
  have HBX := Lib.hid (heap_alloc_new w (.cells #[v, .int .i64 a, .string s, .int .i64 n] 40))
  cases hb : opB ss a s n with
  | true => exact absurd (hb.symm.trans hb0) (by decide)
  | false =>
    rw [hb] at HR
    rw [if_neg (by decide)]
    have HFIN := Lib.hid (show numB 0 ++ numB 0 ++ textB ByteArray.empty ++ numB 0 = encO [] 0 ByteArray.empty 0 by unfold encO encP; simp)
    have HLN := Lib.hid (numB_le10 (v := 0) (by decide) (by decide))
    have HLA := Lib.hid (numB_le10 (v := 0) (by decide) (by decide))
    have HLZ := Lib.hid (numB_le10 (v := 0) (by decide) (by decide))
    have HSZ := Lib.hid (show ByteArray.empty.size ≤ 30 by decide)
    have HLS := Lib.hid (textB_up HSZ.out)
    have HIA := Lib.hid (show inR 0 from ⟨by decide, by decide⟩)
    have HIN := Lib.hid HIA.out
    obtain ⟨a0, c0, rfl⟩ := h.sl
    clear h hb hsz
    generalize ss.length = l at *
    go_enter Tryz.func58, Tryz.ntmps58
    go_wp2_with (first
      | (go_at_call 23; go_loud (refine (HR.out _ (Frm.alloc _ _ _)).mono ?_); go_loud (rintro e w0 ⟨x, rfl, hx, hw1⟩); have hxn : (x != 0) = true := by { have h9 : ¬ x = 0 := fun e => Bool.false_ne_true (hx.1 e); simp [bne, h9] }; clear hx; go_loud (have hb1 := hw1.blk HBX.out id); have f0 := free_at' hb1 0; have f1 := free_at' hb1 1; have f2 := free_at' hb1 2; have f3 := free_at' hb1 3; have hl0 := lt_of_block hb1; have x0 := cell_at' hb1 0 rfl; have x1 := cell_at' hb1 1 rfl; have x2 := cell_at' hb1 2 rfl; have x3 := cell_at' hb1 3 rfl; have HF0 := Lib.hid ((Frm.alloc NoS w _).then1 hw1); have HB1 := Lib.hid hb1; clear hw1 hb1))
    clear x0 x1 x2 x3 f0 f1 f2 f3 hl0 hxn
    have g4 := set_at' (set_at' (set_at' (set_at' HB1.out 0 (.slice none 0 0)) 1 (.int .i64 0)) 2 (.string ⟨#[]⟩)) 3 (.int .i64 0)
    have HF1 := Lib.hid (HF0.out.trans (four_set w0 w.heap.size (.slice none 0 0) (.int .i64 0) (.string ⟨#[]⟩) (.int .i64 0)) fun i hi e => (by have e : i = w.heap.size := e; omega))
    have hsz : ((((w0.setCell ⟨w.heap.size, 0, none⟩ (.slice none 0 0)).setCell ⟨w.heap.size, 1, none⟩ (.int .i64 0)).setCell ⟨w.heap.size, 2, none⟩ (.string ⟨#[]⟩)).setCell ⟨w.heap.size, 3, none⟩ (.int .i64 0)).heap.size = w0.heap.size := by simp
    generalize (((w0.setCell ⟨w.heap.size, 0, none⟩ (.slice none 0 0)).setCell ⟨w.heap.size, 1, none⟩ (.int .i64 0)).setCell ⟨w.heap.size, 2, none⟩ (.string ⟨#[]⟩)).setCell ⟨w.heap.size, 3, none⟩ (.int .i64 0) = w1 at *
    have HSW := Lib.hid hsz; clear hsz
    have hlb := lt_of_block g4
    have y0 := cell_at' g4 0 rfl
    have HY0 := Lib.hid y0
    have HY1 := Lib.hid (cell_at' g4 1 rfl)
    have HY2 := Lib.hid (cell_at' g4 2 rfl)
    have HY3 := Lib.hid (cell_at' g4 3 rfl)
    clear g4 HF0 HB1
    go_wp2_with (first
      | (go_at_call 111; go_loud (refine (nums1 0 _ w1 _ HSW.out HIA.out).mono ?_); rintro e w2 ⟨a2, c2, t2, ht2, rfl, cp2⟩; have HT2 := Lib.hid ht2; clear ht2 y0; have y0 := cp2.frm.cell' HY0.out id; have HP2 := Lib.hid cp2; clear cp2))
    clear y0
    go_loopw [3, 17] (fun o i ww => i = .int .i64 0 ∧ o = .slice a2 t2.length c2 ∧ ww = w2) (fun _ _ _ => 0)
    case atStart => exact ⟨rfl, rfl, rfl⟩
    case round =>
      obtain ⟨rfl, rfl, rfl⟩ := hrel
      have HL := Lib.hid (show t2.length ≤ 10 by rw [HT2.out]; exact HLN.out)
      have z5 := (HP2.out).frm.cell' HY1.out id
      go_wp2_with (first
        | (go_at_call 111; go_loud (refine (nums1 0 _ wr _ rfl HIA.out).mono ?_); rintro e w5s ⟨s5a, s5c, s5t, hs5, rfl, cs5⟩; have HS5 := Lib.hid hs5; clear hs5; have HP5 := Lib.hid (HP2.out.step cs5.frm); have HC5 := Lib.hid cs5; clear cs5)
        | (at_builtin; go_loud (refine app_cp w1 w5s rfl (.tmp 29) (.tmp 33) rfl _ t2 HP5.out _ s5t rfl rfl HC5.out.rd ?c5 ?_)))
      case c5 => have := HLA.out; have := HLZ.out; have := HLS.out; have := HSZ.out; have := HL.out; have := congrArg List.length HS5.out; omega
      intro ad5 c5 w5 t5 HT5 e5 _ _
      have E5 := Lib.hid e5; clear e5
      have HT5 := Lib.hid HT5
      have z6 := (E5.out).frm.cell' HY2.out id
      go_wp2_with (first
        | (go_at_call 117; go_loud (refine (Calls.mono (rtext ByteArray.empty w5 (by have := HSZ.out; omega)) fun _ _ h => Ret.of h).mono ?_); rintro e w6s ⟨s6a, s6c, s6t, hs6, rfl, cs6⟩; have HS6 := Lib.hid hs6; clear hs6; have HP6 := Lib.hid (E5.out.step cs6.frm); have HC6 := Lib.hid cs6; clear cs6)
        | (at_builtin; go_loud (refine app_cp w1 w6s rfl (.tmp 35) (.tmp 38) rfl _ t5 HP6.out _ s6t rfl rfl HC6.out.rd ?c6 ?_)))
      case c6 => have := HLA.out; have := HLZ.out; have := HLS.out; have := HSZ.out; have := HL.out; have := congrArg List.length HT5.out; rw [List.length_append] at this; have := congrArg List.length HS5.out; have := congrArg List.length HS6.out; omega
      intro ad6 c6 w6 t6 HT6 e6 _ _
      have E6 := Lib.hid e6; clear e6
      have HT6 := Lib.hid HT6
      have z7 := (E6.out).frm.cell' HY3.out id
      go_wp2_with (first
        | (go_at_call 111; go_loud (refine (nums1 0 _ w6 _ rfl HIN.out).mono ?_); rintro e w7s ⟨s7a, s7c, s7t, hs7, rfl, cs7⟩; have HS7 := Lib.hid hs7; clear hs7; have HP7 := Lib.hid (E6.out.step cs7.frm); have HC7 := Lib.hid cs7; clear cs7)
        | (at_builtin; go_loud (refine app_cp w1 w7s rfl (.tmp 40) (.tmp 44) rfl _ t6 HP7.out _ s7t rfl rfl HC7.out.rd ?c7 ?_)))
      case c7 => have := HLA.out; have := HLZ.out; have := HLS.out; have := HSZ.out; have := HL.out; have := congrArg List.length HT5.out; rw [List.length_append] at this; have := congrArg List.length HT6.out; rw [List.length_append] at this; have := congrArg List.length HS5.out; have := congrArg List.length HS6.out; have := congrArg List.length HS7.out; omega
      intro ad7 c7 w7 t7 HT7 e7 _ _
      have E7 := Lib.hid e7; clear e7
      go_wp2
      go_ret
      exact ⟨ad7, c7, t7, by rw [HT7, HS7.out, HT6.out, HS6.out, HT5.out, HS5.out, HT2.out, ← HFIN.out], rfl, E7.out.weaken HF1.out⟩
end Go.Proofs.YtggfoihfenlckaaGreat
/- tributarylaw16: known: the walk. -/
namespace Go.Proofs.YtggfoihfenlckaaGreat
open Go.RowKit
theorem row_at {w : World} {b n : Nat} {cs : Array Value} {T : TypeId} (h : w.heap[b]? = some (.cells cs T (0, 0))) (hm : n ≤ 100) : Rd w (.slice (some ⟨b, 0, none⟩) n n) n cs.toList :=
  .inr ⟨b, 0, n, rfl, Nat.le_refl _, by simp only [maxLen]; omega, fun j u hu => by rw [Nat.zero_add]; exact cell_at' h j (by simpa using hu)⟩
/-- Three blocks laid one behind the other. -/
theorem three_rows (w : World) (c0 c1 c2 : Array Value) (T0 T1 T2 : TypeId) (W : World) (hW : W = ((w.alloc (.cells c0 T0)).alloc (.cells c1 T1)).alloc (.cells c2 T2)) :
    W.heap[w.heap.size]? = some (.cells c0 T0 (0, 0)) ∧ W.heap[w.heap.size + 1]? = some (.cells c1 T1 (0, 0)) ∧ W.heap[w.heap.size + 1 + 1]? = some (.cells c2 T2 (0, 0)) ∧ Frm NoS w W := by
  subst hW
  have h0 := heap_alloc_new w (.cells c0 T0)
  have h1 := heap_alloc_new (w.alloc (.cells c0 T0)) (.cells c1 T1)
  have h2 := heap_alloc_new ((w.alloc (.cells c0 T0)).alloc (.cells c1 T1)) (.cells c2 T2)
  have sz : ∀ (u : World) (o : Obj), (u.alloc o).heap.size = u.heap.size + 1 := fun u o => by simp
  simp only [sz] at h1 h2
  exact ⟨((Frm.alloc NoS _ _).alloc1).blk h0 id, (Frm.alloc NoS _ _).blk h1 id, h2, ((Frm.alloc NoS _ _).alloc1).alloc1⟩
def kEs : List Ent := [⟨1, 1, ⟨#[97]⟩, 3⟩]
def kKs : KidsL := .nil
def kC : CtxL := [(1, 1, 1)]
def kB : List UInt8 := [2, 2, 2, 2, 97, 6, 0, 2, 2, 2, 2]
theorem kTree : rightT 5 kEs kKs = true := by
  rw [rightT, kEs, kKs]
  simp only [rightEs, rightKs, entB, dotB, ltE]
  decide
theorem kRight : CauRight kEs kKs kC := ⟨kTree, right_one (by decide) (by decide) (by decide) (by decide) (by decide), fun r hr => by
  have : dotsT kEs kKs = [(1, 1)] := rfl
  rw [this] at hr
  simp only [List.mem_singleton] at hr
  subst hr
  exact (inC_one 1 1 1 1 1).2 ⟨rfl, by decide, by decide⟩⟩
theorem kOk : CauOk kEs kKs kC := ⟨⟨⟨by decide, fun e he => by
    simp only [kEs, List.mem_singleton] at he
    subst he
    exact ⟨by decide, by decide, by decide, by decide⟩⟩, by decide, trivial⟩, by decide, fun s hs => by simp only [kC, List.mem_singleton] at hs; subst hs; dsimp only; omega, by decide⟩
theorem kBytes : encX kEs kKs kC = kB := by
  have n1 : numB 1 = [2] := by unfold numB; rw [show zz 1 = 2 from rfl, vl_small (by omega)]; rfl
  have n3 : numB 3 = [6] := by unfold numB; rw [show zz 3 = 6 from rfl, vl_small (by omega)]; rfl
  have n0 : numB 0 = [0] := by unfold numB; rw [show zz 0 = 0 from rfl, vl_small (by omega)]; rfl
  have e1 : numB (kEs.length : Int) = [2] := n1
  have e2 : numB (kKs.len : Int) = [0] := n0
  have e3 : numB (kC.length : Int) = [2] := n1
  have e4 : numB ((⟨#[97]⟩ : ByteArray).size : Int) = [2] := n1
  have e5 : encEs kEs = [2, 2, 2, 97, 6] := by
    simp only [encEs, kEs, encE, List.flatMap_cons, List.flatMap_nil, textB, n1, n3, e4]
    rfl
  have e6 : encSs kC = [2, 2, 2] := by
    simp only [encSs, kC, encS, List.flatMap_cons, List.flatMap_nil, n1]
    rfl
  unfold encX encT encC
  rw [e1, e2, e3, e5, e6]
  rfl
set_option maxRecDepth 1000000 in
theorem known16_any (w : World) : Calls Tryz.prog 47 #[] w fun e w' => ∃ ev kv cv, e = .returned (.agg #[ev, kv, cv]) ∧ CauAt (fun _ => True) w' ev kv cv kEs kKs kC ∧ Frm NoS w w' := by
  go_enter Tryz.func47, Tryz.ntmps47
  go_wp2
  generalize hW : ((w.alloc (.cells #[.slice (some ⟨w.heap.size + 1, 0, none⟩) 1 1, .slice none 0 0, .slice (some ⟨w.heap.size + 1 + 1, 0, none⟩) 1 1] 37)).alloc (.cells #[.int .i64 1, .int .i64 1, .string ⟨#[97]⟩, .int .i64 3] 137)).alloc (.cells #[.int .i64 1, .int .i64 1, .int .i64 1] 122) = W
  obtain ⟨g0, g1, g2, gf⟩ := three_rows w _ _ _ _ _ _ W hW.symm
  have y0 := cell_at' g0 0 rfl
  have y1 := cell_at' g0 1 rfl
  have y2 := cell_at' g0 2 rfl
  exact bodyPost_ret (v := .agg #[.slice (some ⟨w.heap.size + 1, 0, none⟩) 1 1, .slice none 0 0, .slice (some ⟨w.heap.size + 1 + 1, 0, none⟩) 1 1]) (by simp [results, Tryz.results47, go_sem, y0, y1, y2]) rfl
    ⟨_, _, _, rfl, ⟨⟨⟨row_at g1 (by decide), fun _ _ _ => trivial⟩, [], ⟨.inl ⟨none, rfl, rfl, rfl⟩, fun h => absurd rfl h⟩, rfl⟩, row_at g2 (by decide)⟩, gf⟩
end Go.Proofs.YtggfoihfenlckaaGreat
/- pack: Read: the walk. -/
namespace Go.Proofs.YtggfoihfenlckaaGreat
open Go.RowKit
/-- What Read answers. -/
structure ReadPost (es : List Ent) (ks : KidsL) (c : CtxL) (s : Option (List UInt8)) (w : World) (e : Ending) (w' : World) : Prop where
  yes : doneOf s = true → ∃ ev kv cv, e = .returned (.tuple #[.agg #[ev, kv, cv], .int .i64 0]) ∧ TreeAt (fun b => w.heap.size ≤ b) w' ev kv es ks ∧ CtxQ (fun b => w.heap.size ≤ b) w' cv c
  no : doneOf s = false → e = .returned (.tuple #[.agg #[.slice none 0 0, .slice none 0 0, .slice none 0 0], .int .i64 2])
  frm : Frm NoS w w'
/-- A box laid behind w2 and filled; another block stands. -/
theorem boxed (w2 : World) (b0 : Nat) (cs : Array Value) (T T0 : TypeId) (hb : w2.heap[b0]? = some (.cells cs T0 (0, 0))) (x0 x1 x2 : Value) (W : World) (hW : W = w2.alloc (.cells #[x0, x1, x2] T)) :
    W.heap[w2.heap.size]? = some (.cells #[x0, x1, x2] T (0, 0)) ∧ W.heap[b0]? = some (.cells cs T0 (0, 0)) ∧ Frm NoS w2 W := by
  subst hW
  have f1 : Frm NoS w2 (w2.alloc (.cells #[x0, x1, x2] T)) := Frm.alloc _ _ _
  exact ⟨heap_alloc_new w2 _, f1.blk hb id, f1⟩
set_option maxHeartbeats 2000000 in
set_option maxRecDepth 1000000 in
theorem pRead_any (v : Value) (bs : List UInt8) (es : List Ent) (ks : KidsL) (c : CtxL) (s : Option (List UInt8)) (w : World) (h : Rd w v bs.length (bV bs)) (hc : CauRes (some bs) es ks c s) (hl : bs.length ≤ 6000) :
    Calls Tryz.prog 48 #[v] w (ReadPost es ks c s w) := by
  have HN := Lib.hid (fun W (f : Frm NoS w W) => newin v bs W (h.keep0 f) (by omega))
  have HG := Lib.hid (fun ib W (hi : InSt W ib (some bs)) => pGetCausal_at ib (some bs) s es ks c W hc hi hl)
  have HB0 := Lib.hid (heap_alloc_new w (.cells #[.slice none 0 0, .slice none 0 0, .slice none 0 0] 37))
  have HS0 := Lib.hid (show (w.alloc (.cells #[.slice none 0 0, .slice none 0 0, .slice none 0 0] 37)).heap.size = w.heap.size + 1 by simp)
  clear h hc hl
  cases hd : doneOf s with
  | true =>
    go_enter Tryz.func48, Tryz.ntmps48
    go_wp2_with (first
      | (go_at_call 15; refine (HN.out _ (Frm.alloc _ _ _)).mono ?_; rintro e w1 ⟨ib, rfl, hi1, hib, hf1⟩
         have HB1 := Lib.hid (hf1.blk HB0.out id); have HI1 := Lib.hid hi1; clear hi1; have HIB := Lib.hid (show w.heap.size < ib by have := HS0.out; omega); clear hib; have HF1 := Lib.hid (show Frm NoS w w1 from (Frm.alloc NoS w _).then1 hf1); clear hf1)
      | (go_at_call 30; refine (HG.out _ _ HI1.out).mono ?_; rintro e w2 ⟨ev, kv, cv, rfl, hta, hrc, hi2, hf2⟩; obtain ⟨a3, c3, rfl⟩ := hta.ents.rd.sl; obtain ⟨os3, hkr3, -⟩ := hta.kids; obtain ⟨a4, c4, rfl⟩ := hkr3.rd.sl; obtain ⟨a5, c5, rfl⟩ := hrc.at_.sl; clear hkr3
         have HB2 := Lib.hid (hf2.blk HB1.out (fun h => by have h : w.heap.size = ib := h; have := HIB.out; omega))
         have HTA := Lib.hid hta; clear hta
         have HRC := Lib.hid hrc; clear hrc
         have HI2 := Lib.hid hi2; clear hi2
         have HF2 := Lib.hid (show Frm NoS w w2 from HF1.out.trans hf2 fun i hi hs => by have hs : i = ib := hs; have := HIB.out; omega)
         clear hf2
         generalize es.length = n at *
         generalize ks.len = m at *
         generalize c.length = k at *
         have HBX := Lib.hid (fun W hW => boxed w2 _ _ 37 _ HB2.out (.slice a3 n c3) (.slice a4 m c4) (.slice a5 k c5) W hW))
      | (go_at_call 19;
         obtain ⟨W3, hW3⟩ : ∃ W, W = w2.alloc (.cells #[.slice a3 n c3, .slice a4 m c4, .slice a5 k c5] 37) := ⟨_, rfl⟩
         rw [← hW3]
         obtain ⟨hx, hb, hf3⟩ := HBX.out W3 hW3
         clear hW3
         refine (done_go _ s W3 (HI2.out.keep hf3 fun _ _ => id)).mono ?_; rintro e w9 ⟨rfl, rfl⟩
         rw [hd]
         have z0 := cell_at' hx 0 rfl
         have z1 := cell_at' hx 1 rfl
         have z2 := cell_at' hx 2 rfl
         have y0 := cell_at' hb 0 rfl
         have y1 := cell_at' hb 1 rfl
         have y2 := cell_at' hb 2 rfl
         have f0 := free_at' hb 0
         have f1 := free_at' hb 1
         have f2 := free_at' hb 2
         have hl2 := lt_of_block hb
         have hl3 := lt_of_block hx
         have HB3 := Lib.hid hb
         have HF3 := Lib.hid hf3
         clear hf3 hx hb))
    clear y0 y1 y2 z0 z1 z2
    have y0 := cell_at' (set_at' (set_at' (set_at' HB3.out 0 (.slice a3 n c3)) 1 (.slice a4 m c4)) 2 (.slice a5 k c5)) 0 rfl
    have y1 := cell_at' (set_at' (set_at' (set_at' HB3.out 0 (.slice a3 n c3)) 1 (.slice a4 m c4)) 2 (.slice a5 k c5)) 1 rfl
    have y2 := cell_at' (set_at' (set_at' (set_at' HB3.out 0 (.slice a3 n c3)) 1 (.slice a4 m c4)) 2 (.slice a5 k c5)) 2 rfl
    have hts := three_set W3 w.heap.size (.slice a3 n c3) (.slice a4 m c4) (.slice a5 k c5)
    have hturn : ∀ b, b < w2.heap.size → w1.heap.size ≤ b → ((((W3.setCell ⟨w.heap.size, 0, none⟩ (.slice a3 n c3)).setCell ⟨w.heap.size, 1, none⟩ (.slice a4 m c4)).setCell ⟨w.heap.size, 2, none⟩ (.slice a5 k c5)).heap[b]? = w2.heap[b]? ∧ w.heap.size ≤ b) := fun b hb hQ => by
      have h0 := lt_of_block HB1.out
      refine ⟨?_, by omega⟩
      rw [hts.block b (Nat.lt_of_lt_of_le hb HF3.out.size) (fun hs => by have hs : b = w.heap.size := hs; omega), HF3.out.block b hb id]
    exact bodyPost_ret (v := .tuple #[.agg #[.slice a3 n c3, .slice a4 m c4, .slice a5 k c5], .int .i64 0]) (by simp [results, Tryz.results48, go_sem, y0, y1, y2]) rfl
      ⟨fun _ => ⟨_, _, _, rfl, HTA.out.turn hturn, RdQ.turn HRC.out hturn⟩, fun h => (by rw [hd] at h; cases h), (HF2.out.then1 HF3.out).trans hts fun i hi hs => by have hs : i = w.heap.size := hs; omega⟩
  | false =>
    go_enter Tryz.func48, Tryz.ntmps48
    go_wp2_with (first
      | (go_at_call 15; refine (HN.out _ (Frm.alloc _ _ _)).mono ?_; rintro e w1 ⟨ib, rfl, hi1, hib, hf1⟩
         have HB1 := Lib.hid (hf1.blk HB0.out id); have HI1 := Lib.hid hi1; clear hi1; have HIB := Lib.hid (show w.heap.size < ib by have := HS0.out; omega); clear hib; have HF1 := Lib.hid (show Frm NoS w w1 from (Frm.alloc NoS w _).then1 hf1); clear hf1)
      | (go_at_call 30; refine (HG.out _ _ HI1.out).mono ?_; rintro e w2 ⟨ev, kv, cv, rfl, hta, hrc, hi2, hf2⟩; obtain ⟨a3, c3, rfl⟩ := hta.ents.rd.sl; obtain ⟨os3, hkr3, -⟩ := hta.kids; obtain ⟨a4, c4, rfl⟩ := hkr3.rd.sl; obtain ⟨a5, c5, rfl⟩ := hrc.at_.sl; clear hkr3
         have HB2 := Lib.hid (hf2.blk HB1.out (fun h => by have h : w.heap.size = ib := h; have := HIB.out; omega))
         clear hta hrc
         have HI2 := Lib.hid hi2; clear hi2
         have HF2 := Lib.hid (show Frm NoS w w2 from HF1.out.trans hf2 fun i hi hs => by have hs : i = ib := hs; have := HIB.out; omega)
         clear hf2
         generalize es.length = n at *
         generalize ks.len = m at *
         generalize c.length = k at *
         have HBX := Lib.hid (fun W hW => boxed w2 _ _ 37 _ HB2.out (.slice a3 n c3) (.slice a4 m c4) (.slice a5 k c5) W hW))
      | (go_at_call 19;
         obtain ⟨W3, hW3⟩ : ∃ W, W = w2.alloc (.cells #[.slice a3 n c3, .slice a4 m c4, .slice a5 k c5] 37) := ⟨_, rfl⟩
         rw [← hW3]
         obtain ⟨hx, hb, hf3⟩ := HBX.out W3 hW3
         clear hW3
         refine (done_go _ s W3 (HI2.out.keep hf3 fun _ _ => id)).mono ?_; rintro e w9 ⟨rfl, rfl⟩
         rw [hd]
         have y0 := cell_at' hb 0 rfl
         have y1 := cell_at' hb 1 rfl
         have y2 := cell_at' hb 2 rfl
         have f0 := free_at' hb 0
         have f1 := free_at' hb 1
         have f2 := free_at' hb 2
         have hl2 := lt_of_block hb
         have HB3 := Lib.hid hb
         have HF3 := Lib.hid hf3
         clear hf3 hx hb))
    clear y0 y1 y2
    have y0 := cell_at' (set_at' (set_at' (set_at' HB3.out 0 (.slice none 0 0)) 1 (.slice none 0 0)) 2 (.slice none 0 0)) 0 rfl
    have y1 := cell_at' (set_at' (set_at' (set_at' HB3.out 0 (.slice none 0 0)) 1 (.slice none 0 0)) 2 (.slice none 0 0)) 1 rfl
    have y2 := cell_at' (set_at' (set_at' (set_at' HB3.out 0 (.slice none 0 0)) 1 (.slice none 0 0)) 2 (.slice none 0 0)) 2 rfl
    have hts := three_set W3 w.heap.size (.slice none 0 0) (.slice none 0 0) (.slice none 0 0)
    exact bodyPost_ret (v := .tuple #[.agg #[.slice none 0 0, .slice none 0 0, .slice none 0 0], .int .i64 2]) (by simp [results, Tryz.results48, go_sem, y0, y1, y2]) rfl
      ⟨fun h => (by rw [hd] at h; cases h), fun _ => rfl, (HF2.out.then1 HF3.out).trans hts fun i hi hs => by have hs : i = w.heap.size := hs; omega⟩
end Go.Proofs.YtggfoihfenlckaaGreat
/- slices.Equal of spans and of entries: the walks. -/
namespace Go.Proofs.YtggfoihfenlckaaGreat
open Go.RowKit
/-- The first k entries are alike. -/
def LikeE (a b : List Ent) (k : Nat) : Prop := ∀ j, j < k → a.getD j Ent.zero = b.getD j Ent.zero
theorem LikeE.all {a b : List Ent} (hl : a.length = b.length) (h : LikeE a b a.length) : a = b := by
  refine List.ext_getElem hl fun j h1 h2 => ?_
  have := h j h1
  rwa [getD_at _ h1, getD_at _ h2] at this
theorem LikeE.step {a b : List Ent} {k : Nat} (h : LikeE a b k) (he : a.getD k Ent.zero = b.getD k Ent.zero) : LikeE a b (k + 1) := fun j hj => by
  rcases Nat.lt_succ_iff_lt_or_eq.1 hj with hj | rfl
  · exact h j hj
  · exact he
end Go.Proofs.YtggfoihfenlckaaGreat
/- tree: same: the walk, with slices.EqualFunc and the function that it is handed. -/
namespace Go.Proofs.YtggfoihfenlckaaGreat
open Go.RowKit
theorem ne_text {s t : ByteArray} (h : ¬ s = t) : ¬ s.toList = t.toList := fun e => h (by rw [ByteArray.toList_eq, ByteArray.toList_eq] at e; exact ByteArray.ext (Array.toList_inj.1 e))
/-- Two blocks of two cells, of three. -/
theorem pair2 (w : World) (a0 a1 b0 b1 : Value) (T : TypeId) (W : World) (f : Frm NoS ((w.alloc (.cells #[a0, a1] T)).alloc (.cells #[b0, b1] T)) W) :
    W.cell? ⟨w.heap.size, 0, none⟩ = some a0 ∧ W.cell? ⟨w.heap.size, 1, none⟩ = some a1 ∧ W.cell? ⟨w.heap.size + 1, 0, none⟩ = some b0 ∧ W.cell? ⟨w.heap.size + 1, 1, none⟩ = some b1 := by
  obtain ⟨h1, _, _⟩ := two_blocks w (.cells #[a0, a1] T) #[b0, b1] T
  have h0 : ((w.alloc (.cells #[a0, a1] T)).alloc (.cells #[b0, b1] T)).heap[w.heap.size]? = some (.cells #[a0, a1] T (0, 0)) := (Frm.alloc NoS _ _).blk (heap_alloc_new w _) id
  exact ⟨f.cell' (cell_at' h0 0 rfl) id, f.cell' (cell_at' h0 1 rfl) id, f.cell' (cell_at' h1 0 rfl) id, f.cell' (cell_at' h1 1 rfl) id⟩
theorem pair3 (w : World) (a0 a1 a2 b0 b1 b2 : Value) (T : TypeId) (W : World) (f : Frm NoS ((w.alloc (.cells #[a0, a1, a2] T)).alloc (.cells #[b0, b1, b2] T)) W) :
    W.cell? ⟨w.heap.size, 0, none⟩ = some a0 ∧ W.cell? ⟨w.heap.size, 1, none⟩ = some a1 ∧ W.cell? ⟨w.heap.size, 2, none⟩ = some a2 ∧ W.cell? ⟨w.heap.size + 1, 0, none⟩ = some b0 ∧ W.cell? ⟨w.heap.size + 1, 1, none⟩ = some b1 ∧ W.cell? ⟨w.heap.size + 1, 2, none⟩ = some b2 := by
  obtain ⟨h1, _, _⟩ := two_blocks w (.cells #[a0, a1, a2] T) #[b0, b1, b2] T
  have h0 : ((w.alloc (.cells #[a0, a1, a2] T)).alloc (.cells #[b0, b1, b2] T)).heap[w.heap.size]? = some (.cells #[a0, a1, a2] T (0, 0)) := (Frm.alloc NoS _ _).blk (heap_alloc_new w _) id
  exact ⟨f.cell' (cell_at' h0 0 rfl) id, f.cell' (cell_at' h0 1 rfl) id, f.cell' (cell_at' h0 2 rfl) id, f.cell' (cell_at' h1 0 rfl) id, f.cell' (cell_at' h1 1 rfl) id, f.cell' (cell_at' h1 2 rfl) id⟩
theorem kids_step {ks ks' : KidsL} {k : Nat} {key key' : ByteArray} {es es' : List Ent} {sub sub' rest rest' : KidsL} (h : ks.drop k = .cons key es sub rest) (h' : ks'.drop k = .cons key' es' sub' rest') :
    (ks.drop k = ks'.drop k) ↔ ((key = key' ∧ es = es' ∧ sub = sub') ∧ ks.drop (k + 1) = ks'.drop (k + 1)) := by
  rw [KidsL.drop_succ k ks h, KidsL.drop_succ k ks' h', h, h']
  constructor
  · intro e
    injection e with e1 e2 e3 e4
    exact ⟨⟨e1, e2, e3⟩, e4⟩
  · rintro ⟨⟨rfl, rfl, rfl⟩, rfl⟩
    rfl
end Go.Proofs.YtggfoihfenlckaaGreat
/- tributaryref08: Same: the walk. Printed by wip/r8samegen.py. -/
namespace Go.Proofs.YtggfoihfenlckaaGreat
open Go.RowKit
set_option maxHeartbeats 8000000 in
set_option maxRecDepth 1000000 in
theorem r8Same_any (Q Q' : Nat → Prop) : ∀ (N : Nat) (es : List Ent) (ks : KidsL) (es' : List Ent) (ks' : KidsL) (w : World) (ev kv ev' kv' : Value), sizeK ks < N → TreeAt Q w ev kv es ks → TreeAt Q' w ev' kv' es' ks' → sizeT es ks ≤ 100000 → sizeT es' ks' ≤ 100000 →
    Calls Tryz.prog 27 #[.agg #[ev, kv], .agg #[ev', kv']] w fun e w' => e = .returned (.bool (tf (es = es' ∧ ks = ks'))) ∧ Frm NoS w w' := by
  intro N
  induction N with
  | zero => intros; exfalso; omega
  | succ N IHN =>
    intro es ks es' ks' w ev kv ev' kv' hN ht ht' hsz hsz'
    obtain ⟨ae, ce, rfl⟩ := ht.ents.rd.sl
    obtain ⟨os, hkr, hfor⟩ := ht.kids
    obtain ⟨ak, ck, rfl⟩ := hkr.rd.sl
    obtain ⟨ae', ce', rfl⟩ := ht'.ents.rd.sl
    obtain ⟨os', hkr', hfor'⟩ := ht'.kids
    obtain ⟨ak', ck', rfl⟩ := hkr'.rd.sl
    have h1 : es.length ≤ 100000 := by unfold sizeT at hsz; omega
    have h2 : es'.length ≤ 100000 := by unfold sizeT at hsz'; omega
    have h3 : ks.len ≤ 100000 := by have := len_le_sizeK ks; unfold sizeT at hsz; omega
    have h4 : ks'.len ≤ 100000 := by have := len_le_sizeK ks'; unfold sizeT at hsz'; omega
    by_cases hle : es.length = es'.length
    rotate_left 1
    · rw [tf_false fun h => hle (by rw [h.1])]
      clear ht ht' hkr hkr' hfor hfor' IHN hN hsz hsz'
      generalize es.length = n at *
      generalize ks.len = m at *
      generalize es'.length = n' at *
      generalize ks'.len = m' at *
      have hz : ((n : Int) == (n' : Int)) = false := by simp; omega
      have HFB := Lib.hid ((Frm.alloc NoS w (.cells #[.slice ae n ce, .slice ak m ck] 35)).alloc1 (o := .cells #[.slice ae' n' ce', .slice ak' m' ck'] 35))
      go_enter Tryz.func27, Tryz.ntmps27
      go_wp2
      go_ret
      exact ⟨rfl, HFB.out⟩
    by_cases hlk : ks.len = ks'.len
    rotate_left 1
    · rw [tf_false fun h => hlk (by rw [h.2])]
      rw [← hle]
      clear ht ht' hkr hkr' hfor hfor' IHN hN hsz hsz' h2 hle
      generalize es.length = n at *
      generalize ks.len = m at *
      generalize ks'.len = m' at *
      have hz : ((m : Int) == (m' : Int)) = false := by simp; omega
      have HFB := Lib.hid ((Frm.alloc NoS w (.cells #[.slice ae n ce, .slice ak m ck] 35)).alloc1 (o := .cells #[.slice ae' n ce', .slice ak' m' ck'] 35))
      go_enter Tryz.func27, Tryz.ntmps27
      go_wp2
      go_ret
      exact ⟨rfl, HFB.out⟩
    have HE := Lib.hid ht.ents.rd
    have hE' := ht'.ents.rd
    have hK' := hkr'.rd
    rw [← hle] at hE' ⊢
    rw [← hlk] at hK' ⊢
    have HE' := Lib.hid hE'; clear hE'
    have HKR := Lib.hid hkr.rd
    have HKR' := Lib.hid hK'; clear hK'
    have HFOR := Lib.hid hfor; clear hfor
    have HFOR' := Lib.hid hfor'; clear hfor'
    have HLE := Lib.hid hle.symm; clear hle
    have HLK := Lib.hid hlk.symm; clear hlk
    have IH := Lib.hid IHN; clear IHN
    have HSZ := Lib.hid hsz; clear hsz
    have HSZ' := Lib.hid hsz'; clear hsz'
    have HNN := Lib.hid hN; clear hN
    clear ht ht' hkr hkr' h2 h4
    generalize hes : es.length = n at *
    have HN := Lib.hid hes; clear hes
    generalize hkl : ks.len = m at *
    have HM := Lib.hid hkl; clear hkl
    have HFB := Lib.hid ((Frm.alloc NoS w (.cells #[.slice ae n ce, .slice ak m ck] 35)).alloc1 (o := .cells #[.slice ae' n ce', .slice ak' m ck'] 35))
    have HBX := Lib.hid (pair2 w (.slice ae n ce) (.slice ak m ck) (.slice ae' n ce') (.slice ak' m ck') 35)
    go_enter Tryz.func27, Tryz.ntmps27
    go_wp2
    go_loopw [26] (fun i ww => ∃ k : Nat, k ≤ n ∧ i = .int .i64 k ∧ LikeE es es' k ∧ Frm NoS ((w.alloc (.cells #[.slice ae n ce, .slice ak m ck] 35)).alloc (.cells #[.slice ae' n ce', .slice ak' m ck'] 35)) ww) (fun i _ => n - (intOf i).toNat)
    case atStart => exact ⟨0, Nat.zero_le _, rfl, (fun j hj => absurd hj (Nat.not_lt_zero _)), Frm.refl _ _⟩
    case round =>
      obtain ⟨k, hk, rfl, hlk, hw⟩ := hrel
      have HLI := Lib.hid hlk; clear hlk
      have HW := Lib.hid hw; clear hw
      obtain ⟨b0, b1, b2, b3⟩ := HBX.out wr HW.out
      by_cases hlt : k < n
      · rcases Rd.shape HE.out with ⟨ad, he, h0⟩ | ⟨e1, off1, cc1, he, hmax⟩
        · exfalso; omega
        rcases Rd.shape HE'.out with ⟨ad, he2, h0⟩ | ⟨e2, off2, cc2, he2, hmax2⟩
        · exfalso; omega
        injection he with g1 g2 g3
        injection he2 with g4 g5 g6
        subst g1 g3 g4 g6
        clear g2 g5
        obtain ⟨p0, p1, p2, p3⟩ := ent_at HE.out k (by rw [HN.out]; exact hlt)
        obtain ⟨q0, q1, q2, q3⟩ := ent_at HE'.out k (by rw [HLE.out]; exact hlt)
        have hfw := HFB.out.then1 HW.out
        have p0 := hfw.cell' p0 id
        have p1 := hfw.cell' p1 id
        have p2 := hfw.cell' p2 id
        have p3 := hfw.cell' p3 id
        have q0 := hfw.cell' q0 id
        have q1 := hfw.cell' q1 id
        have q2 := hfw.cell' q2 id
        have q3 := hfw.cell' q3 id
        clear hfw
        have HST := Lib.hid (show es.getD k Ent.zero = es'.getD k Ent.zero → LikeE es es' (k + 1) from HLI.out.step)
        have HNO := Lib.hid (show es.getD k Ent.zero ≠ es'.getD k Ent.zero → ¬ (es = es' ∧ ks = ks') from fun h e => h (by rw [e.1]))
        generalize es.getD k Ent.zero = s at *
        generalize es'.getD k Ent.zero = t at *
        by_cases hst : s = t
        · subst hst
          go_wp2_with fail
          go_quiet (fail)
          go_wp2
          go_roundw
          case rel => exact ⟨k + 1, by omega, by go_num, HST.out (by trivial), HW.out.drewN1⟩
          case measure => simp [intOf]; omega
        · have HNE := Lib.hid (show false = tf (es = es' ∧ ks = ks') from (tf_false (HNO.out hst)).symm)
          obtain ⟨s0, s1, s2, s3⟩ := s
          obtain ⟨t0, t1, t2, t3⟩ := t
          clear HST HNO
          dsimp only at p0 p1 p2 p3 q0 q1 q2 q3
          by_cases g0 : s0 = t0
          · subst g0
            by_cases g1 : s1 = t1
            · subst g1
              by_cases g2 : s2 = t2
              · subst g2
                have g3 : s3 ≠ t3 := fun h => hst (by rw [h])
                clear hst
                have gb : ((s3 : Int) == t3) = false := by simpa using g3
                go_wp2_with fail
                go_quiet (fail)
                go_wp2
                go_ret
                exact ⟨ret_bool HNE.out, HFB.out.then1 HW.out.drewN1⟩
              · clear hst
                have gb := ne_text g2
                go_wp2_with fail
                go_quiet (fail)
                go_wp2
                go_ret
                exact ⟨ret_bool HNE.out, HFB.out.then1 HW.out.drewN1⟩
            · clear hst
              have gb : ((s1 : Int) == t1) = false := by simpa using g1
              go_wp2_with fail
              go_quiet (fail)
              go_wp2
              go_ret
              exact ⟨ret_bool HNE.out, HFB.out.then1 HW.out.drewN1⟩
          · clear hst
            have gb : ((s0 : Int) == t0) = false := by simpa using g0
            go_wp2_with fail
            go_quiet (fail)
            go_wp2
            go_ret
            exact ⟨ret_bool HNE.out, HFB.out.then1 HW.out.drewN1⟩
      · obtain rfl : n = k := by omega
        have hee : es = es' := LikeE.all (HN.out.trans HLE.out.symm) (by rw [HN.out]; exact HLI.out)
        have HEE := Lib.hid hee; clear hee
        go_wp2
        clear b0 b1 b2 b3
        go_loopw [44] (fun i ww => ∃ k : Nat, k ≤ m ∧ i = .int .i64 k ∧ (ks = ks' ↔ ks.drop k = ks'.drop k) ∧ Frm NoS ((w.alloc (.cells #[.slice ae n ce, .slice ak m ck] 35)).alloc (.cells #[.slice ae' n ce', .slice ak' m ck'] 35)) ww) (fun i _ => m - (intOf i).toNat)
        case atStart => exact ⟨0, Nat.zero_le _, rfl, Iff.rfl, HW.out⟩
        case round =>
          obtain ⟨k, hk, rfl, hiff, hwk⟩ := hrel
          have HIF := Lib.hid hiff; clear hiff
          have HWK := Lib.hid hwk; clear hwk
          by_cases hlt : k < m
          · obtain ⟨key, es0, sub, rest, hdr⟩ := KidsL.drop_some (n := k) (ks := ks) (by rw [HM.out]; exact hlt)
            obtain ⟨key', es0', sub', rest', hdr'⟩ := KidsL.drop_some (n := k) (ks := ks') (by rw [HLK.out]; exact hlt)
            rcases Rd.shape HKR.out with ⟨ad, he, h0⟩ | ⟨e1, off1, cc1, he, hmax⟩
            · exfalso; omega
            rcases Rd.shape HKR'.out with ⟨ad, he2, h0⟩ | ⟨e2, off2, cc2, he2, hmax2⟩
            · exfalso; omega
            injection he with g1 g2 g3
            injection he2 with g4 g5 g6
            subst g1 g3 g4 g6
            clear g2 g5
            have hfw := HFB.out.then1 HWK.out
            obtain ⟨ev0, kv0, p0, p1, p2, hta⟩ := kid_at (HKR.out.keep0 hfw) (HFOR.out.keep0 hfw) hdr
            obtain ⟨ev1, kv1, q0, q1, q2, htb⟩ := kid_at (HKR'.out.keep0 hfw) (HFOR'.out.keep0 hfw) hdr'
            clear hfw
            have hss := size_sub k hdr
            have hst1 := sizeT_sub k hdr
            have hst2 := sizeT_sub k hdr'
            have HC := Lib.hid (fun W (f : Frm NoS wr W) => IH.out es0 sub es0' sub' W ev0 kv0 ev1 kv1 (by have := HNN.out; omega) (hta.keep0 f) (htb.keep0 f) (by have := HSZ.out; unfold sizeT at *; omega) (by have := HSZ'.out; unfold sizeT at *; omega))
            have HST := Lib.hid (kids_step hdr hdr')
            obtain ⟨a0, c0, rfl⟩ := hta.ents.rd.sl
            obtain ⟨o3, hk3, -⟩ := hta.kids
            obtain ⟨a1, c1, rfl⟩ := hk3.rd.sl
            obtain ⟨a0', c0', rfl⟩ := htb.ents.rd.sl
            obtain ⟨o4, hk4, -⟩ := htb.kids
            obtain ⟨a1', c1', rfl⟩ := hk4.rd.sl
            clear hk3 hk4 hta htb hdr hdr' hss hst1 hst2
            generalize es0.length = n0 at *
            generalize sub.len = m0 at *
            generalize es0'.length = n1 at *
            generalize sub'.len = m1 at *
            obtain ⟨α, hne, K, hK1, hK0, hK2⟩ := worlds wr
            have kb := fun s => HBX.out (K s) (HWK.out.then1 (hK1 s))
            have k0 := fun s => (kb s).1
            have k1 := fun s => (kb s).2.1
            have k2 := fun s => (kb s).2.2.1
            have k3 := fun s => (kb s).2.2.2
            have r0 := fun s => (hK1 s).cell' p0 id
            have r1 := fun s => (hK1 s).cell' p1 id
            have r2 := fun s => (hK1 s).cell' p2 id
            have t0 := fun s => (hK1 s).cell' q0 id
            have t1 := fun s => (hK1 s).cell' q1 id
            have t2 := fun s => (hK1 s).cell' q2 id
            clear kb p0 p1 p2 q0 q1 q2
            have HFK := Lib.hid (fun s => HWK.out.then1 (hK1 s))
            have HK1 := Lib.hid hK1
            by_cases hkey : key = key'
            · by_cases hsub : es0 = es0' ∧ sub = sub'
              · rw [tf_true hsub] at HC
                have HY := Lib.hid (show key = key' ∧ es0 = es0' ∧ sub = sub' from ⟨hkey, hsub⟩)
                subst hkey
                clear hsub
                go_wp2_with fail
                refine wp_region_new K (by kernel_rfl) (by kernel_rfl) hK0 ?_
                repeat (go_big_quiet_step ((go_at_call 27; exact Calls.in_class hK2 (HC.out _ (HK1.out _)))))
                refine wpQuiet_nil ?_
                intro w' hw'
                obtain ⟨s, rfl⟩ := hw'
                go_wp2
                go_roundw
                case rel => exact ⟨k + 1, by omega, by go_num, HIF.out.trans (HST.out.trans ⟨fun h => h.2, fun h => ⟨⟨by trivial, HY.out.2⟩, h⟩⟩), HFK.out s⟩
                case measure => simp [intOf]; omega
              · rw [tf_false hsub] at HC
                have HY := Lib.hid (show ¬ (es = es' ∧ ks = ks') from fun h => hsub (HST.out.1 (HIF.out.1 h.2)).1.2)
                subst hkey
                clear hsub
                go_wp2_with fail
                refine wp_region_new K (by kernel_rfl) (by kernel_rfl) hK0 ?_
                repeat (go_big_quiet_step ((go_at_call 27; exact Calls.in_class hK2 (HC.out _ (HK1.out _)))))
                refine wpQuiet_nil ?_
                intro w' hw'
                obtain ⟨s, rfl⟩ := hw'
                go_wp2
                go_ret
                exact ⟨ret_bool (tf_false HY.out).symm, HFB.out.then1 (HFK.out s)⟩
            · have HY := Lib.hid (show ¬ (es = es' ∧ ks = ks') from fun h => hkey (HST.out.1 (HIF.out.1 h.2)).1.1)
              have gb := ne_text hkey
              have gc : (key.toList == key'.toList) = false := by simpa using gb
              go_wp2_with fail
              refine wp_region_new K (by kernel_rfl) (by kernel_rfl) hK0 ?_
              repeat (go_big_quiet_step ((go_at_call 27; exact Calls.in_class hK2 (HC.out _ (HK1.out _)))))
              refine wpQuiet_nil ?_
              intro w' hw'
              obtain ⟨s, rfl⟩ := hw'
              go_wp2
              go_ret
              exact ⟨ret_bool (tf_false HY.out).symm, HFB.out.then1 (HFK.out s)⟩
          · obtain rfl : m = k := by omega
            have hkk : ks = ks' := HIF.out.2 (by rw [KidsL.drop_none (by rw [HM.out]; exact Nat.le_refl _), KidsL.drop_none (by rw [HLK.out]; exact Nat.le_refl _)])
            have HKK := Lib.hid hkk; clear hkk
            go_wp2
            go_ret
            exact ⟨ret_bool (tf_true ⟨HEE.out, HKK.out⟩).symm, HFB.out.then1 HWK.out⟩
end Go.Proofs.YtggfoihfenlckaaGreat