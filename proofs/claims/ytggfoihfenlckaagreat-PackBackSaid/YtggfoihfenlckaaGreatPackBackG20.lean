/- Words for the law PackBack: PutVec, R16d, R16e, R16f, PackGet6, R16g, R16h, R16v, R16a, PackPut. -/
import Derived.Test.YtggfoihfenlckaaGreatPackBackG1
import Derived.Test.YtggfoihfenlckaaGreatPackBackG4
import Derived.Test.YtggfoihfenlckaaGreatPackBackG10
import Derived.Test.YtggfoihfenlckaaGreatPackBackG11
import Derived.Test.YtggfoihfenlckaaGreatPackBackG12
import Derived.Test.YtggfoihfenlckaaGreatPackBackG14
import Derived.Test.YtggfoihfenlckaaGreatPackBackG16
import Derived.Test.YtggfoihfenlckaaGreatPackBackG17
import Derived.Test.YtggfoihfenlckaaGreatPackBackG18
import Derived.Test.YtggfoihfenlckaaGreatPackBackG19
set_option linter.unusedSimpArgs false
set_option linter.unusedVariables false
/- pack: PutVector: the walk. Printed by wip/putvecgen.py. -/
namespace Go.Proofs.YtggfoihfenlckaaGreat
open Go.RowKit
theorem vec_index (v0 v1 v2 v3 : Int) : (∀ W, (Instr.index 42 (.agg #[.int .i64 v0, .int .i64 v1, .int .i64 v2, .int .i64 v3]) (.int .i64 0)).run Tryz.prog W = .ok (.int .i64 v0) W) ∧ (∀ W, (Instr.index 42 (.agg #[.int .i64 v0, .int .i64 v1, .int .i64 v2, .int .i64 v3]) (.int .i64 1)).run Tryz.prog W = .ok (.int .i64 v1) W) ∧
    (∀ W, (Instr.index 42 (.agg #[.int .i64 v0, .int .i64 v1, .int .i64 v2, .int .i64 v3]) (.int .i64 2)).run Tryz.prog W = .ok (.int .i64 v2) W) ∧ ∀ W, (Instr.index 42 (.agg #[.int .i64 v0, .int .i64 v1, .int .i64 v2, .int .i64 v3]) (.int .i64 3)).run Tryz.prog W = .ok (.int .i64 v3) W :=
  ⟨fun _ => by kernel_rfl, fun _ => by kernel_rfl, fun _ => by kernel_rfl, fun _ => by kernel_rfl⟩
set_option maxHeartbeats 4000000 in
set_option maxRecDepth 1000000 in
theorem pPutVector_any (ob : Nat) (w : World) (v : Value) (bs : List UInt8) (v0 v1 v2 v3 : Int) (ho : OutAt w ob v bs) (hb : bs.length ≤ 80000000) :
    Calls Tryz.prog 59 #[.pointer (some ⟨ob, 0, none⟩), .agg #[.int .i64 v0, .int .i64 v1, .int .i64 v2, .int .i64 v3]] w fun e w' => e = .returned (.tuple #[]) ∧ (MayV (vecF v0 v1 v2 v3) → Put1 w ob v bs (encV v0 v1 v2 v3) w') ∧ (¬ MayV (vecF v0 v1 v2 v3) → Put1 w ob v bs (encV 0 0 0 0) w') := by
  have HFU := Lib.hid (fun W => cFull_any W v0 v1 v2 v3)
  unfold vecV at HFU
  have hal : Frm NoS w (w.alloc (.cells #[.int .i64 v0, .int .i64 v1, .int .i64 v2, .int .i64 v3] 42)) := Frm.alloc _ _ _
  have HBX := Lib.hid (heap_alloc_new w (.cells #[.int .i64 v0, .int .i64 v1, .int .i64 v2, .int .i64 v3] 42))
  have HNO := Lib.hid (show ¬ OutS ob v w.heap.size from fun h => by have := outS_lt ho _ h; omega)
  have HPS := Lib.hid (fun W (f : Frm NoS (w.alloc (.cells #[.int .i64 v0, .int .i64 v1, .int .i64 v2, .int .i64 v3] 42)) W) => (Put1.start (ho.keep0 hal)).keep0 f)
  have HO := Lib.hid ho; clear ho
  have HAL := Lib.hid hal; clear hal
  by_cases hm : MayV (vecF v0 v1 v2 v3)
  · obtain ⟨i0, i1, i2, i3⟩ := vec_index v0 v1 v2 v3
    have hbd := mayV4 hm
    have HB := Lib.hid (show inR v0 ∧ inR v1 ∧ inR v2 ∧ inR v3 ∧ True from ⟨⟨by omega, by omega⟩, ⟨by omega, by omega⟩, ⟨by omega, by omega⟩, ⟨by omega, by omega⟩, trivial⟩)
    have HIN0 := Lib.hid HB.out.1
    have HIN1 := Lib.hid HB.out.2.1
    have HIN2 := Lib.hid HB.out.2.2.1
    have HIN3 := Lib.hid HB.out.2.2.2.1
    have HL0 := Lib.hid (show (numB v0).length ≤ 10 from numB_le10 (by omega) (by omega))
    have HL1 := Lib.hid (show (numB v1).length ≤ 10 from numB_le10 (by omega) (by omega))
    have HL2 := Lib.hid (show (numB v2).length ≤ 10 from numB_le10 (by omega) (by omega))
    have HM := Lib.hid hm; clear hm hbd
    go_enter Tryz.func59, Tryz.ntmps59
    go_wp2_with (go_at_call 85; go_loud (refine (HFU.out _).mono ?_); rintro e w1 ⟨hf1, h1, -⟩; obtain ⟨u', he, hown, -⟩ := h1 HM.out; subst he; obtain ⟨aF, cF, rfl⟩ := hown.rd.sl; clear hown h1; generalize (fullL (vecF v0 v1 v2 v3)).length = nF at *; have hb1 := hf1.blk HBX.out id; have y0 := cell_at' hb1 0 rfl; have y1 := cell_at' hb1 1 rfl; have y2 := cell_at' hb1 2 rfl; have y3 := cell_at' hb1 3 rfl; have yl := lt_of_block hb1; have HP0 := Lib.hid (HPS.out w1 hf1); clear hf1 hb1)
    clear y0 y1 y2 y3 yl
    go_loopw [17] (fun i ww => ∃ (k : Nat) (cs : List UInt8), ((k = 0 ∧ cs = []) ∨ (k = 1 ∧ cs = numB v0) ∨ (k = 2 ∧ cs = numB v0 ++ numB v1) ∨ (k = 3 ∧ cs = numB v0 ++ numB v1 ++ numB v2) ∨ (k = 4 ∧ cs = numB v0 ++ numB v1 ++ numB v2 ++ numB v3)) ∧ i = .int .i64 k ∧ Put1 (w.alloc (.cells #[.int .i64 v0, .int .i64 v1, .int .i64 v2, .int .i64 v3] 42)) ob v bs cs ww) (fun i _ => 4 - (intOf i).toNat)
    case atStart => exact ⟨0, [], .inl ⟨rfl, rfl⟩, rfl, HP0.out⟩
    case round =>
      obtain ⟨k, cs, hcase, rfl, hp⟩ := hrel
      have HP := Lib.hid hp; clear hp
      rcases hcase with ⟨rfl, rfl⟩ | ⟨rfl, rfl⟩ | ⟨rfl, rfl⟩ | ⟨rfl, rfl⟩ | ⟨rfl, rfl⟩
      · go_wp2_with (go_at_call 95; go_loud (refine (putNum HP.out v0 (by first | exact HIN0.out | exact ⟨by omega, by omega⟩) (by have h0 := HL0.out; have h1 := HL1.out; have h2 := HL2.out; (try simp only [List.length_append, List.length_nil]); omega)).mono ?_); rintro e w5 ⟨rfl, hp5⟩; have HP5 := Lib.hid hp5; clear hp5)
        go_roundw
        case rel => exact ⟨1, _, .inr (.inl ⟨rfl, rfl⟩), by go_num, HP5.out.cast (by rw [List.nil_append])⟩
        case measure => simp [intOf]
      · go_wp2_with (go_at_call 95; go_loud (refine (putNum HP.out v1 (by first | exact HIN1.out | exact ⟨by omega, by omega⟩) (by have h0 := HL0.out; have h1 := HL1.out; have h2 := HL2.out; (try simp only [List.length_append, List.length_nil]); omega)).mono ?_); rintro e w5 ⟨rfl, hp5⟩; have HP5 := Lib.hid hp5; clear hp5)
        go_roundw
        case rel => exact ⟨2, _, .inr (.inr (.inl ⟨rfl, rfl⟩)), by go_num, HP5.out⟩
        case measure => simp [intOf]
      · go_wp2_with (go_at_call 95; go_loud (refine (putNum HP.out v2 (by first | exact HIN2.out | exact ⟨by omega, by omega⟩) (by have h0 := HL0.out; have h1 := HL1.out; have h2 := HL2.out; (try simp only [List.length_append, List.length_nil]); omega)).mono ?_); rintro e w5 ⟨rfl, hp5⟩; have HP5 := Lib.hid hp5; clear hp5)
        go_roundw
        case rel => exact ⟨3, _, .inr (.inr (.inr (.inl ⟨rfl, rfl⟩))), by go_num, HP5.out⟩
        case measure => simp [intOf]
      · go_wp2_with (go_at_call 95; go_loud (refine (putNum HP.out v3 (by first | exact HIN3.out | exact ⟨by omega, by omega⟩) (by have h0 := HL0.out; have h1 := HL1.out; have h2 := HL2.out; (try simp only [List.length_append, List.length_nil]); omega)).mono ?_); rintro e w5 ⟨rfl, hp5⟩; have HP5 := Lib.hid hp5; clear hp5)
        go_roundw
        case rel => exact ⟨4, _, .inr (.inr (.inr (.inr (⟨rfl, rfl⟩)))), by go_num, HP5.out⟩
        case measure => simp [intOf]
      · go_wp2
        go_end0
        exact ⟨rfl, fun _ => (HP.out.base HAL.out).cast (by unfold encV; simp only [List.append_assoc]), fun h => absurd HM.out h⟩
  · obtain ⟨i0, i1, i2, i3⟩ := vec_index 0 0 0 0
    have HL0 := Lib.hid (show (numB 0).length ≤ 10 from numB_le10 (by omega) (by omega))
    have HL1 := Lib.hid (show (numB 0).length ≤ 10 from numB_le10 (by omega) (by omega))
    have HL2 := Lib.hid (show (numB 0).length ≤ 10 from numB_le10 (by omega) (by omega))
    have HM := Lib.hid hm; clear hm
    go_enter Tryz.func59, Tryz.ntmps59
    go_wp2_with (go_at_call 85; go_loud (refine (HFU.out _).mono ?_); rintro e w1 ⟨hf1, -, h1⟩; have he := h1 HM.out; subst he; clear h1; have hb1 := hf1.blk HBX.out id; have y0 := cell_at' hb1 0 rfl; have y1 := cell_at' hb1 1 rfl; have y2 := cell_at' hb1 2 rfl; have y3 := cell_at' hb1 3 rfl; have f0 := free_at' hb1 0; have f1 := free_at' hb1 1; have f2 := free_at' hb1 2; have f3 := free_at' hb1 3; have yl := lt_of_block hb1; have HW1 := Lib.hid (HAL.out.then1 hf1); clear hf1 hb1)
    have hw2 : Frm NoS w ((((w1.setCell ⟨w.heap.size, 0, none⟩ (.int .i64 0)).setCell ⟨w.heap.size, 1, none⟩ (.int .i64 0)).setCell ⟨w.heap.size, 2, none⟩ (.int .i64 0)).setCell ⟨w.heap.size, 3, none⟩ (.int .i64 0)) := HW1.out.trans (four_set w1 w.heap.size _ _ _ _) fun i hi e => by have e : i = w.heap.size := e; omega
    clear y0 y1 y2 y3 f0 f1 f2 f3 yl
    generalize (((w1.setCell ⟨w.heap.size, 0, none⟩ (.int .i64 0)).setCell ⟨w.heap.size, 1, none⟩ (.int .i64 0)).setCell ⟨w.heap.size, 2, none⟩ (.int .i64 0)).setCell ⟨w.heap.size, 3, none⟩ (.int .i64 0) = W2 at *
    have HW2 := Lib.hid hw2
    have HP0 := Lib.hid (Put1.start (HO.out.keep0 hw2)); clear hw2
    go_loopw [17] (fun i ww => ∃ (k : Nat) (cs : List UInt8), ((k = 0 ∧ cs = []) ∨ (k = 1 ∧ cs = numB 0) ∨ (k = 2 ∧ cs = numB 0 ++ numB 0) ∨ (k = 3 ∧ cs = numB 0 ++ numB 0 ++ numB 0) ∨ (k = 4 ∧ cs = numB 0 ++ numB 0 ++ numB 0 ++ numB 0)) ∧ i = .int .i64 k ∧ Put1 W2 ob v bs cs ww) (fun i _ => 4 - (intOf i).toNat)
    case atStart => exact ⟨0, [], .inl ⟨rfl, rfl⟩, rfl, HP0.out⟩
    case round =>
      obtain ⟨k, cs, hcase, rfl, hp⟩ := hrel
      have HP := Lib.hid hp; clear hp
      rcases hcase with ⟨rfl, rfl⟩ | ⟨rfl, rfl⟩ | ⟨rfl, rfl⟩ | ⟨rfl, rfl⟩ | ⟨rfl, rfl⟩
      · go_wp2_with (go_at_call 95; go_loud (refine (putNum HP.out 0 (by first | exact HIN0.out | exact ⟨by omega, by omega⟩) (by have h0 := HL0.out; have h1 := HL1.out; have h2 := HL2.out; (try simp only [List.length_append, List.length_nil]); omega)).mono ?_); rintro e w5 ⟨rfl, hp5⟩; have HP5 := Lib.hid hp5; clear hp5)
        go_roundw
        case rel => exact ⟨1, _, .inr (.inl ⟨rfl, rfl⟩), by go_num, HP5.out.cast (by rw [List.nil_append])⟩
        case measure => simp [intOf]
      · go_wp2_with (go_at_call 95; go_loud (refine (putNum HP.out 0 (by first | exact HIN1.out | exact ⟨by omega, by omega⟩) (by have h0 := HL0.out; have h1 := HL1.out; have h2 := HL2.out; (try simp only [List.length_append, List.length_nil]); omega)).mono ?_); rintro e w5 ⟨rfl, hp5⟩; have HP5 := Lib.hid hp5; clear hp5)
        go_roundw
        case rel => exact ⟨2, _, .inr (.inr (.inl ⟨rfl, rfl⟩)), by go_num, HP5.out⟩
        case measure => simp [intOf]
      · go_wp2_with (go_at_call 95; go_loud (refine (putNum HP.out 0 (by first | exact HIN2.out | exact ⟨by omega, by omega⟩) (by have h0 := HL0.out; have h1 := HL1.out; have h2 := HL2.out; (try simp only [List.length_append, List.length_nil]); omega)).mono ?_); rintro e w5 ⟨rfl, hp5⟩; have HP5 := Lib.hid hp5; clear hp5)
        go_roundw
        case rel => exact ⟨3, _, .inr (.inr (.inr (.inl ⟨rfl, rfl⟩))), by go_num, HP5.out⟩
        case measure => simp [intOf]
      · go_wp2_with (go_at_call 95; go_loud (refine (putNum HP.out 0 (by first | exact HIN3.out | exact ⟨by omega, by omega⟩) (by have h0 := HL0.out; have h1 := HL1.out; have h2 := HL2.out; (try simp only [List.length_append, List.length_nil]); omega)).mono ?_); rintro e w5 ⟨rfl, hp5⟩; have HP5 := Lib.hid hp5; clear hp5)
        go_roundw
        case rel => exact ⟨4, _, .inr (.inr (.inr (.inr (⟨rfl, rfl⟩)))), by go_num, HP5.out⟩
        case measure => simp [intOf]
      · go_wp2
        go_end0
        exact ⟨rfl, fun h => absurd h HM.out, fun _ => (HP.out.base HW2.out).cast (by unfold encV; simp only [List.append_assoc])⟩
end Go.Proofs.YtggfoihfenlckaaGreat
/- tributaryref16: bad, Many: the walks; a reference's In that is kept. -/
namespace Go.Proofs.YtggfoihfenlckaaGreat
open Go.RowKit
end Go.Proofs.YtggfoihfenlckaaGreat
/- tributaryref16: how a step of the reference's In turns memory; ToCtx: the walk. -/
namespace Go.Proofs.YtggfoihfenlckaaGreat
open Go.RowKit
end Go.Proofs.YtggfoihfenlckaaGreat
/- tributaryref16: tree: the walk. Printed by wip/r16treegen.py. -/
namespace Go.Proofs.YtggfoihfenlckaaGreat
open Go.RowKit
end Go.Proofs.YtggfoihfenlckaaGreat
/- pack: GetCausal, Read: the walks. -/
namespace Go.Proofs.YtggfoihfenlckaaGreat
open Go.RowKit
theorem TreeRes.total (st : Option (List UInt8)) : ∃ es ks s, TreeRes st es ks s := by
  by_cases h : ∃ es ks rest, st = some (encT es ks ++ rest) ∧ rightT 5 es ks = true
  · obtain ⟨es, ks, rest, h1, h2⟩ := h
    exact ⟨es, ks, some rest, .inl ⟨rest, h1, h2, rfl⟩⟩
  · exact ⟨[], .nil, none, .inr ⟨rfl, rfl, rfl, fun es ks rest h1 => by
      cases h2 : rightT 5 es ks with
      | false => rfl
      | true => exact absurd ⟨es, ks, rest, h1, h2⟩ h⟩⟩
theorem CtxRes.total (st : Option (List UInt8)) : ∃ c s, CtxRes st c s := by
  by_cases h : ∃ c rest, st = some (encC c ++ rest) ∧ RightC c
  · obtain ⟨c, rest, h1, h2⟩ := h
    exact ⟨c, some rest, .inl ⟨rest, h1, h2, rfl⟩⟩
  · exact ⟨[], none, .inr ⟨rfl, rfl, fun c rest h1 h2 => h ⟨c, rest, h1, h2⟩⟩⟩
theorem tree_at {st s : Option (List UInt8)} {es : List Ent} {ks : KidsL} (hr : TreeRes st es ks s) (ib : Nat) (w : World) (h : InSt w ib st) (hl : (leftOf st).length ≤ 60000) :
    Calls Tryz.prog 28 #[.pointer (some ⟨ib, 0, none⟩)] w fun e w' => ∃ ev kv, e = .returned (.agg #[ev, kv]) ∧ TreeAt (fun b => w.heap.size ≤ b) w' ev kv es ks ∧ InSt w' ib s ∧ Frm (Only ib) w w' :=
  (pGetTree_any ib st w h hl).mono fun e w' ⟨ev, kv, es', ks', s', he, ht, hr', hi, hf⟩ => by
    obtain ⟨⟨rfl, rfl⟩, rfl⟩ := hr.det hr'
    exact ⟨ev, kv, he, ht, hi, hf⟩
theorem ctx_at {st s : Option (List UInt8)} {c : CtxL} (hr : CtxRes st c s) (ib : Nat) (w : World) (h : InSt w ib st) (hl : (leftOf st).length ≤ 60000) :
    Calls Tryz.prog 26 #[.pointer (some ⟨ib, 0, none⟩)] w fun e w' => ∃ cv, e = .returned cv ∧ RdQ (fun b => w.heap.size ≤ b) w' cv c.length (spC c) ∧ InSt w' ib s ∧ Frm (Only ib) w w' :=
  (pGetCtx_any ib st w h hl).mono fun e w' ⟨cv, c', s', he, ht, hr', _, _, hi, hf⟩ => by
    obtain ⟨rfl, rfl⟩ := hr.det hr'
    exact ⟨cv, he, ht, hi, hf⟩
theorem CtxRes.fits {st s : Option (List UInt8)} {c : CtxL} (h : CtxRes st c s) : FitsC c := by
  rcases h with ⟨r, rfl, hr, rfl⟩ | ⟨rfl, rfl, _⟩
  · exact hr.fits
  · exact fun s hs => by cases hs
theorem both_ok {st s1 s2 : Option (List UInt8)} {es : List Ent} {ks : KidsL} {c : CtxL} (h1 : TreeRes st es ks s1) (h2 : CtxRes s1 c s2) (hl : (leftOf st).length ≤ 6000) : CauOk es ks c := by
  have g1 := h1.sizes
  have g2 := h2.sizes
  exact ⟨h1.tr (by omega), by omega, h2.fits, by omega⟩
/-- Whatever is read as a tree and a context of these bytes is small. -/
def CauFit (st : Option (List UInt8)) : Prop := ∀ es ks s1 c s2, TreeRes st es ks s1 → CtxRes s1 c s2 → CauOk es ks c
theorem CauFit.small {st : Option (List UInt8)} (hl : (leftOf st).length ≤ 6000) : CauFit st := fun _ _ _ _ _ h1 h2 => both_ok h1 h2 hl
theorem CauFit.known {es : List Ent} {ks : KidsL} {c : CtxL} {r : List UInt8} (h : CauRight es ks c) (hk : CauOk es ks c) : CauFit (some (encX es ks c ++ r)) := fun es' ks' s1 c' s2 h1 h2 => by
  obtain ⟨rfl, rfl, rfl, -⟩ := cau_parts h1 h2 rfl h
  exact hk
theorem rdq_nil (Q : Nat → Prop) (w : World) : RdQ Q w (.slice none 0 0) 0 [] := ⟨.inl ⟨none, rfl, rfl, rfl⟩, fun h => absurd rfl h⟩
/-- A context, in blocks with Q. -/
def CtxQ (Q : Nat → Prop) (w : World) (v : Value) (c : CtxL) : Prop := RdQ Q w v c.length (spC c)
theorem CtxQ.keep0 {Q : Nat → Prop} {w w' : World} {v : Value} {c : CtxL} (h : CtxQ Q w v c) (f : Frm NoS w w') : CtxQ Q w' v c := RdQ.keep h f fun _ _ h => h.elim
theorem CtxQ.at_ {Q : Nat → Prop} {w : World} {v : Value} {c : CtxL} (h : CtxQ Q w v c) : CtxAt w v c := RdQ.rd h
/-- What taking what is known answers. -/
def CauTk (es : List Ent) (ks : KidsL) (c : CtxL) (s : Option (List UInt8)) (ib : Nat) (w : World) (e : Ending) (w' : World) : Prop :=
  ∃ ev kv cv, e = .returned (.agg #[ev, kv, cv]) ∧ TreeAt (fun b => w.heap.size ≤ b) w' ev kv es ks ∧ CtxQ (fun b => w.heap.size ≤ b) w' cv c ∧ InSt w' ib s ∧ Frm (Only ib) w w'
theorem cauOut {Q : Nat → Prop} {w ww w' : World} {ib : Nat} {s : Option (List UInt8)} {e2 k2 c2 : Value} {es2 : List Ent} {ks2 : KidsL} {c : CtxL}
    (hin : InSt ww ib s) (hib : ib < w.heap.size) (hf : Frm (Only ib) w ww) (ht : TreeAt Q ww e2 k2 es2 ks2) (hc : CtxQ Q ww c2 c) (hq : ∀ b, Q b → w.heap.size ≤ b ∧ b ≠ w.heap.size) (hts : Frm (fun b => b = w.heap.size) ww w') :
    CauTk es2 ks2 c s ib w (.returned (.agg #[e2, k2, c2])) w' :=
  ⟨e2, k2, c2, rfl, ht.turn fun b hb hQ => ⟨hts.block b hb (hq b hQ).2, (hq b hQ).1⟩, (RdQ.turn hc (Q' := fun b => w.heap.size ≤ b) fun b hb hQ => ⟨hts.block b hb (hq b hQ).2, (hq b hQ).1⟩), hin.keep hts fun j hj hs => by have hs : j = w.heap.size := hs; omega, hf.trans hts fun i hi hs => by have hs : i = w.heap.size := hs; omega⟩
theorem three_set (w : World) (b : Nat) (u u' u2 : Value) : Frm (Only b) w (((w.setCell ⟨b, 0, none⟩ u).setCell ⟨b, 1, none⟩ u').setCell ⟨b, 2, none⟩ u2) := ((only_set w b 0 u).trans (only_set _ b 1 u') fun _ _ h => h).trans (only_set _ b 2 u2) fun _ _ h => h
set_option maxHeartbeats 2000000 in
set_option maxRecDepth 1000000 in
theorem pGetCausal_fit (ib : Nat) (st s : Option (List UInt8)) (es : List Ent) (ks : KidsL) (c : CtxL) (w : World) (hc : CauRes st es ks c s) (h : InSt w ib st) (hl : (leftOf st).length ≤ 60000) (hfit : CauFit st) :
    Calls Tryz.prog 30 #[.pointer (some ⟨ib, 0, none⟩)] w (CauTk es ks c s ib w) := by
  have hib := h.lt
  have hno : ¬ Only ib w.heap.size := fun h => by have h : w.heap.size = ib := h; omega
  have HNO := Lib.hid hno; clear hno
  have HB0 := Lib.hid (heap_alloc_new w (.cells #[.slice none 0 0, .slice none 0 0, .slice none 0 0] 37))
  have HI0 := Lib.hid (h.keep (Frm.alloc NoS w (.cells #[.slice none 0 0, .slice none 0 0, .slice none 0 0] 37)) fun _ _ => id)
  have HIB := Lib.hid hib; clear hib
  have HF0 := Lib.hid ((Frm.alloc NoS w (.cells #[.slice none 0 0, .slice none 0 0, .slice none 0 0] 37)).mono (T := Only ib) fun _ _ h => h.elim)
  have HS0 := Lib.hid (show (w.alloc (.cells #[.slice none 0 0, .slice none 0 0, .slice none 0 0] 37)).heap.size = w.heap.size + 1 by simp)
  clear h
  obtain ⟨es1, ks1, s1, ht1⟩ := TreeRes.total st
  obtain ⟨c1, s2, hc1⟩ := CtxRes.total s1
  have hok := hfit _ _ _ _ _ ht1 hc1
  have hl1 := ht1.sizes
  have HG := Lib.hid (tree_at ht1 ib _ HI0.out (by omega))
  have HC := Lib.hid (fun W (h : InSt W ib s1) => ctx_at hc1 ib W h (by omega))
  have HRT := Lib.hid (fun W Q ev kv cv (h : CauAt Q W ev kv cv es1 ks1 c1) => caRight_any Q es1 ks1 c1 W ev kv cv h hok)
  clear hok hl1 hfit
  cases s2 with
  | some r =>
    by_cases hr : CauRight es1 ks1 c1
    · rw [tf_true hr] at HRT
      obtain ⟨⟨⟨rfl, rfl⟩, rfl⟩, rfl⟩ := hc.det (cau_good ht1 hc1 hr)
      clear hc hr ht1 hc1
      go_enter Tryz.func30, Tryz.ntmps30
      go_wp2_with (first
        | (go_at_call 28; refine HG.out.mono ?_; rintro e w1 ⟨ev, kv, rfl, hta, hi1, hf1⟩; obtain ⟨a3, c3, rfl⟩ := hta.ents.rd.sl; obtain ⟨os3, hkr3, -⟩ := hta.kids; obtain ⟨a4, c4, rfl⟩ := hkr3.rd.sl; clear hkr3
           have HB1 := Lib.hid (hf1.blk HB0.out HNO.out)
           have HTA := Lib.hid hta; clear hta
           have HI1 := Lib.hid hi1; clear hi1
           have HF1 := Lib.hid hf1; clear hf1)
        | (go_at_call 26; refine (HC.out _ HI1.out).mono ?_; rintro e w2 ⟨cv, rfl, hrc, hi2, hf2⟩; obtain ⟨a5, c5, rfl⟩ := hrc.rd.sl
           have HB2 := Lib.hid (hf2.blk HB1.out HNO.out)
           have HTA2 := Lib.hid (HTA.out.turn (Q' := fun b => (w.alloc (.cells #[.slice none 0 0, .slice none 0 0, .slice none 0 0] 37)).heap.size ≤ b) fun b hb hQ => ⟨hf2.block b hb fun hs => by have hs : b = ib := hs; have := HIB.out; have := HS0.out; omega, hQ⟩)
           have HRC := Lib.hid (show CtxQ (fun b => (w.alloc (.cells #[.slice none 0 0, .slice none 0 0, .slice none 0 0] 37)).heap.size ≤ b) w2 (.slice a5 c.length c5) c from hrc.turn fun b hb hQ => ⟨rfl, Nat.le_trans HF1.out.size hQ⟩); clear hrc
           have HI2 := Lib.hid hi2; clear hi2
           have HF2 := Lib.hid ((HF0.out.trans HF1.out fun _ _ h => h).trans hf2 fun _ _ h => h)
           clear hf2
           generalize es.length = n at *
           generalize ks.len = m at *
           generalize c.length = k at *
           have HA2 := Lib.hid (Frm.alloc NoS w2 (.cells #[.slice a3 n c3, .slice a4 m c4, .slice a5 k c5] 37))
           have HX2 := Lib.hid (heap_alloc_new w2 (.cells #[.slice a3 n c3, .slice a4 m c4, .slice a5 k c5] 37)))
        | (go_at_call 17; refine (bad_go ib _ _ (HI2.out.keep HA2.out fun _ _ => id)).mono ?_; rintro e w9 ⟨rfl, rfl⟩)
        | (go_at_call 82; refine (HRT.out _ _ _ _ _ ⟨HTA2.out.keep0 HA2.out, (HRC.out.keep0 HA2.out).at_⟩).mono ?_; rintro e w3 ⟨rfl, hf3⟩
           have hx3 := hf3.blk HX2.out id
           have z0 := cell_at' hx3 0 rfl
           have z1 := cell_at' hx3 1 rfl
           have z2 := cell_at' hx3 2 rfl
           have hb3 := hf3.blk (HA2.out.blk HB2.out id) id
           have y0 := cell_at' hb3 0 rfl
           have y1 := cell_at' hb3 1 rfl
           have y2 := cell_at' hb3 2 rfl
           have f0 := free_at' hb3 0
           have f1 := free_at' hb3 1
           have f2 := free_at' hb3 2
           have hl2 := lt_of_block hb3
           have hl3 := lt_of_block hx3
           have HB3 := Lib.hid hb3
           have HF3 := Lib.hid (HA2.out.then1 hf3)
           clear hf3 hx3 hb3))
      clear y0 y1 y2 z0 z1 z2
      have y0 := cell_at' (set_at' (set_at' (set_at' HB3.out 0 (.slice a3 n c3)) 1 (.slice a4 m c4)) 2 (.slice a5 k c5)) 0 rfl
      have y1 := cell_at' (set_at' (set_at' (set_at' HB3.out 0 (.slice a3 n c3)) 1 (.slice a4 m c4)) 2 (.slice a5 k c5)) 1 rfl
      have y2 := cell_at' (set_at' (set_at' (set_at' HB3.out 0 (.slice a3 n c3)) 1 (.slice a4 m c4)) 2 (.slice a5 k c5)) 2 rfl
      have hts := three_set w3 w.heap.size (.slice a3 n c3) (.slice a4 m c4) (.slice a5 k c5)
      exact bodyPost_ret (v := .agg #[.slice a3 n c3, .slice a4 m c4, .slice a5 k c5]) (by simp [results, Tryz.results30, go_sem, y0, y1, y2]) rfl (cauOut (HI2.out.keep HF3.out fun _ _ => id) HIB.out (HF2.out.trans HF3.out fun _ _ h => h.elim) (HTA2.out.keep0 HF3.out) (HRC.out.keep0 HF3.out) (fun b h => by have := HS0.out; have h : (w.alloc (.cells #[.slice none 0 0, .slice none 0 0, .slice none 0 0] 37)).heap.size ≤ b := h; omega) hts)
    · rw [tf_false hr] at HRT
      obtain ⟨⟨⟨rfl, rfl⟩, rfl⟩, rfl⟩ := hc.det (cau_bad ht1 hc1 (.inr hr))
      clear hc hr ht1 hc1
      go_enter Tryz.func30, Tryz.ntmps30
      go_wp2_with (first
        | (go_at_call 28; refine HG.out.mono ?_; rintro e w1 ⟨ev, kv, rfl, hta, hi1, hf1⟩; obtain ⟨a3, c3, rfl⟩ := hta.ents.rd.sl; obtain ⟨os3, hkr3, -⟩ := hta.kids; obtain ⟨a4, c4, rfl⟩ := hkr3.rd.sl; clear hkr3
           have HB1 := Lib.hid (hf1.blk HB0.out HNO.out)
           have HTA := Lib.hid hta; clear hta
           have HI1 := Lib.hid hi1; clear hi1
           have HF1 := Lib.hid hf1; clear hf1)
        | (go_at_call 26; refine (HC.out _ HI1.out).mono ?_; rintro e w2 ⟨cv, rfl, hrc, hi2, hf2⟩; obtain ⟨a5, c5, rfl⟩ := hrc.rd.sl
           have HB2 := Lib.hid (hf2.blk HB1.out HNO.out)
           have HTA2 := Lib.hid (HTA.out.turn (Q' := fun b => (w.alloc (.cells #[.slice none 0 0, .slice none 0 0, .slice none 0 0] 37)).heap.size ≤ b) fun b hb hQ => ⟨hf2.block b hb fun hs => by have hs : b = ib := hs; have := HIB.out; have := HS0.out; omega, hQ⟩)
           have HRC := Lib.hid (show CtxQ (fun b => (w.alloc (.cells #[.slice none 0 0, .slice none 0 0, .slice none 0 0] 37)).heap.size ≤ b) w2 (.slice a5 c1.length c5) c1 from hrc.turn fun b hb hQ => ⟨rfl, Nat.le_trans HF1.out.size hQ⟩); clear hrc
           have HI2 := Lib.hid hi2; clear hi2
           have HF2 := Lib.hid ((HF0.out.trans HF1.out fun _ _ h => h).trans hf2 fun _ _ h => h)
           clear hf2
           generalize es1.length = n at *
           generalize ks1.len = m at *
           generalize c1.length = k at *
           have HA2 := Lib.hid (Frm.alloc NoS w2 (.cells #[.slice a3 n c3, .slice a4 m c4, .slice a5 k c5] 37)))
        | (go_at_call 17; refine (bad_go ib _ _ (HI2.out.keep HA2.out fun _ _ => id)).mono ?_; rintro e w9 ⟨rfl, rfl⟩)
        | (go_at_call 82; refine (HRT.out _ _ _ _ _ ⟨HTA2.out.keep0 HA2.out, (HRC.out.keep0 HA2.out).at_⟩).mono ?_; rintro e w3 ⟨rfl, hf3⟩; have HF3 := Lib.hid (HA2.out.then1 hf3); clear hf3)
        | (go_at_call 79; obtain ⟨a, c, hh⟩ := (HI2.out.keep HF3.out fun _ _ => id).heap; refine (fail_go ib _ _ w3 hh).mono ?_; rintro e w4 ⟨rfl, hi4, hf4⟩
           have HI4 := Lib.hid (show InSt w4 ib none from hi4); clear hi4 hh
           have hb3 := hf4.blk (HF3.out.blk HB2.out id) HNO.out
           have y0 := cell_at' hb3 0 rfl
           have y1 := cell_at' hb3 1 rfl
           have y2 := cell_at' hb3 2 rfl
           have f0 := free_at' hb3 0
           have f1 := free_at' hb3 1
           have f2 := free_at' hb3 2
           have hl2 := lt_of_block hb3
           have HB3 := Lib.hid hb3
           have HF4 := Lib.hid ((HF2.out.trans HF3.out fun _ _ h => h.elim).trans hf4 fun _ _ h => h)
           clear hf4 hb3))
      clear y0 y1 y2
      have y0 := cell_at' (set_at' (set_at' (set_at' HB3.out 0 (.slice none 0 0)) 1 (.slice none 0 0)) 2 (.slice none 0 0)) 0 rfl
      have y1 := cell_at' (set_at' (set_at' (set_at' HB3.out 0 (.slice none 0 0)) 1 (.slice none 0 0)) 2 (.slice none 0 0)) 1 rfl
      have y2 := cell_at' (set_at' (set_at' (set_at' HB3.out 0 (.slice none 0 0)) 1 (.slice none 0 0)) 2 (.slice none 0 0)) 2 rfl
      have hts := three_set w4 w.heap.size (.slice none 0 0) (.slice none 0 0) (.slice none 0 0)
      exact bodyPost_ret (v := .agg #[.slice none 0 0, .slice none 0 0, .slice none 0 0]) (by simp [results, Tryz.results30, go_sem, y0, y1, y2]) rfl (cauOut (c := []) HI4.out HIB.out HF4.out (tree_nilQ (fun b => w.heap.size ≤ b ∧ b ≠ w.heap.size) w4) (rdq_nil _ _) (fun b h => h) hts)
  | none =>
    obtain ⟨⟨⟨rfl, rfl⟩, rfl⟩, rfl⟩ := hc.det (cau_bad ht1 hc1 (.inl rfl))
    clear hc ht1 hc1 HRT
    go_enter Tryz.func30, Tryz.ntmps30
    go_wp2_with (first
      | (go_at_call 28; refine HG.out.mono ?_; rintro e w1 ⟨ev, kv, rfl, hta, hi1, hf1⟩; obtain ⟨a3, c3, rfl⟩ := hta.ents.rd.sl; obtain ⟨os3, hkr3, -⟩ := hta.kids; obtain ⟨a4, c4, rfl⟩ := hkr3.rd.sl; clear hkr3 hta
         have HB1 := Lib.hid (hf1.blk HB0.out HNO.out)
         have HI1 := Lib.hid hi1; clear hi1
         have HF1 := Lib.hid hf1; clear hf1)
      | (go_at_call 26; refine (HC.out _ HI1.out).mono ?_; rintro e w2 ⟨cv, rfl, hrc, hi2, hf2⟩; obtain ⟨a5, c5, rfl⟩ := hrc.rd.sl; clear hrc
         have HB2 := Lib.hid (hf2.blk HB1.out HNO.out)
         have HI2 := Lib.hid hi2; clear hi2
         have HF2 := Lib.hid ((HF0.out.trans HF1.out fun _ _ h => h).trans hf2 fun _ _ h => h)
         clear hf2
         generalize es1.length = n at *
         generalize ks1.len = m at *
         generalize c1.length = k at *
         have HA2 := Lib.hid (Frm.alloc NoS w2 (.cells #[.slice a3 n c3, .slice a4 m c4, .slice a5 k c5] 37)))
      | (go_at_call 17; refine (bad_go ib _ _ (HI2.out.keep HA2.out fun _ _ => id)).mono ?_; rintro e w9 ⟨rfl, rfl⟩)
      | (go_at_call 79; obtain ⟨a, c, hh⟩ := (HI2.out.keep HA2.out fun _ _ => id).heap; refine (fail_go ib _ _ _ hh).mono ?_; rintro e w4 ⟨rfl, hi4, hf4⟩
         have HI4 := Lib.hid (show InSt w4 ib none from hi4); clear hi4 hh
         have hb3 := hf4.blk (HA2.out.blk HB2.out id) HNO.out
         have y0 := cell_at' hb3 0 rfl
         have y1 := cell_at' hb3 1 rfl
         have y2 := cell_at' hb3 2 rfl
         have f0 := free_at' hb3 0
         have f1 := free_at' hb3 1
         have f2 := free_at' hb3 2
         have hl2 := lt_of_block hb3
         have HB3 := Lib.hid hb3
         have HF4 := Lib.hid ((HF2.out.trans HA2.out fun _ _ h => h.elim).trans hf4 fun _ _ h => h)
         clear hf4 hb3))
    clear y0 y1 y2
    have y0 := cell_at' (set_at' (set_at' (set_at' HB3.out 0 (.slice none 0 0)) 1 (.slice none 0 0)) 2 (.slice none 0 0)) 0 rfl
    have y1 := cell_at' (set_at' (set_at' (set_at' HB3.out 0 (.slice none 0 0)) 1 (.slice none 0 0)) 2 (.slice none 0 0)) 1 rfl
    have y2 := cell_at' (set_at' (set_at' (set_at' HB3.out 0 (.slice none 0 0)) 1 (.slice none 0 0)) 2 (.slice none 0 0)) 2 rfl
    have hts := three_set w4 w.heap.size (.slice none 0 0) (.slice none 0 0) (.slice none 0 0)
    exact bodyPost_ret (v := .agg #[.slice none 0 0, .slice none 0 0, .slice none 0 0]) (by simp [results, Tryz.results30, go_sem, y0, y1, y2]) rfl (cauOut (c := []) HI4.out HIB.out HF4.out (tree_nilQ (fun b => w.heap.size ≤ b ∧ b ≠ w.heap.size) w4) (rdq_nil _ _) (fun b h => h) hts)
theorem pGetCausal_at (ib : Nat) (st s : Option (List UInt8)) (es : List Ent) (ks : KidsL) (c : CtxL) (w : World) (hc : CauRes st es ks c s) (h : InSt w ib st) (hl : (leftOf st).length ≤ 6000) :
    Calls Tryz.prog 30 #[.pointer (some ⟨ib, 0, none⟩)] w (CauTk es ks c s ib w) := pGetCausal_fit ib st s es ks c w hc h (by omega) (.small hl)
end Go.Proofs.YtggfoihfenlckaaGreat
/- tributaryref16: ToTree: the walk. -/
namespace Go.Proofs.YtggfoihfenlckaaGreat
open Go.RowKit
end Go.Proofs.YtggfoihfenlckaaGreat
/- tributaryref16: ToCausal: the walk. Printed by wip/r16caugen.py. -/
namespace Go.Proofs.YtggfoihfenlckaaGreat
open Go.RowKit
end Go.Proofs.YtggfoihfenlckaaGreat
/- tributaryref16: ToVector: the walk. Printed by wip/vecgen.py. -/
namespace Go.Proofs.YtggfoihfenlckaaGreat
open Go.RowKit
end Go.Proofs.YtggfoihfenlckaaGreat
/- tributaryref16: nums; what is put onto one's own bytes. -/
namespace Go.Proofs.YtggfoihfenlckaaGreat
open Go.RowKit
/-- append of bytes that lie somewhere onto one's own. -/
theorem app_cp {ops : Array Oper} {rest : List Oper} {o : Oper} {a : Act} {Q : Exit → Act → World → Prop} (w0 W : World) (hgd : o.guard = none) (s x : Operand)
    (ho : o.op = .call { callee := .builtin .append, args := #[s, x], argTypes := #[25, 25] }) (v : Value) (bs : List UInt8) (hp : Copy w0 v bs W) (xv : Value) (cs : List UInt8)
    (hv : a.eval s = v) (hx : a.eval x = xv) (hc : Rd W xv cs.length (bV cs)) (hl : bs.length + cs.length ≤ 140737488355328)
    (h : ∀ ad c w' t, Hid (t = bs ++ cs) → Copy w0 (.slice ad t.length c) t w' → Frm (RowS v) W w' → Fresh W v (.slice ad t.length c) → wpList Tryz.prog ops Q rest (a.put o.dst (.slice ad t.length c)) w') :
    wpList Tryz.prog ops Q (o :: rest) a W :=
  app_u8 W hgd s x 25 ho v bs hp.own xv cs hv hx (hc.src Tryz.underlying25 (by simp) (bV_oneCell _)) hl fun ad c w' own fm fr _ => by
    have hh := h ad c w' (bs ++ cs) (Lib.hid rfl)
    rw [List.length_append] at hh
    exact hh (hp.app own rfl fm fr) fm fr
theorem fresh_ne {W : World} {v v' : Value} {b : Nat} (h : v.ownBlock ≠ some b) (f : Fresh W v v') (hb : b < W.heap.size) : v'.ownBlock ≠ some b := fun e => by
  rcases f b e with h1 | h1
  · exact h h1
  · omega
/-- Bytes that were made since W. -/
def Ret (W : World) (bs : List UInt8) (e : Ending) (w' : World) : Prop := ∃ a c t, t = bs ∧ e = .returned (.slice a t.length c) ∧ Copy W (.slice a t.length c) t w'
theorem Ret.of {W : World} {bs : List UInt8} {e : Ending} {w' : World} (h : ∃ v', e = .returned v' ∧ Copy W v' bs w') : Ret W bs e w' := by
  obtain ⟨v, rfl, h⟩ := h
  obtain ⟨a, c, rfl⟩ := h.shape
  exact ⟨a, c, bs, rfl, rfl, h⟩
theorem Ret.base {w W : World} {bs : List UInt8} {e : Ending} {w' : World} (h : Ret W bs e w') (f : Frm NoS w W) : Ret w bs e w' := by
  obtain ⟨a, c, t, h1, h2, h3⟩ := h
  exact ⟨a, c, t, h1, h2, h3.weaken f⟩
theorem Ret.cast {W : World} {bs cs : List UInt8} {e : Ending} {w' : World} (h : Ret W bs e w') (e0 : bs = cs) : Ret W cs e w' := e0 ▸ h
theorem nums_at {w : World} {b off c n : Nat} {l : List Int} (h : Rd w (.slice (some ⟨b, off, none⟩) n c) n (l.map (Value.int .i64 ·))) (k : Nat) (hk : k < l.length) : w.cell? ⟨b, off + k, none⟩ = some (.int .i64 (l.getD k 0)) := by
  rcases h with ⟨ad, h1, h2, h3⟩ | ⟨b', off', c', h1, h2, h3, h4⟩
  · have : l = [] := by simpa using h3
    subst this
    cases hk
  · injection h1 with e1 e2 e3
    injection e1 with e1
    injection e1 with e1 e4
    subst e1 e4
    refine h4 k _ ?_
    simp [List.getD_eq_getElem?_getD, hk]
theorem nums_snoc {l : List Int} {k : Nat} (h : k < l.length) : (l.take (k + 1)).flatMap numB = (l.take k).flatMap numB ++ numB (l.getD k 0) := by
  rw [take_succ 0 h, List.flatMap_append]
  simp
theorem nums_le {l : List Int} (hf : ∀ x ∈ l, inR x) (k : Nat) : ((l.take k).flatMap numB).length ≤ 10 * k := by
  have h : ((l.take k).flatMap numB).length ≤ 10 * (l.take k).length := flat_le fun s hs => by
    have hb := hf s (List.mem_of_mem_take hs)
    exact numB_le10 hb.1 hb.2
  have := List.length_take_le k l
  exact Nat.le_trans h (Nat.mul_le_mul_left _ this)
set_option maxHeartbeats 1000000 in
set_option maxRecDepth 1000000 in
theorem nums_go (l : List Int) (v : Value) (w : World) (h : Rd w v l.length (l.map (Value.int .i64 ·))) (hf : ∀ x ∈ l, inR x) (h0 : 0 < l.length) (hl : l.length ≤ 1000) :
    Calls Tryz.prog 111 #[v] w (Ret w (l.flatMap numB)) := by
  rcases Rd.shape h with ⟨ad, rfl, hz⟩ | ⟨b, off, c, rfl, hc1⟩
  · omega
  · have HI := Lib.hid h; clear h
    have HF := Lib.hid hf; clear hf
    have HT := Lib.hid (show (l.take l.length).flatMap numB = l.flatMap numB by rw [List.take_length])
    generalize hn : l.length = n at *
    have HN := Lib.hid hn; clear hn
    go_enter Tryz.func111, Tryz.ntmps111
    go_wp2
    go_loopw [3, 7] (fun o u wr => ∃ (k : Nat) (a : Option Addr) (c : Nat) (t : List UInt8), k ≤ n ∧ u = .int .i64 k ∧ o = .slice a t.length c ∧ t = (l.take k).flatMap numB ∧ Copy w o t wr) (fun _ u _ => n - (intOf u).toNat)
    case atStart => exact ⟨0, none, 0, [], Nat.zero_le _, rfl, rfl, by simp, Copy.nil w⟩
    case round =>
      obtain ⟨k, a0, c0, t0, hk, rfl, rfl, ht0, hp⟩ := hrel
      have HP := Lib.hid hp
      have HT0 := Lib.hid ht0
      by_cases hlt : k < n
      · have hkl : k < l.length := by rw [HN.out]; exact hlt
        have q0 := nums_at (HI.out.keep hp.frm fun _ _ h => h) k hkl
        have hb := HF.out _ (getD_mem 0 hkl)
        have HS := Lib.hid (nums_snoc hkl)
        have HLE := Lib.hid (show t0.length ≤ 10 * k by rw [ht0]; exact nums_le HF.out k)
        clear hp ht0
        generalize l.getD k 0 = x at *
        have HL10 := Lib.hid (numB_le10 hb.1 hb.2)
        have HC := Lib.hid (Calls.mono (rnum x wr hb.1 hb.2) fun _ _ h => Ret.of h)
        clear hb
        go_wp2_with (first
          | (go_at_call 98; refine HC.out.mono ?_; rintro e w1 ⟨a1, c1, t1, ht1, rfl, cp1⟩; have HT1 := Lib.hid ht1; clear ht1; have HP1 := Lib.hid (HP.out.step cp1.frm); have HC1 := Lib.hid cp1; clear cp1)
          | (at_builtin; go_loud (refine app_cp w w1 rfl (.tmp 10) (.tmp 15) rfl _ t0 HP1.out _ t1 rfl rfl HC1.out.rd ?c1 ?_)))
        case c1 =>
          have := HLE.out
          have := HL10.out
          have := congrArg List.length HT1.out
          omega
        intro ad c2 w2 t2 HT2 e2 _ _
        have E2 := Lib.hid e2; clear e2
        go_wp2
        go_roundw
        case rel => exact ⟨k + 1, ad, c2, t2, by omega, by go_num, rfl, by rw [HT2.out, HT0.out, HT1.out, HS.out], E2.out⟩
        case measure => simp [intOf]; omega
      · obtain rfl : n = k := by omega
        clear hp ht0
        go_wp2
        go_ret
        exact ⟨a0, c0, t0, by rw [HT0.out, HT.out], rfl, HP.out⟩
theorem nums_new (l : List Int) (T : TypeId) (W : World) (hf : ∀ x ∈ l, inR x) (h0 : 0 < l.length) (hl : l.length ≤ 1000) :
    Calls Tryz.prog 111 #[.slice (some ⟨W.heap.size, 0, none⟩) l.length l.length] (W.alloc (.cells (l.map (Value.int .i64 ·)).toArray T)) (Ret W (l.flatMap numB)) := by
  refine Calls.mono (nums_go l _ _ (.inr ⟨W.heap.size, 0, l.length, rfl, Nat.le_refl _, by simp only [maxLen]; omega, fun j u hu => ?_⟩) hf h0 hl) fun e w' h => h.base (Frm.alloc NoS W _)
  rw [Nat.zero_add]
  exact cell_at' (heap_alloc_new W _) j (by rw [List.getElem?_toArray]; exact hu)
theorem nums1 (x : Int) (T : TypeId) (W : World) (b : Nat) (hb : W.heap.size = b) (hx : inR x) : Calls Tryz.prog 111 #[.slice (some ⟨b, 0, none⟩) 1 1] (W.alloc (.cells #[.int .i64 x] T)) (Ret W (numB x)) :=
  hb ▸ Calls.mono (nums_new [x] T W (by simpa using hx) (by simp) (by simp)) fun e w' h => h.cast (by simp)
theorem nums2 (x y : Int) (T : TypeId) (W : World) (b : Nat) (hb : W.heap.size = b) (hx : inR x) (hy : inR y) : Calls Tryz.prog 111 #[.slice (some ⟨b, 0, none⟩) 2 2] (W.alloc (.cells #[.int .i64 x, .int .i64 y] T)) (Ret W (numB x ++ numB y)) :=
  hb ▸ Calls.mono (nums_new [x, y] T W (by simpa using ⟨hx, hy⟩) (by simp) (by simp)) fun e w' h => h.cast (by simp)
theorem nums3 (x y z : Int) (T : TypeId) (W : World) (b : Nat) (hb : W.heap.size = b) (hx : inR x) (hy : inR y) (hz : inR z) : Calls Tryz.prog 111 #[.slice (some ⟨b, 0, none⟩) 3 3] (W.alloc (.cells #[.int .i64 x, .int .i64 y, .int .i64 z] T)) (Ret W (numB x ++ (numB y ++ numB z))) :=
  hb ▸ Calls.mono (nums_new [x, y, z] T W (by simpa using ⟨hx, hy, hz⟩) (by simp) (by simp)) fun e w' h => h.cast (by simp)
end Go.Proofs.YtggfoihfenlckaaGreat
/- pack: PutCtx, putDot, put: the walks. -/
namespace Go.Proofs.YtggfoihfenlckaaGreat
open Go.RowKit
theorem encSs_le {c : CtxL} (hf : FitsC c) : ∀ k, (encSs (c.take k)).length ≤ 30 * k := fun k => by
  have h : (encSs (c.take k)).length ≤ 30 * (c.take k).length := flat_le fun s hs => by
    have hb := hf s (List.mem_of_mem_take hs)
    have h1 := numB_le10 (v := s.1) (by omega) (by omega)
    have h2 := numB_le10 (v := s.2.1) (by omega) (by omega)
    have h3 := numB_le10 (v := s.2.2) (by omega) (by omega)
    unfold encS
    simp only [List.length_append]
    omega
  have := List.length_take_le k c
  exact Nat.le_trans h (Nat.mul_le_mul_left _ this)
theorem encSs_snoc {c : CtxL} {k : Nat} (h : k < c.length) : encSs (c.take (k + 1)) = encSs (c.take k) ++ encS (c.getD k (0, 0, 0)) := by
  rw [take_succ (0, 0, 0) h]
  unfold encSs
  rw [List.flatMap_append]
  simp
noncomputable def ctxB (c : CtxL) : List UInt8 := if tf (RightC c) then encC c else encC []
theorem encC_nil : encC [] = numB 0 := by unfold encC encSs; simp
set_option maxHeartbeats 2000000 in
set_option maxRecDepth 1000000 in
theorem pPutCtx_any (Q : Nat → Prop) (ob : Nat) (w : World) (v : Value) (bs : List UInt8) (cv : Value) (c : CtxL) (ho : OutAt w ob v bs) (hc : RdQ Q w cv c.length (spC c)) (hq : ∀ b, OutS ob v b → ¬ Q b) (hf : FitsC c) (hl : c.length ≤ 100000) (hb : bs.length ≤ 80000000) :
    Calls Tryz.prog 51 #[.pointer (some ⟨ob, 0, none⟩), cv] w fun e w' => e = .returned (.tuple #[]) ∧ Put1 w ob v bs (ctxB c) w' := by
  have HRT := Lib.hid (cRight_any w cv c hc.rd hf hl)
  have HQ := Lib.hid hq; clear hq
  have HC := Lib.hid hc; clear hc
  have HF := Lib.hid hf; clear hf
  have HO := Lib.hid ho; clear ho
  obtain ⟨aA, cA, rfl⟩ := HC.out.rd.sl
  unfold ctxB
  by_cases hr : RightC c
  · rw [tf_true hr] at HRT ⊢
    clear hr
    have HE := Lib.hid (encSs_le HF.out)
    have HFIN := Lib.hid (show numB c.length ++ encSs (c.take c.length) = encC c by unfold encC; rw [List.take_length])
    generalize hn : c.length = n at *
    have HN := Lib.hid hn; clear hn
    rw [if_pos rfl]
    go_enter Tryz.func51, Tryz.ntmps51
    go_wp2_with (first
      | (go_at_call 78; refine HRT.out.mono ?_; rintro e w1 ⟨rfl, hw1⟩; have HP0 := Lib.hid ((Put1.start HO.out).keep0 hw1); clear hw1)
      | (go_at_call 95; refine (putNum HP0.out n ⟨by omega, by omega⟩ (by simp only [List.length_nil]; omega)).mono ?_; rintro e w2 ⟨rfl, hp⟩; have HP := Lib.hid hp; clear hp))
    go_loopw [15] (fun i ww => ∃ k : Nat, k ≤ n ∧ i = .int .i64 k ∧ Put1 w ob v bs (numB n ++ encSs (c.take k)) ww) (fun i _ => n - (intOf i).toNat)
    case atStart => exact ⟨0, Nat.zero_le _, rfl, HP.out.cast (by simp [encSs])⟩
    case round =>
      obtain ⟨k, hk, rfl, hp⟩ := hrel
      have HP1 := Lib.hid hp; clear hp
      by_cases hlt : k < n
      · have hlk : k < c.length := by rw [HN.out]; exact hlt
        have hrd := HC.out.put HQ.out HP1.out
        rcases Rd.shape hrd with ⟨ad, he, h0⟩ | ⟨b, off, cc, he, hmax⟩
        · exfalso; omega
        · injection he with e1 e2 e3
          subst e1 e3
          clear e2
          obtain ⟨q0, q1, q2⟩ := spn_at (c := cA) (l := c) (by unfold CtxAt; rw [HN.out]; exact hrd) HN.out.symm k hlk
          clear hrd
          have hbf := HF.out _ (getD_mem (0, 0, 0) hlk)
          have HST := Lib.hid (encSs_snoc hlk)
          obtain ⟨s, hgd⟩ : ∃ s, s = c.getD k (0, 0, 0) := ⟨_, rfl⟩
          rw [← hgd] at HST q0 q1 q2 hbf
          clear hgd
          have HEk := Lib.hid (HE.out k)
          have hn10 : (numB n).length ≤ 10 := numN_le (by omega)
          have HN10 := Lib.hid hn10; clear hn10
          have HBF := Lib.hid hbf; clear hbf
          obtain ⟨v', ho', hfr, hfm⟩ := HP1.out
          have HO1 := Lib.hid ho'; clear ho'
          have HFR := Lib.hid hfr; clear hfr
          have HFM := Lib.hid hfm; clear hfm
          have hno : ¬ OutS ob v' wr.heap.size := fun h => by have := outS_lt HO1.out _ h; omega
          have HNO := Lib.hid hno; clear hno
          have HB := Lib.hid (Put1.start (HO1.out.keep0 (Frm.alloc NoS wr (.cells #[.int .i64 s.1, .int .i64 s.2.1, .int .i64 s.2.2] 122))))
          have hbl : (bs ++ (numB n ++ encSs (c.take k))).length ≤ 83000010 := by
            have := HEk.out
            have := HN10.out
            simp only [List.length_append]; omega
          have HBL := Lib.hid hbl; clear hbl
          have h1 := numB_le10 (v := s.1) (by have := HBF.out; omega) (by have := HBF.out; omega)
          have h2 := numB_le10 (v := s.2.1) (by have := HBF.out; omega) (by have := HBF.out; omega)
          have H1 := Lib.hid h1; clear h1
          have H2 := Lib.hid h2; clear h2
          go_wp2_with (first
            | (go_at_call 95; refine (putNum HP4.out s.2.2 HBF.out.2.2.2.2 (by have h0 := HBL.out; have h1 := H1.out; have h2 := H2.out; simp only [List.nil_append, List.length_append] at h0 h1 h2 ⊢; omega)).mono ?_; rintro e w5 ⟨rfl, hp5⟩; have HP5 := Lib.hid hp5; clear hp5 z2)
            | (go_at_call 95; refine (putNum HP3.out s.2.1 ⟨HBF.out.2.2.1, HBF.out.2.2.2.1⟩ (by have := HBL.out; have := H1.out; simp only [List.nil_append]; omega)).mono ?_; rintro e w4 ⟨rfl, hp4⟩; have z2 : w4.cell? ⟨wr.heap.size, 2, none⟩ = some (.int .i64 s.2.2) := hp4.cell (cell_at' (heap_alloc_new wr _) 2 rfl) HNO.out; have HP4 := Lib.hid hp4; clear hp4 y1 y2 HP3)
            | (go_at_call 95; refine (putNum HB.out s.1 ⟨HBF.out.1, HBF.out.2.1⟩ (by have := HBL.out; simp only [List.length_nil]; omega)).mono ?_; rintro e w3 ⟨rfl, hp3⟩; have y1 : w3.cell? ⟨wr.heap.size, 1, none⟩ = some (.int .i64 s.2.1) := hp3.cell (cell_at' (heap_alloc_new wr _) 1 rfl) HNO.out; have y2 : w3.cell? ⟨wr.heap.size, 2, none⟩ = some (.int .i64 s.2.2) := hp3.cell (cell_at' (heap_alloc_new wr _) 2 rfl) HNO.out; have HP3 := Lib.hid hp3; clear hp3 HB))
          go_roundw
          case rel => exact ⟨k + 1, by omega, by go_num, (Put1.trans HFR.out HFM.out (HP5.out.base (Frm.alloc _ _ _))).cast (by rw [HST.out]; unfold encS; simp only [List.append_assoc, List.nil_append])⟩
          case measure => simp [intOf]; omega
      · obtain rfl : n = k := by omega
        go_wp2
        go_end0
        exact ⟨rfl, HP1.out.cast HFIN.out⟩
  · rw [tf_false hr] at HRT ⊢
    clear hr
    rw [if_neg (by decide), encC_nil]
    go_enter Tryz.func51, Tryz.ntmps51
    go_wp2_with (first
      | (go_at_call 78; refine HRT.out.mono ?_; rintro e w1 ⟨rfl, hw1⟩; have HP0 := Lib.hid ((Put1.start HO.out).keep0 hw1); clear hw1)
      | (go_at_call 95; refine (putNum HP0.out 0 ⟨by omega, by omega⟩ (by simp only [List.length_nil]; omega)).mono ?_; rintro e w2 ⟨rfl, hp⟩; have HP := Lib.hid hp; clear hp))
    go_loopw [15] (fun i ww => i = .int .i64 0 ∧ Put1 w ob v bs (numB 0) ww) (fun i _ => 0)
    case atStart => exact ⟨rfl, HP.out⟩
    case round =>
      obtain ⟨rfl, hp⟩ := hrel
      have HP1 := Lib.hid hp; clear hp
      go_wp2
      go_end0
      exact ⟨rfl, HP1.out⟩
end Go.Proofs.YtggfoihfenlckaaGreat