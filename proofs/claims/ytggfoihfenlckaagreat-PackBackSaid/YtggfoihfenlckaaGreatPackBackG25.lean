/- Words for the law PackBack: PackBack. -/
import Derived.Test.YtggfoihfenlckaaGreatPackBackG4
import Derived.Test.YtggfoihfenlckaaGreatPackBackG24
set_option linter.unusedSimpArgs false
set_option linter.unusedVariables false
/- The law PackBack: its walk. Printed by wip/packbackgen.py. -/
namespace Go.Proofs.YtggfoihfenlckaaGreat
open Go.RowKit
/-- A thing all of which may be. -/
structure Th.Right (o : Th) : Prop where
  ctx : RightC o.c
  cau : CauRight o.es o.ks o.xc
  op : opB o.ss o.a o.s o.n = true
  vec : MayV (vecF o.v0 o.v1 o.v2 o.v3)
theorem thB_right {o : Th} (h : o.Right) : thB o = if o.kind = 0 then encC o.c else if o.kind = 1 then encT o.es o.ks else if o.kind = 2 then encX o.es o.ks o.xc else if o.kind = 3 then encO o.ss o.a o.s o.n else encV o.v0 o.v1 o.v2 o.v3 := by
  unfold thB
  have e0 : ctxB o.c = encC o.c := if_pos (tf_true h.ctx)
  have e1 : treeB o.es o.ks = encT o.es o.ks := if_pos h.cau.tree
  have e2 : cauB o.es o.ks o.xc = encX o.es o.ks o.xc := if_pos (tf_true h.cau)
  have e3 : opY o.ss o.a o.s o.n = encO o.ss o.a o.s o.n := if_pos h.op
  have e4 : vecB o.v0 o.v1 o.v2 o.v3 = encV o.v0 o.v1 o.v2 o.v3 := if_pos (tf_true h.vec)
  rw [e0, e1, e2, e3, e4]
theorem drop_at {l : List Th} {k : Nat} (h : k < l.length) : (l.drop k).flatMap thB = thB (l.getD k Th.zero) ++ (l.drop (k + 1)).flatMap thB := by
  rw [List.drop_eq_getElem_cons h, List.flatMap_cons, getD_at Th.zero h]
theorem ths_drop {l : List Th} (h : ∀ o ∈ l, o.Ok) (hl : l.length ≤ 12) (k : Nat) : ((l.drop k).flatMap thB).length ≤ 60000 := by
  have h1 : ((l.drop k).flatMap thB).length ≤ 5000 * (l.drop k).length := flat_le fun o ho => thB_le (h o (List.mem_of_mem_drop ho))
  have : (l.drop k).length ≤ 12 := by rw [List.length_drop]; omega
  omega
/-- The program's In while things are taken back. -/
structure BK (w W : World) (ib : Nat) (st : Option (List UInt8)) : Prop where
  ins : InSt W ib st
  frm : Frm NoS w W
  hib : w.heap.size ≤ ib
theorem BK.get {w W W' : World} {ib : Nat} {st st' : Option (List UInt8)} (h : BK w W ib st) (hi : InSt W' ib st') (f : Frm (Only ib) W W') : BK w W' ib st' :=
  ⟨hi, h.frm.trans f fun i hi' e => (by have e : i = ib := e; have := h.hib; omega), h.hib⟩
theorem BK.keep0 {w W W' : World} {ib : Nat} {st : Option (List UInt8)} (h : BK w W ib st) (f : Frm NoS W W') : BK w W' ib st := ⟨h.ins.keep f fun _ _ => id, h.frm.then1 f, h.hib⟩
set_option maxHeartbeats 16000000 in
set_option maxRecDepth 1000000 in
theorem packBack_walk (w : World) (v : Value) (hv : ∃ l, ThsAt w v l) : Calls Tryz.prog 5 #[v] w fun e w' => e = .returned (.bool true) ∧ Frm (fun _ => False) w w' := by
  obtain ⟨l, h⟩ := hv
  have HA := Lib.hid awake16_any
  have HFW := Lib.hid (fun W (f : Frm NoS w W) => few16_any l W v (h.keep0 f))
  have HL := Lib.hid h; clear h
  obtain ⟨a0, c0, rfl⟩ := HL.out.rd.sl
  cases hfew : fewB l with
  | false =>
    rw [hfew] at HFW
    clear hfew
    generalize l.length = n at *
    go_enter Tryz.func5, Tryz.ntmps5
    go_wp2_with (first
      | (go_at_call 12; go_loud (refine (HFW.out _ HF1.out).mono ?_); rintro e w2 ⟨rfl, hf2⟩; have HF2 := Lib.hid (HF1.out.then1 hf2); clear hf2)
      | (go_at_call 11; first
        | (have q9 := HF2; go_loud (refine (HA.out _).mono ?_); rintro e w3 ⟨rfl, hf3⟩; clear q9; have HF3 := Lib.hid (HF2.out.then1 hf3); clear hf3)
        | (go_loud (refine (HA.out _).mono ?_); rintro e w1 ⟨rfl, hf1⟩; have HF1 := Lib.hid hf1; clear hf1)))
    go_ret
    exact ⟨rfl, HF3.out⟩
  | true =>
    rw [hfew] at HFW
    obtain ⟨hl12, hoks⟩ := fewB_ok hfew fun o ho => (HL.out.each o ho).2
    clear hfew
    have HOK := Lib.hid hoks; clear hoks
    have HLE := Lib.hid (ths_le HOK.out)
    have HLD := Lib.hid (ths_drop HOK.out hl12)
    have HTA := Lib.hid (show (l.take l.length).flatMap thB = l.flatMap thB by rw [List.take_length])
    have HDA := Lib.hid (show (l.drop l.length).flatMap thB = [] by rw [List.drop_length]; rfl)
    generalize hn : l.length = n at *
    have HN := Lib.hid hn; clear hn
    go_enter Tryz.func5, Tryz.ntmps5
    go_wp2_with (first
      | (go_at_call 12; go_loud (refine (HFW.out _ HF1.out).mono ?_); rintro e w2 ⟨rfl, hf2⟩; have HF2 := Lib.hid (HF1.out.then1 hf2); have HO2 := Lib.hid (out_new w2); clear hf2)
      | (go_at_call 11; go_loud (refine (HA.out _).mono ?_); rintro e w1 ⟨rfl, hf1⟩; have HF1 := Lib.hid hf1; clear hf1))
    go_loopw [21] (fun i W => ∃ (k : Nat) (ov : Value), k ≤ n ∧ i = .int .i64 k ∧ (∀ o ∈ l.take k, o.Right) ∧ OutAt W w2.heap.size ov ((l.take k).flatMap thB) ∧ (∀ b, OutS w2.heap.size ov b → w.heap.size ≤ b) ∧ Frm NoS w W) (fun i _ => n - (intOf i).toNat)
    case atStart => exact ⟨0, .slice none 0 0, Nat.zero_le _, rfl, (fun o ho => by simp at ho), HO2.out, fun b hb => (by
      rcases hb with hb | hb
      · rw [hb]; exact HF2.out.size
      · simp [Value.ownBlock] at hb), HF2.out.then1 (Frm.alloc NoS _ _)⟩
    case round =>
      obtain ⟨k, ov, hk, rfl, hrt, hoa, hnew, hfw⟩ := hrel
      have HRT := Lib.hid hrt; clear hrt
      have HOA := Lib.hid hoa; clear hoa
      have HNEW := Lib.hid hnew; clear hnew
      have HFR := Lib.hid hfw; clear hfw
      have hLL := HLE.out k
      by_cases hlt : k < n
      · have hlk : k < l.length := by rw [HN.out]; exact hlt
        have hrd := (HL.out.keep0 HFR.out).rd
        rw [HN.out] at hrd
        rcases Rd.shape hrd with ⟨ad, he, hz⟩ | ⟨b, off, cc, he, hmax⟩
        · exfalso; omega
        injection he with e1 e2 e3
        subst e1 e3
        clear e2 hmax
        have HCL := Lib.hid (fun W (f : Frm NoS wr W) => th_cells (hrd.keep0 f) k hlk)
        obtain ⟨⟨x0, x1, x2, x3, x4⟩, ⟨x5, x6, x7, x8⟩, ⟨x9, x10, x11, x12⟩⟩ := th_cells hrd k hlk
        obtain ⟨hth, hft⟩ := HL.out.each _ (getD_mem Th.zero hlk)
        have hok := HOK.out _ (getD_mem Th.zero hlk)
        have hbl := thB_le hok
        have HST := Lib.hid (thB_take hlk)
        have hrt1 : (l.getD k Th.zero).Right → ∀ o ∈ l.take (k + 1), o.Right := fun h o ho => by
          rw [take_succ Th.zero hlk] at ho
          rcases List.mem_append.1 ho with ho | ho
          · exact HRT.out o ho
          · simp only [List.mem_singleton] at ho; subst ho; exact h
        have HR1 := Lib.hid hrt1; clear hrt1
        have HPT := Lib.hid (fun W (f : Frm NoS wr W) => put16_any w (l.getD k Th.zero) hth hft hok W (HFR.out.then1 f) w2.heap.size ov ((l.take k).flatMap thB) (HOA.out.keep0 f) HNEW.out (by omega))
        clear hrd
        obtain ⟨sa, sb, sc⟩ := (⟨Rd.sl hth.ctx, hth.cau.shape, hth.pth.sl⟩ : _ ∧ _ ∧ _)
        generalize thB (l.getD k Th.zero) = bb at *
        generalize hoo : l.getD k Th.zero = o at *
        obtain ⟨kind, cv, ev, kv, xv, pv, a, s, n0, v0, v1, v2, v3, c, es, ks, xc, ss⟩ := o
        clear hoo
        dsimp only at x0 x1 x2 x3 x4 x5 x6 x7 x8 x9 x10 x11 x12 sa sb sc HPT HCL
        obtain ⟨a5, c5, rfl⟩ := sa
        obtain ⟨a1, c1, a2, c2, a3, c3, rfl, rfl, rfl⟩ := sb
        obtain ⟨a6, c6, rfl⟩ := sc
        obtain ⟨hc, hx, hp⟩ := hth
        obtain ⟨hcf, -, -, -, -, hsl⟩ := hft
        dsimp only at hc hx hp hcf hsl
        have HCR := Lib.hid (fun W (f : Frm NoS w W) => r7Right_any W _ c (show CtxAt W _ c from Rd.keep0 hc f) hcf (by have := hok.c60; dsimp only at this; omega))
        have HXR := Lib.hid (fun W (f : Frm NoS w W) => r9Right_any (fun _ => True) es ks xc W _ _ _ (hx.keep0 f) hok.cau)
        have HOR := Lib.hid (fun W (f : Frm NoS w W) => r15Op_any ss a n0 s W _ (hp.keep0 f) (by have := hok.pl; dsimp only at this; omega) hsl)
        have HMR := Lib.hid (fun W => r7May_any W v0 v1 v2 v3)
        clear hc hx hp hcf hsl hok
        by_cases g0 : RightC c
        rotate_left 1
        · rw [tf_false g0] at HCR
          clear g0 HXR HOR HMR HPT HR1
          go_wp2_with (go_at_call 21; go_loud (refine (HCR.out _ HFR.out).mono ?_); rintro e w3 ⟨rfl, hf3⟩; have HF3 := Lib.hid hf3; clear hf3)
          go_ret
          exact ⟨rfl, HFR.out.then1 HF3.out⟩
        rw [tf_true g0] at HCR
        by_cases g1 : CauRight es ks xc
        rotate_left 1
        · rw [tf_false g1] at HXR
          clear g0 g1 HOR HMR HPT HR1
          go_wp2_with (first
            | (go_at_call 21; go_loud (refine (HCR.out _ HFR.out).mono ?_); rintro e w3 ⟨rfl, hf3⟩; clear x0 x1 x2 x3 x4 x5 x6 x7 x8 x9 x10 x11 x12; obtain ⟨⟨x0, x1, x2, x3, x4⟩, ⟨x5, x6, x7, x8⟩, ⟨x9, x10, x11, x12⟩⟩ := HCL.out _ hf3; have HF3 := Lib.hid hf3; clear hf3)
            | (go_at_call 22; go_loud (refine (HXR.out _ (HFR.out.then1 HF3.out)).mono ?_); rintro e w4 ⟨rfl, hf4⟩; have HF4 := Lib.hid hf4; clear hf4))
          go_ret
          exact ⟨rfl, (HFR.out.then1 HF3.out).then1 HF4.out⟩
        rw [tf_true g1] at HXR
        cases g2 : opB ss a s n0 with
        | false =>
          rw [g2] at HOR
          clear g0 g1 g2 HMR HPT HR1
          go_wp2_with (first
            | (go_at_call 21; go_loud (refine (HCR.out _ HFR.out).mono ?_); rintro e w3 ⟨rfl, hf3⟩; clear x0 x1 x2 x3 x4 x5 x6 x7 x8 x9 x10 x11 x12; obtain ⟨⟨x0, x1, x2, x3, x4⟩, ⟨x5, x6, x7, x8⟩, ⟨x9, x10, x11, x12⟩⟩ := HCL.out _ hf3; have HF3 := Lib.hid hf3; clear hf3)
            | (go_at_call 22; go_loud (refine (HXR.out _ (HFR.out.then1 HF3.out)).mono ?_); rintro e w4 ⟨rfl, hf4⟩; clear x0 x1 x2 x3 x4 x5 x6 x7 x8 x9 x10 x11 x12; obtain ⟨⟨x0, x1, x2, x3, x4⟩, ⟨x5, x6, x7, x8⟩, ⟨x9, x10, x11, x12⟩⟩ := HCL.out _ (HF3.out.then1 hf4); have HF4 := Lib.hid (HF3.out.then1 hf4); clear hf4)
            | (go_at_call 23; go_loud (refine (HOR.out _ (HFR.out.then1 HF4.out)).mono ?_); rintro e w5 ⟨xx, rfl, hxx, hf5⟩; have hxn : (xx != 0) = true := by { have h9 : ¬ xx = 0 := fun e => Bool.false_ne_true (hxx.1 e); simp [bne, h9] }; clear hxx; have HF5 := Lib.hid (HF4.out.then1 hf5); clear hf5))
          go_ret
          exact ⟨rfl, HFR.out.then1 HF5.out⟩
        | true =>
          rw [g2] at HOR
          by_cases g3 : MayV (vecF v0 v1 v2 v3)
          rotate_left 1
          · rw [tf_false g3] at HMR
            clear g0 g1 g2 g3 HPT HR1
            go_wp2_with (first
              | (go_at_call 21; go_loud (refine (HCR.out _ HFR.out).mono ?_); rintro e w3 ⟨rfl, hf3⟩; clear x0 x1 x2 x3 x4 x5 x6 x7 x8 x9 x10 x11 x12; obtain ⟨⟨x0, x1, x2, x3, x4⟩, ⟨x5, x6, x7, x8⟩, ⟨x9, x10, x11, x12⟩⟩ := HCL.out _ hf3; have HF3 := Lib.hid hf3; clear hf3)
              | (go_at_call 22; go_loud (refine (HXR.out _ (HFR.out.then1 HF3.out)).mono ?_); rintro e w4 ⟨rfl, hf4⟩; clear x0 x1 x2 x3 x4 x5 x6 x7 x8 x9 x10 x11 x12; obtain ⟨⟨x0, x1, x2, x3, x4⟩, ⟨x5, x6, x7, x8⟩, ⟨x9, x10, x11, x12⟩⟩ := HCL.out _ (HF3.out.then1 hf4); have HF4 := Lib.hid (HF3.out.then1 hf4); clear hf4)
              | (go_at_call 23; go_loud (refine (HOR.out _ (HFR.out.then1 HF4.out)).mono ?_); rintro e w5 ⟨xx, rfl, hxx, hf5⟩; obtain rfl := hxx.2 rfl; clear hxx; clear x0 x1 x2 x3 x4 x5 x6 x7 x8 x9 x10 x11 x12; obtain ⟨⟨x0, x1, x2, x3, x4⟩, ⟨x5, x6, x7, x8⟩, ⟨x9, x10, x11, x12⟩⟩ := HCL.out _ (HF4.out.then1 hf5); have HF5 := Lib.hid (HF4.out.then1 hf5); clear hf5)
              | (go_at_call 24; go_loud (refine (HMR.out _).mono ?_); rintro e w6 ⟨rfl, hf6⟩; have HF6 := Lib.hid (HF5.out.then1 hf6); clear hf6))
            go_ret
            exact ⟨rfl, HFR.out.then1 HF6.out⟩
          rw [tf_true g3] at HMR
          have HRX := Lib.hid (HR1.out ⟨g0, g1, g2, g3⟩)
          clear g0 g1 g2 g3 HR1
          go_wp2_with (first
            | (go_at_call 21; go_loud (refine (HCR.out _ HFR.out).mono ?_); rintro e w3 ⟨rfl, hf3⟩; clear x0 x1 x2 x3 x4 x5 x6 x7 x8 x9 x10 x11 x12; obtain ⟨⟨x0, x1, x2, x3, x4⟩, ⟨x5, x6, x7, x8⟩, ⟨x9, x10, x11, x12⟩⟩ := HCL.out _ hf3; have HF3 := Lib.hid hf3; clear hf3)
            | (go_at_call 22; go_loud (refine (HXR.out _ (HFR.out.then1 HF3.out)).mono ?_); rintro e w4 ⟨rfl, hf4⟩; clear x0 x1 x2 x3 x4 x5 x6 x7 x8 x9 x10 x11 x12; obtain ⟨⟨x0, x1, x2, x3, x4⟩, ⟨x5, x6, x7, x8⟩, ⟨x9, x10, x11, x12⟩⟩ := HCL.out _ (HF3.out.then1 hf4); have HF4 := Lib.hid (HF3.out.then1 hf4); clear hf4)
            | (go_at_call 23; go_loud (refine (HOR.out _ (HFR.out.then1 HF4.out)).mono ?_); rintro e w5 ⟨xx, rfl, hxx, hf5⟩; obtain rfl := hxx.2 rfl; clear hxx; clear x0 x1 x2 x3 x4 x5 x6 x7 x8 x9 x10 x11 x12; obtain ⟨⟨x0, x1, x2, x3, x4⟩, ⟨x5, x6, x7, x8⟩, ⟨x9, x10, x11, x12⟩⟩ := HCL.out _ (HF4.out.then1 hf5); have HF5 := Lib.hid (HF4.out.then1 hf5); clear hf5)
            | (go_at_call 24; go_loud (refine (HMR.out _).mono ?_); rintro e w6 ⟨rfl, hf6⟩; clear x0 x1 x2 x3 x4 x5 x6 x7 x8 x9 x10 x11 x12; obtain ⟨⟨x0, x1, x2, x3, x4⟩, ⟨x5, x6, x7, x8⟩, ⟨x9, x10, x11, x12⟩⟩ := HCL.out _ (HF5.out.then1 hf6); have HF6 := Lib.hid (HF5.out.then1 hf6); clear hf6)
            | (go_at_call 13; go_loud (refine (HPT.out _ HF6.out).mono ?_); rintro e w8 ⟨w7, ⟨ov', ho7, fr7, fm7⟩, a7, c7, t7, ht7, rfl, cp7⟩; have HO8 := Lib.hid (ho7.keep0 cp7.frm); have HN8 := Lib.hid (show ∀ b, OutS w2.heap.size ov' b → w.heap.size ≤ b from fun b hb => (by
                 rcases hb with hb | hb
                 · exact HNEW.out b (.inl hb)
                 · rcases fr7 b hb with e | e
                   · exact HNEW.out b (.inr e)
                   · have := (HFR.out.then1 HF6.out).size; omega))
               have HF8 := Lib.hid (((HFR.out.then1 HF6.out).trans fm7 fun i hi hs => absurd (HNEW.out i hs) (by omega)).then1 cp7.frm); clear ho7 fr7 fm7 ht7 cp7))
          clear x0 x1 x2 x3 x4 x5 x6 x7 x8 x9 x10 x11 x12
          go_roundw
          case rel => exact ⟨k + 1, ov', by omega, by go_num, HRX.out, by rw [HST.out]; exact HO8.out, HN8.out, HF8.out⟩
          case measure => simp [intOf]; omega
      · obtain rfl : n = k := by omega
        clear hk hlt
        have hoa : OutAt wr w2.heap.size ov (l.flatMap thB) := by rw [← HTA.out]; exact HOA.out
        have hrts : ∀ o ∈ l, o.Right := by
          have := HRT.out
          rwa [List.take_of_length_le (by rw [HN.out]; exact Nat.le_refl _)] at this
        have HRS := Lib.hid hrts; clear hrts
        have h6 : (l.flatMap thB).length ≤ 60000 := HLD.out 0
        have hend := end_all w2.heap.size wr ov (l.flatMap thB) hoa
        simp only [if_pos h6] at hend
        have HE := Lib.hid hend; clear hend hoa HOA HRT hLL
        have HD0 := Lib.hid (show (l.drop 0).flatMap thB = l.flatMap thB from rfl)
        generalize l.flatMap thB = bs at *
        go_wp2_with (first
          | (go_at_call 14; go_loud (refine HE.out.mono ?_); rintro e w5 ⟨v5, k5, rfl, rfl, cp5⟩; obtain ⟨a9, c9, rfl⟩ := cp5.shape; have HC5 := Lib.hid cp5; clear cp5)
          | (go_at_call 15; go_loud (refine (newin _ bs w5 HC5.out.rd (by omega)).mono ?_); rintro e w6 ⟨ib, rfl, hst, hib, hf6⟩; have HBK := Lib.hid (show BK w w6 ib (some bs) from ⟨hst, (HFR.out.then1 HC5.out.frm).then1 hf6, Nat.le_trans (HFR.out.then1 HC5.out.frm).size hib⟩); clear hst hib hf6))
        go_loopw [72] (fun i W => ∃ (k : Nat), k ≤ n ∧ i = .int .i64 k ∧ BK w W ib (some ((l.drop k).flatMap thB))) (fun i _ => n - (intOf i).toNat)
        case atStart => exact ⟨0, Nat.zero_le _, rfl, by rw [HD0.out]; exact HBK.out⟩
        case round =>
          clear HBK
          obtain ⟨k, hk, rfl, hbk⟩ := hrel
          by_cases hlt : k < n
          · have hlk : k < l.length := by rw [HN.out]; exact hlt
            have hrd := (HL.out.keep0 hbk.frm).rd
            rw [HN.out] at hrd
            rcases Rd.shape hrd with ⟨ad, he, hz⟩ | ⟨b, off, cc, he, hmax⟩
            · exfalso; omega
            injection he with e1 e2 e3
            subst e1 e3
            clear e2 hmax
            obtain ⟨⟨x0, x1, x2, x3, x4⟩, ⟨x5, x6, x7, x8⟩, ⟨x9, x10, x11, x12⟩⟩ := th_cells hrd k hlk
            obtain ⟨hth, hft⟩ := HL.out.each _ (getD_mem Th.zero hlk)
            have hok := HOK.out _ (getD_mem Th.zero hlk)
            have hrt := HRS.out _ (getD_mem Th.zero hlk)
            have hld := HLD.out k
            rw [drop_at hlk, thB_right hrt] at hbk hld
            generalize hre : (l.drop (k + 1)).flatMap thB = rest at *
            have HRE := Lib.hid hre; clear hre
            clear hrd
            obtain ⟨sa, sb, sc⟩ := (⟨Rd.sl hth.ctx, hth.cau.shape, hth.pth.sl⟩ : _ ∧ _ ∧ _)
            generalize l.getD k Th.zero = o at *
            obtain ⟨kind, cv, ev, kv, xv, pv, a, s, n0, v0, v1, v2, v3, c, es, ks, xc, ss⟩ := o
            dsimp only at x0 x1 x2 x3 x4 x5 x6 x7 x8 x9 x10 x11 x12 sa sb sc hbk hld
            obtain ⟨a5, c5, rfl⟩ := sa
            obtain ⟨a1, c1, a2, c2, a3, c3, rfl, rfl, rfl⟩ := sb
            obtain ⟨a6, c6, rfl⟩ := sc
            obtain ⟨hc, hx, hp⟩ := hth
            obtain ⟨g0, g1, g2, g3⟩ := hrt
            dsimp only at hc hx hp g0 g1 g2 g3
            have hco := hok.cau
            have h60 := hok.c60
            have hpl := hok.pl
            clear hok hft
            dsimp only at hco h60 hpl
            by_cases h0 : kind = 0
            · subst h0
              rw [if_pos rfl] at hbk hld
              have HGET := Lib.hid (fun Y h => ctx_at (CtxRes.make rest g0) ib Y h hld)
              have HBK := Lib.hid hbk; clear hbk
              go_wp2_with fail
              obtain ⟨WB, hWB⟩ : ∃ X, X = wr := ⟨wr, rfl⟩
              subst hWB
              have HBX := Lib.hid ((Frm.drew NoS (WB.alloc (.cells #[.int .u8 0, .slice a5 c.length c5, .slice a1 es.length c1, .slice a2 ks.len c2, .slice a3 xc.length c3, .slice a6 ss.length c6, .int .i64 a, .string s, .int .i64 n0, .int .i64 v0, .int .i64 v1, .int .i64 v2, .int .i64 v3] 44))).blk (heap_alloc_new WB (.cells #[.int .u8 0, .slice a5 c.length c5, .slice a1 es.length c1, .slice a2 ks.len c2, .slice a3 xc.length c3, .slice a6 ss.length c6, .int .i64 a, .string s, .int .i64 n0, .int .i64 v0, .int .i64 v1, .int .i64 v2, .int .i64 v3] 44)) id)
              have HBK0 := Lib.hid ((HBK.out.keep0 (Frm.alloc NoS WB (.cells #[.int .u8 0, .slice a5 c.length c5, .slice a1 es.length c1, .slice a2 ks.len c2, .slice a3 xc.length c3, .slice a6 ss.length c6, .int .i64 a, .string s, .int .i64 n0, .int .i64 v0, .int .i64 v1, .int .i64 v2, .int .i64 v3] 44))).keep0 (Frm.drew NoS _))
              refine wp_region_G (S := fun w' => w'.cell? ⟨WB.heap.size, 1, none⟩ = some (.slice a5 c.length c5)) 5 (by kernel_rfl) (cell_at' HBX.out 1 rfl) ?_
              intro hS
              have hnb : ¬ Only ib WB.heap.size := fun e => by have e : WB.heap.size = ib := e; have := HBK.out.ins.lt; omega
              have HNB := Lib.hid hnb; clear hnb
              generalize hY0 : World.drew _ = Y0 at *
              clear hY0 HBK HBX
              refine take_opG 0 88 (v := ?_) rfl rfl (by kernel_rfl) (by kernel_rfl) (by decide) (by kernel_rfl) (by kernel_rfl) (fun _ _ _ h => h) (Or.inl ⟨by rfl, ?_⟩) (by assumption) ?_
              rotate_left 1
              · (intro w hSw; (try dsimp only at hSw); go_simp; (try with_reducible rfl))
              try simp only [Act.put, List.setIfInBounds_toArray, List.set_cons_zero, List.set_cons_succ]
              refine take_opG 2 90 (v := ?_) rfl rfl (by kernel_rfl) (by kernel_rfl) (by decide) (by kernel_rfl) (by kernel_rfl) (fun _ _ _ h => h) (Or.inl ⟨by rfl, ?_⟩) (by assumption) ?_
              rotate_left 1
              · (intro w hSw; (try dsimp only at hSw); go_simp; (try with_reducible rfl))
              try simp only [Act.put, List.setIfInBounds_toArray, List.set_cons_zero, List.set_cons_succ]
              refine take_opG 3 91 (v := ?_) rfl rfl (by kernel_rfl) (by kernel_rfl) (by decide) (by kernel_rfl) (by kernel_rfl) (fun _ _ _ h => h) (Or.inl ⟨by rfl, ?_⟩) (by assumption) ?_
              rotate_left 1
              · (intro w hSw; (try dsimp only at hSw); go_simp; (try with_reducible rfl))
              try simp only [Act.put, List.setIfInBounds_toArray, List.set_cons_zero, List.set_cons_succ]
              refine one_opG (i := 1) (by kernel_rfl) rfl (fun K hK => ?_)
              go_simp
              refine (HGET.out Y0 HBK0.out.ins).mono ?_
              rintro e4 Y4 ⟨cv4, rfl, hx4, hi4, hf4⟩
              obtain ⟨a7, c7, rfl⟩ := hx4.rd.sl
              have HB4 := Lib.hid (HBK0.out.get hi4 hf4)
              have hS4 := ((hf4.cell' hS HNB.out) : Y4.cell? ⟨WB.heap.size, 1, none⟩ = some (.slice a5 c.length c5))
              have HSM := Lib.hid (r7Same_any Y4 _ _ c c hx4.rd (show CtxAt Y4 _ c from Rd.keep0 hc HB4.out.frm) (by omega) (by omega))
              rw [show decide (c = c) = true by simp] at HSM
              refine hK.out _ _ hS4 ?_
              clear hK K hS hi4 hf4
              try simp only [Act.put, List.setIfInBounds_toArray, List.set_cons_zero, List.set_cons_succ]
              refine one_opG (i := 4) (by kernel_rfl) rfl (fun K hK => ?_)
              go_simp
              refine HSM.out.mono ?_
              rintro e5 Y5 ⟨rfl, hf5⟩
              have HB5 := Lib.hid (HB4.out.keep0 hf5)
              have hS5 := ((hf5.cell' hS4 id) : Y5.cell? ⟨WB.heap.size, 1, none⟩ = some (.slice a5 c.length c5))
              refine hK.out _ _ hS5 ?_
              clear hK K hS4 hf5
              try simp only [Act.put, List.setIfInBounds_toArray, List.set_cons_zero, List.set_cons_succ]
              refine last_opG (by kernel_rfl) (by kernel_rfl) rfl (fun K hK => ?_)
              go_simp
              refine hK.out _ _ ?_
              clear hK K hS5
              go_wp2
              go_roundw
              case rel => exact ⟨k + 1, by omega, by go_num, by rw [HRE.out]; exact HB5.out⟩
              case measure => simp [intOf]; omega
            by_cases h1 : kind = 1
            · subst h1
              rw [if_neg (by decide)] at hbk hld
              rw [if_pos rfl] at hbk hld
              have HGET := Lib.hid (fun Y h => tree_at (TreeRes.make rest g1.tree) ib Y h hld)
              have HBK := Lib.hid hbk; clear hbk
              go_wp2_with fail
              obtain ⟨WB, hWB⟩ : ∃ X, X = wr := ⟨wr, rfl⟩
              subst hWB
              have HBX := Lib.hid ((Frm.drew NoS (WB.alloc (.cells #[.int .u8 1, .slice a5 c.length c5, .slice a1 es.length c1, .slice a2 ks.len c2, .slice a3 xc.length c3, .slice a6 ss.length c6, .int .i64 a, .string s, .int .i64 n0, .int .i64 v0, .int .i64 v1, .int .i64 v2, .int .i64 v3] 44))).blk (heap_alloc_new WB (.cells #[.int .u8 1, .slice a5 c.length c5, .slice a1 es.length c1, .slice a2 ks.len c2, .slice a3 xc.length c3, .slice a6 ss.length c6, .int .i64 a, .string s, .int .i64 n0, .int .i64 v0, .int .i64 v1, .int .i64 v2, .int .i64 v3] 44)) id)
              have HBK0 := Lib.hid ((HBK.out.keep0 (Frm.alloc NoS WB (.cells #[.int .u8 1, .slice a5 c.length c5, .slice a1 es.length c1, .slice a2 ks.len c2, .slice a3 xc.length c3, .slice a6 ss.length c6, .int .i64 a, .string s, .int .i64 n0, .int .i64 v0, .int .i64 v1, .int .i64 v2, .int .i64 v3] 44))).keep0 (Frm.drew NoS _))
              refine wp_region_G (S := fun w' => w'.cell? ⟨WB.heap.size, 2, none⟩ = some (.slice a1 es.length c1) ∧ w'.cell? ⟨WB.heap.size, 3, none⟩ = some (.slice a2 ks.len c2)) 6 (by kernel_rfl) ⟨cell_at' HBX.out 2 rfl, cell_at' HBX.out 3 rfl⟩ ?_
              intro hS
              have hnb : ¬ Only ib WB.heap.size := fun e => by have e : WB.heap.size = ib := e; have := HBK.out.ins.lt; omega
              have HNB := Lib.hid hnb; clear hnb
              generalize hY0 : World.drew _ = Y0 at *
              clear hY0 HBK HBX
              refine take_opG 0 95 (v := ?_) rfl rfl (by kernel_rfl) (by kernel_rfl) (by decide) (by kernel_rfl) (by kernel_rfl) (fun _ _ _ h => h) (Or.inl ⟨by rfl, ?_⟩) (by assumption) ?_
              rotate_left 1
              · (intro w hSw; (try dsimp only at hSw); go_simp; (try with_reducible rfl))
              try simp only [Act.put, List.setIfInBounds_toArray, List.set_cons_zero, List.set_cons_succ]
              refine take_opG 2 97 (v := ?_) rfl rfl (by kernel_rfl) (by kernel_rfl) (by decide) (by kernel_rfl) (by kernel_rfl) (fun _ _ _ h => h) (Or.inl ⟨by rfl, ?_⟩) (by assumption) ?_
              rotate_left 1
              · (intro w hSw; (try dsimp only at hSw); go_simp; (try with_reducible rfl))
              try simp only [Act.put, List.setIfInBounds_toArray, List.set_cons_zero, List.set_cons_succ]
              refine take_opG 3 98 (v := ?_) rfl rfl (by kernel_rfl) (by kernel_rfl) (by decide) (by kernel_rfl) (by kernel_rfl) (fun _ _ _ h => h) (Or.inl ⟨by rfl, ?_⟩) (by assumption) ?_
              rotate_left 1
              · (intro w hSw; (try dsimp only at hSw); go_simp; (try with_reducible rfl))
              try simp only [Act.put, List.setIfInBounds_toArray, List.set_cons_zero, List.set_cons_succ]
              refine take_opG 4 99 (v := ?_) rfl rfl (by kernel_rfl) (by kernel_rfl) (by decide) (by kernel_rfl) (by kernel_rfl) (fun _ _ _ h => h) (Or.inl ⟨by rfl, ?_⟩) (by assumption) ?_
              rotate_left 1
              · (intro w hSw; (try dsimp only at hSw); go_simp; (try with_reducible rfl))
              try simp only [Act.put, List.setIfInBounds_toArray, List.set_cons_zero, List.set_cons_succ]
              refine one_opG (i := 1) (by kernel_rfl) rfl (fun K hK => ?_)
              go_simp
              refine (HGET.out Y0 HBK0.out.ins).mono ?_
              rintro e4 Y4 ⟨ev4, kv4, rfl, hx4, hi4, hf4⟩
              obtain ⟨a7, c7, rfl⟩ := hx4.ents.rd.sl
              obtain ⟨os5, hkr5, -⟩ := hx4.kids
              obtain ⟨a8, c8, rfl⟩ := hkr5.rd.sl
              clear hkr5
              have HB4 := Lib.hid (HBK0.out.get hi4 hf4)
              have hS4 := (⟨hf4.cell' hS.1 HNB.out, hf4.cell' hS.2 HNB.out⟩ : Y4.cell? ⟨WB.heap.size, 2, none⟩ = some (.slice a1 es.length c1) ∧ Y4.cell? ⟨WB.heap.size, 3, none⟩ = some (.slice a2 ks.len c2))
              have HSM := Lib.hid (r8Same_any _ _ (sizeK ks + 1) es ks es ks Y4 _ _ _ _ (Nat.lt_succ_self _) hx4 (hx.keep0 HB4.out.frm).tree (Nat.le_trans hco.small (by decide)) (Nat.le_trans hco.small (by decide)))
              rw [tf_true ⟨rfl, rfl⟩] at HSM
              refine hK.out _ _ hS4 ?_
              clear hK K hS hi4 hf4
              try simp only [Act.put, List.setIfInBounds_toArray, List.set_cons_zero, List.set_cons_succ]
              refine one_opG (i := 5) (by kernel_rfl) rfl (fun K hK => ?_)
              go_simp
              refine HSM.out.mono ?_
              rintro e5 Y5 ⟨rfl, hf5⟩
              have HB5 := Lib.hid (HB4.out.keep0 hf5)
              have hS5 := (⟨hf5.cell' hS4.1 id, hf5.cell' hS4.2 id⟩ : Y5.cell? ⟨WB.heap.size, 2, none⟩ = some (.slice a1 es.length c1) ∧ Y5.cell? ⟨WB.heap.size, 3, none⟩ = some (.slice a2 ks.len c2))
              refine hK.out _ _ hS5 ?_
              clear hK K hS4 hf5
              try simp only [Act.put, List.setIfInBounds_toArray, List.set_cons_zero, List.set_cons_succ]
              refine last_opG (by kernel_rfl) (by kernel_rfl) rfl (fun K hK => ?_)
              go_simp
              refine hK.out _ _ ?_
              clear hK K hS5
              go_wp2
              go_roundw
              case rel => exact ⟨k + 1, by omega, by go_num, by rw [HRE.out]; exact HB5.out⟩
              case measure => simp [intOf]; omega
            by_cases h2 : kind = 2
            · subst h2
              rw [if_neg (by decide)] at hbk hld
              rw [if_neg (by decide)] at hbk hld
              rw [if_pos rfl] at hbk hld
              have HGET := Lib.hid (fun Y h => pGetCausal_fit ib _ (some rest) es ks xc Y (CauRes.make rest g1) h hld (.known g1 hco))
              unfold CauTk at HGET
              have HBK := Lib.hid hbk; clear hbk
              go_wp2_with fail
              obtain ⟨WB, hWB⟩ : ∃ X, X = wr := ⟨wr, rfl⟩
              subst hWB
              have HBX := Lib.hid ((Frm.drew NoS (WB.alloc (.cells #[.int .u8 2, .slice a5 c.length c5, .slice a1 es.length c1, .slice a2 ks.len c2, .slice a3 xc.length c3, .slice a6 ss.length c6, .int .i64 a, .string s, .int .i64 n0, .int .i64 v0, .int .i64 v1, .int .i64 v2, .int .i64 v3] 44))).blk (heap_alloc_new WB (.cells #[.int .u8 2, .slice a5 c.length c5, .slice a1 es.length c1, .slice a2 ks.len c2, .slice a3 xc.length c3, .slice a6 ss.length c6, .int .i64 a, .string s, .int .i64 n0, .int .i64 v0, .int .i64 v1, .int .i64 v2, .int .i64 v3] 44)) id)
              have HBK0 := Lib.hid ((HBK.out.keep0 (Frm.alloc NoS WB (.cells #[.int .u8 2, .slice a5 c.length c5, .slice a1 es.length c1, .slice a2 ks.len c2, .slice a3 xc.length c3, .slice a6 ss.length c6, .int .i64 a, .string s, .int .i64 n0, .int .i64 v0, .int .i64 v1, .int .i64 v2, .int .i64 v3] 44))).keep0 (Frm.drew NoS _))
              refine wp_region_G (S := fun w' => w'.cell? ⟨WB.heap.size, 2, none⟩ = some (.slice a1 es.length c1) ∧ w'.cell? ⟨WB.heap.size, 3, none⟩ = some (.slice a2 ks.len c2) ∧ w'.cell? ⟨WB.heap.size, 4, none⟩ = some (.slice a3 xc.length c3)) 5 (by kernel_rfl) ⟨cell_at' HBX.out 2 rfl, cell_at' HBX.out 3 rfl, cell_at' HBX.out 4 rfl⟩ ?_
              intro hS
              have hnb : ¬ Only ib WB.heap.size := fun e => by have e : WB.heap.size = ib := e; have := HBK.out.ins.lt; omega
              have HNB := Lib.hid hnb; clear hnb
              generalize hY0 : World.drew _ = Y0 at *
              clear hY0 HBK HBX
              refine take_opG 0 103 (v := ?_) rfl rfl (by kernel_rfl) (by kernel_rfl) (by decide) (by kernel_rfl) (by kernel_rfl) (fun _ _ _ h => h) (Or.inl ⟨by rfl, ?_⟩) (by assumption) ?_
              rotate_left 1
              · (intro w hSw; (try dsimp only at hSw); go_simp; (try with_reducible rfl))
              try simp only [Act.put, List.setIfInBounds_toArray, List.set_cons_zero, List.set_cons_succ]
              refine take_opG 2 105 (v := ?_) rfl rfl (by kernel_rfl) (by kernel_rfl) (by decide) (by kernel_rfl) (by kernel_rfl) (fun _ _ _ h => h) (Or.inl ⟨by rfl, ?_⟩) (by assumption) ?_
              rotate_left 1
              · (intro w hSw; (try dsimp only at hSw); go_simp; (try with_reducible rfl))
              try simp only [Act.put, List.setIfInBounds_toArray, List.set_cons_zero, List.set_cons_succ]
              refine take_opG 3 106 (v := ?_) rfl rfl (by kernel_rfl) (by kernel_rfl) (by decide) (by kernel_rfl) (by kernel_rfl) (fun _ _ _ h => h) (Or.inl ⟨by rfl, ?_⟩) (by assumption) ?_
              rotate_left 1
              · (intro w hSw; (try dsimp only at hSw); go_simp; (try with_reducible rfl))
              try simp only [Act.put, List.setIfInBounds_toArray, List.set_cons_zero, List.set_cons_succ]
              refine one_opG (i := 1) (by kernel_rfl) rfl (fun K hK => ?_)
              go_simp
              refine (HGET.out Y0 HBK0.out.ins).mono ?_
              rintro e4 Y4 ⟨ev4, kv4, cv4, rfl, hx4, hy4, hi4, hf4⟩
              obtain ⟨a7, c7, rfl⟩ := hx4.ents.rd.sl
              obtain ⟨os5, hkr5, -⟩ := hx4.kids
              obtain ⟨a8, c8, rfl⟩ := hkr5.rd.sl
              clear hkr5
              obtain ⟨a9', c9', rfl⟩ := hy4.rd.sl
              have HB4 := Lib.hid (HBK0.out.get hi4 hf4)
              have hS4 := (⟨hf4.cell' hS.1 HNB.out, hf4.cell' hS.2.1 HNB.out, hf4.cell' hS.2.2 HNB.out⟩ : Y4.cell? ⟨WB.heap.size, 2, none⟩ = some (.slice a1 es.length c1) ∧ Y4.cell? ⟨WB.heap.size, 3, none⟩ = some (.slice a2 ks.len c2) ∧ Y4.cell? ⟨WB.heap.size, 4, none⟩ = some (.slice a3 xc.length c3))
              have HSM := Lib.hid (r9Same_any _ _ es ks xc es ks xc Y4 _ _ _ _ _ _ ⟨hx4, hy4.at_⟩ hco (hx.keep0 HB4.out.frm) hco)
              rw [tf_true ⟨⟨rfl, rfl⟩, rfl⟩] at HSM
              refine hK.out _ _ hS4 ?_
              clear hK K hS hi4 hf4
              try simp only [Act.put, List.setIfInBounds_toArray, List.set_cons_zero, List.set_cons_succ]
              refine one_opG (i := 4) (by kernel_rfl) rfl (fun K hK => ?_)
              go_simp
              refine HSM.out.mono ?_
              rintro e5 Y5 ⟨rfl, hf5⟩
              have HB5 := Lib.hid (HB4.out.keep0 hf5)
              have hS5 := (⟨hf5.cell' hS4.1 id, hf5.cell' hS4.2.1 id, hf5.cell' hS4.2.2 id⟩ : Y5.cell? ⟨WB.heap.size, 2, none⟩ = some (.slice a1 es.length c1) ∧ Y5.cell? ⟨WB.heap.size, 3, none⟩ = some (.slice a2 ks.len c2) ∧ Y5.cell? ⟨WB.heap.size, 4, none⟩ = some (.slice a3 xc.length c3))
              refine hK.out _ _ hS5 ?_
              clear hK K hS4 hf5
              try simp only [Act.put, List.setIfInBounds_toArray, List.set_cons_zero, List.set_cons_succ]
              refine last_opG (by kernel_rfl) (by kernel_rfl) rfl (fun K hK => ?_)
              go_simp
              refine hK.out _ _ ?_
              clear hK K hS5
              go_wp2
              go_roundw
              case rel => exact ⟨k + 1, by omega, by go_num, by rw [HRE.out]; exact HB5.out⟩
              case measure => simp [intOf]; omega
            by_cases h3 : kind = 3
            · subst h3
              rw [if_neg (by decide)] at hbk hld
              rw [if_neg (by decide)] at hbk hld
              rw [if_neg (by decide)] at hbk hld
              rw [if_pos rfl] at hbk hld
              have HGET := Lib.hid (fun Y h => pGetOp_at ib _ (some rest) ss a n0 s Y (OpRes.make rest g2) h hld)
              unfold OpTk at HGET
              have HBK := Lib.hid hbk; clear hbk
              go_wp2_with fail
              obtain ⟨WB, hWB⟩ : ∃ X, X = wr := ⟨wr, rfl⟩
              subst hWB
              have HBX := Lib.hid ((Frm.drew NoS (WB.alloc (.cells #[.int .u8 3, .slice a5 c.length c5, .slice a1 es.length c1, .slice a2 ks.len c2, .slice a3 xc.length c3, .slice a6 ss.length c6, .int .i64 a, .string s, .int .i64 n0, .int .i64 v0, .int .i64 v1, .int .i64 v2, .int .i64 v3] 44))).blk (heap_alloc_new WB (.cells #[.int .u8 3, .slice a5 c.length c5, .slice a1 es.length c1, .slice a2 ks.len c2, .slice a3 xc.length c3, .slice a6 ss.length c6, .int .i64 a, .string s, .int .i64 n0, .int .i64 v0, .int .i64 v1, .int .i64 v2, .int .i64 v3] 44)) id)
              have HBK0 := Lib.hid ((HBK.out.keep0 (Frm.alloc NoS WB (.cells #[.int .u8 3, .slice a5 c.length c5, .slice a1 es.length c1, .slice a2 ks.len c2, .slice a3 xc.length c3, .slice a6 ss.length c6, .int .i64 a, .string s, .int .i64 n0, .int .i64 v0, .int .i64 v1, .int .i64 v2, .int .i64 v3] 44))).keep0 (Frm.drew NoS _))
              refine wp_region_G (S := fun w' => w'.cell? ⟨WB.heap.size, 5, none⟩ = some (.slice a6 ss.length c6) ∧ w'.cell? ⟨WB.heap.size, 6, none⟩ = some (.int .i64 a) ∧ w'.cell? ⟨WB.heap.size, 7, none⟩ = some (.string s) ∧ w'.cell? ⟨WB.heap.size, 8, none⟩ = some (.int .i64 n0)) 5 (by kernel_rfl) ⟨cell_at' HBX.out 5 rfl, cell_at' HBX.out 6 rfl, cell_at' HBX.out 7 rfl, cell_at' HBX.out 8 rfl⟩ ?_
              intro hS
              have hnb : ¬ Only ib WB.heap.size := fun e => by have e : WB.heap.size = ib := e; have := HBK.out.ins.lt; omega
              have HNB := Lib.hid hnb; clear hnb
              generalize hY0 : World.drew _ = Y0 at *
              clear hY0 HBK HBX
              refine take_opG 0 110 (v := ?_) rfl rfl (by kernel_rfl) (by kernel_rfl) (by decide) (by kernel_rfl) (by kernel_rfl) (fun _ _ _ h => h) (Or.inl ⟨by rfl, ?_⟩) (by assumption) ?_
              rotate_left 1
              · (intro w hSw; (try dsimp only at hSw); go_simp; (try with_reducible rfl))
              try simp only [Act.put, List.setIfInBounds_toArray, List.set_cons_zero, List.set_cons_succ]
              refine take_opG 2 112 (v := ?_) rfl rfl (by kernel_rfl) (by kernel_rfl) (by decide) (by kernel_rfl) (by kernel_rfl) (fun _ _ _ h => h) (Or.inl ⟨by rfl, ?_⟩) (by assumption) ?_
              rotate_left 1
              · (intro w hSw; (try dsimp only at hSw); go_simp; (try with_reducible rfl))
              try simp only [Act.put, List.setIfInBounds_toArray, List.set_cons_zero, List.set_cons_succ]
              refine take_opG 3 113 (v := ?_) rfl rfl (by kernel_rfl) (by kernel_rfl) (by decide) (by kernel_rfl) (by kernel_rfl) (fun _ _ _ h => h) (Or.inl ⟨by rfl, ?_⟩) (by assumption) ?_
              rotate_left 1
              · (intro w hSw; (try dsimp only at hSw); go_simp; (try with_reducible rfl))
              try simp only [Act.put, List.setIfInBounds_toArray, List.set_cons_zero, List.set_cons_succ]
              refine one_opG (i := 1) (by kernel_rfl) rfl (fun K hK => ?_)
              go_simp
              refine (HGET.out Y0 HBK0.out.ins).mono ?_
              rintro e4 Y4 ⟨pv4, rfl, hx4, hi4, hf4⟩
              obtain ⟨a7, c7, rfl⟩ := hx4.rd.sl
              have HB4 := Lib.hid (HBK0.out.get hi4 hf4)
              have hS4 := (⟨hf4.cell' hS.1 HNB.out, hf4.cell' hS.2.1 HNB.out, hf4.cell' hS.2.2.1 HNB.out, hf4.cell' hS.2.2.2 HNB.out⟩ : Y4.cell? ⟨WB.heap.size, 5, none⟩ = some (.slice a6 ss.length c6) ∧ Y4.cell? ⟨WB.heap.size, 6, none⟩ = some (.int .i64 a) ∧ Y4.cell? ⟨WB.heap.size, 7, none⟩ = some (.string s) ∧ Y4.cell? ⟨WB.heap.size, 8, none⟩ = some (.int .i64 n0))
              have HSM := Lib.hid (r16SameOp_same ss a n0 s Y4 _ _ hx4.rd (hp.keep0 HB4.out.frm) (by omega))
              refine hK.out _ _ hS4 ?_
              clear hK K hS hi4 hf4
              try simp only [Act.put, List.setIfInBounds_toArray, List.set_cons_zero, List.set_cons_succ]
              refine one_opG (i := 4) (by kernel_rfl) rfl (fun K hK => ?_)
              go_simp
              refine HSM.out.mono ?_
              rintro e5 Y5 ⟨rfl, hf5⟩
              have HB5 := Lib.hid (HB4.out.keep0 hf5)
              have hS5 := (⟨hf5.cell' hS4.1 id, hf5.cell' hS4.2.1 id, hf5.cell' hS4.2.2.1 id, hf5.cell' hS4.2.2.2 id⟩ : Y5.cell? ⟨WB.heap.size, 5, none⟩ = some (.slice a6 ss.length c6) ∧ Y5.cell? ⟨WB.heap.size, 6, none⟩ = some (.int .i64 a) ∧ Y5.cell? ⟨WB.heap.size, 7, none⟩ = some (.string s) ∧ Y5.cell? ⟨WB.heap.size, 8, none⟩ = some (.int .i64 n0))
              refine hK.out _ _ hS5 ?_
              clear hK K hS4 hf5
              try simp only [Act.put, List.setIfInBounds_toArray, List.set_cons_zero, List.set_cons_succ]
              refine last_opG (by kernel_rfl) (by kernel_rfl) rfl (fun K hK => ?_)
              go_simp
              refine hK.out _ _ ?_
              clear hK K hS5
              go_wp2
              go_roundw
              case rel => exact ⟨k + 1, by omega, by go_num, by rw [HRE.out]; exact HB5.out⟩
              case measure => simp [intOf]; omega
            rw [if_neg h0] at hbk hld
            rw [if_neg h1] at hbk hld
            rw [if_neg h2] at hbk hld
            rw [if_neg h3] at hbk hld
            have b0 : ((kind : Int) == 0) = false := beq_false_of_ne h0
            have b1 : ((kind : Int) == 1) = false := beq_false_of_ne h1
            have b2 : ((kind : Int) == 2) = false := beq_false_of_ne h2
            have b3 : ((kind : Int) == 3) = false := beq_false_of_ne h3
            have hve := vec_same v0 v1 v2 v3
            have HGET := Lib.hid (fun Y h => pGetVector_at ib _ (some rest) v0 v1 v2 v3 Y (VecRes.make rest g3) h)
            unfold VecTk at HGET
            have HBK := Lib.hid hbk; clear hbk
            go_wp2_with fail
            obtain ⟨WB, hWB⟩ : ∃ X, X = wr := ⟨wr, rfl⟩
            subst hWB
            have HBX := Lib.hid ((Frm.drew NoS (WB.alloc (.cells #[.int .u8 kind, .slice a5 c.length c5, .slice a1 es.length c1, .slice a2 ks.len c2, .slice a3 xc.length c3, .slice a6 ss.length c6, .int .i64 a, .string s, .int .i64 n0, .int .i64 v0, .int .i64 v1, .int .i64 v2, .int .i64 v3] 44))).blk (heap_alloc_new WB (.cells #[.int .u8 kind, .slice a5 c.length c5, .slice a1 es.length c1, .slice a2 ks.len c2, .slice a3 xc.length c3, .slice a6 ss.length c6, .int .i64 a, .string s, .int .i64 n0, .int .i64 v0, .int .i64 v1, .int .i64 v2, .int .i64 v3] 44)) id)
            have HBK0 := Lib.hid ((HBK.out.keep0 (Frm.alloc NoS WB (.cells #[.int .u8 kind, .slice a5 c.length c5, .slice a1 es.length c1, .slice a2 ks.len c2, .slice a3 xc.length c3, .slice a6 ss.length c6, .int .i64 a, .string s, .int .i64 n0, .int .i64 v0, .int .i64 v1, .int .i64 v2, .int .i64 v3] 44))).keep0 (Frm.drew NoS _))
            refine wp_region_G (S := fun w' => w'.cell? ⟨WB.heap.size, 9, none⟩ = some (.int .i64 v0) ∧ w'.cell? ⟨WB.heap.size, 10, none⟩ = some (.int .i64 v1) ∧ w'.cell? ⟨WB.heap.size, 11, none⟩ = some (.int .i64 v2) ∧ w'.cell? ⟨WB.heap.size, 12, none⟩ = some (.int .i64 v3)) 5 (by kernel_rfl) ⟨cell_at' HBX.out 9 rfl, cell_at' HBX.out 10 rfl, cell_at' HBX.out 11 rfl, cell_at' HBX.out 12 rfl⟩ ?_
            intro hS
            have hnb : ¬ Only ib WB.heap.size := fun e => by have e : WB.heap.size = ib := e; have := HBK.out.ins.lt; omega
            have HNB := Lib.hid hnb; clear hnb
            generalize hY0 : World.drew _ = Y0 at *
            clear hY0 HBK HBX
            refine take_opG 0 81 (v := ?_) rfl rfl (by kernel_rfl) (by kernel_rfl) (by decide) (by kernel_rfl) (by kernel_rfl) (fun _ _ _ h => h) (Or.inl ⟨by rfl, ?_⟩) (by assumption) ?_
            rotate_left 1
            · (intro w hSw; (try dsimp only at hSw); go_simp; (try with_reducible rfl))
            try simp only [Act.put, List.setIfInBounds_toArray, List.set_cons_zero, List.set_cons_succ]
            refine take_opG 2 83 (v := ?_) rfl rfl (by kernel_rfl) (by kernel_rfl) (by decide) (by kernel_rfl) (by kernel_rfl) (fun _ _ _ h => h) (Or.inl ⟨by rfl, ?_⟩) (by assumption) ?_
            rotate_left 1
            · (intro w hSw; (try dsimp only at hSw); go_simp; (try with_reducible rfl))
            try simp only [Act.put, List.setIfInBounds_toArray, List.set_cons_zero, List.set_cons_succ]
            refine take_opG 3 84 (v := ?_) rfl rfl (by kernel_rfl) (by kernel_rfl) (by decide) (by kernel_rfl) (by kernel_rfl) (fun _ _ _ h => h) (Or.inl ⟨by rfl, ?_⟩) (by assumption) ?_
            rotate_left 1
            · (intro w hSw; (try dsimp only at hSw); go_simp; (try with_reducible rfl))
            try simp only [Act.put, List.setIfInBounds_toArray, List.set_cons_zero, List.set_cons_succ]
            refine one_opG (i := 1) (by kernel_rfl) rfl (fun K hK => ?_)
            go_simp
            refine (HGET.out Y0 HBK0.out.ins).mono ?_
            rintro e4 Y4 ⟨rfl, hi4, hf4⟩
            have HB4 := Lib.hid (HBK0.out.get hi4 hf4)
            have hS4 := (⟨hf4.cell' hS.1 HNB.out, hf4.cell' hS.2.1 HNB.out, hf4.cell' hS.2.2.1 HNB.out, hf4.cell' hS.2.2.2 HNB.out⟩ : Y4.cell? ⟨WB.heap.size, 9, none⟩ = some (.int .i64 v0) ∧ Y4.cell? ⟨WB.heap.size, 10, none⟩ = some (.int .i64 v1) ∧ Y4.cell? ⟨WB.heap.size, 11, none⟩ = some (.int .i64 v2) ∧ Y4.cell? ⟨WB.heap.size, 12, none⟩ = some (.int .i64 v3))
            refine hK.out _ _ hS4 ?_
            clear hK K hS hi4 hf4
            try simp only [Act.put, List.setIfInBounds_toArray, List.set_cons_zero, List.set_cons_succ]
            refine take_opG 4 85 (v := ?_) rfl rfl (by kernel_rfl) (by kernel_rfl) (by decide) (by kernel_rfl) (by kernel_rfl) (fun _ _ _ h => h) (Or.inl ⟨by rfl, ?_⟩) (by assumption) ?_
            rotate_left 1
            · (intro w hSw; (try dsimp only at hSw); go_simp; (try with_reducible rfl))
            try simp only [Act.put, List.setIfInBounds_toArray, List.set_cons_zero, List.set_cons_succ]
            refine last_opG (by kernel_rfl) (by kernel_rfl) rfl (fun K hK => ?_)
            go_simp
            refine hK.out _ _ ?_
            clear hK K hS4
            go_wp2
            go_roundw
            case rel => exact ⟨k + 1, by omega, by go_num, by rw [HRE.out]; exact HB4.out⟩
            case measure => simp [intOf]; omega
          · obtain rfl : n = k := by omega
            rw [HDA.out] at hbk
            have HBK := Lib.hid hbk; clear hbk
            go_wp2_with (go_at_call 19; go_loud (refine (done_go ib (some []) _ HBK.out.ins).mono ?_); rintro e w7 ⟨rfl, rfl⟩)
            go_ret
            exact ⟨rfl, HBK.out.frm⟩
end Go.Proofs.YtggfoihfenlckaaGreat