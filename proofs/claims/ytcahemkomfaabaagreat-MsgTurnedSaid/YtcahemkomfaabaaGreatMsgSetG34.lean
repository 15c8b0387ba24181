/- Words for the law MsgSet: MsgDec. -/
import Derived.Test.YtcahemkomfaabaaGreatMsgSetG33
set_option linter.unusedSimpArgs false
set_option linter.unusedVariables false
set_option maxHeartbeats 32000000
set_option maxRecDepth 1000000
namespace Go.Proofs.YtcahemkomfaabaaGreat
open Go.RowKit
theorem mDecode_one (l : List UInt8) (v : Value) (w : World) (h : Rd w v l.length (bV l)) (h0 : Crc.oneE l ≠ 0) : Calls Tryz.prog 16 #[v] w (DecPost l w) := by
 have HO := Lib.hid (fun W (f : Frm NoS w W) => frOne_no l v W (h.keep0 f) h0)
 obtain ⟨a, c, rfl⟩ := h.sl
 have HT := Lib.hid (decTop_one h0)
 have HFA := Lib.hid (Frm.alloc NoS w (.cells #[.int .i64 0, .int .i64 0, .int .i64 0, .int .i64 0, .int .i64 0, .int .i64 0, .int .i64 0, .slice none 0 0, .slice none 0 0, .slice none 0 0, .slice none 0 0] 40))
 have HB0 := Lib.hid (heap_alloc_new w (.cells #[.int .i64 0, .int .i64 0, .int .i64 0, .int .i64 0, .int .i64 0, .int .i64 0, .int .i64 0, .slice none 0 0, .slice none 0 0, .slice none 0 0, .slice none 0 0] 40))
 clear h
 generalize Crc.oneE l = k at *
 have hk : ((k : Int) == 0) = false := beq_false_of_ne h0
 have hk' : ((k : Int) != 0) = true := by rw [bne, hk]; rfl
 clear h0
 go_enter Tryz.func16, Tryz.ntmps16
 go_wp2_with (go_at_call 51; refine (HO.out _ HFA.out).mono ?_; rintro e w1 ⟨rfl, hw1⟩; have HW1 := Lib.hid hw1; have HB1 := Lib.hid (hw1.blk HB0.out id); clear hw1; have y0 := cell_at' HB1.out 0 rfl; have g0 := free_at' HB1.out 0; have y1 := cell_at' HB1.out 1 rfl; have g1 := free_at' HB1.out 1; have y2 := cell_at' HB1.out 2 rfl; have g2 := free_at' HB1.out 2; have y3 := cell_at' HB1.out 3 rfl; have g3 := free_at' HB1.out 3; have y4 := cell_at' HB1.out 4 rfl; have g4 := free_at' HB1.out 4; have y5 := cell_at' HB1.out 5 rfl; have g5 := free_at' HB1.out 5; have y6 := cell_at' HB1.out 6 rfl; have g6 := free_at' HB1.out 6; have y7 := cell_at' HB1.out 7 rfl; have g7 := free_at' HB1.out 7; have y8 := cell_at' HB1.out 8 rfl; have g8 := free_at' HB1.out 8; have y9 := cell_at' HB1.out 9 rfl; have g9 := free_at' HB1.out 9; have y10 := cell_at' HB1.out 10 rfl; have g10 := free_at' HB1.out 10; have yl := lt_of_block HB1.out)
 clear y0 g0 y1 g1 y2 g2 y3 g3 y4 g4 y5 g5 y6 g6 y7 g7 y8 g8 y9 g9 y10 g10 yl
 have hel := eleven_cells HB1.out (.int .i64 0) (.int .i64 0) (.int .i64 0) (.int .i64 0) (.int .i64 0) (.int .i64 0) (.int .i64 0) (.slice none 0 0) (.slice none 0 0) (.slice none 0 0) (.slice none 0 0) _ rfl
 have y0 := cell_at' hel 0 rfl
 have y1 := cell_at' hel 1 rfl
 have y2 := cell_at' hel 2 rfl
 have y3 := cell_at' hel 3 rfl
 have y4 := cell_at' hel 4 rfl
 have y5 := cell_at' hel 5 rfl
 have y6 := cell_at' hel 6 rfl
 have y7 := cell_at' hel 7 rfl
 have y8 := cell_at' hel 8 rfl
 have y9 := cell_at' hel 9 rfl
 have y10 := cell_at' hel 10 rfl
 exact bodyPost_ret (v := .tuple #[.agg #[.int .i64 0, .int .i64 0, .int .i64 0, .int .i64 0, .int .i64 0, .int .i64 0, .int .i64 0, .slice none 0 0, .slice none 0 0, .slice none 0 0, .slice none 0 0], .int .i64 k]) (by simp [results, Tryz.results16, go_sem, y0, y1, y2, y3, y4, y5, y6, y7, y8, y9, y10]) rfl (⟨k, MsgD.zero, [], _, _, _, _, HT.out, rfl, zero_at _ _, zero_okS, (HFA.out.then1 HW1.out).trans (eleven_set w1 w.heap.size (.int .i64 0) (.int .i64 0) (.int .i64 0) (.int .i64 0) (.int .i64 0) (.int .i64 0) (.int .i64 0) (.slice none 0 0) (.slice none 0 0) (.slice none 0 0) (.slice none 0 0)) fun i hi e => by have e : i = w.heap.size := e; omega⟩)
theorem mDecode_yes (l : List UInt8) (v : Value) (w : World) (h : Rd w v l.length (bV l)) (h0 : Crc.oneE l = 0) (hfit : DecFit (Crc.oneB l)) : Calls Tryz.prog 16 #[v] w (DecPost l w) := by
 obtain ⟨ib0, hi, hz0, hz1, hz2⟩ := info_parts info_bunA
 have HO := Lib.hid (fun W (f : Frm NoS w W) => frOne_yes l v W (h.keep0 f) h0)
 obtain ⟨a, c, rfl⟩ := h.sl
 have HFA := Lib.hid (Frm.alloc NoS w (.cells #[.int .i64 0, .int .i64 0, .int .i64 0, .int .i64 0, .int .i64 0, .int .i64 0, .int .i64 0, .slice none 0 0, .slice none 0 0, .slice none 0 0, .slice none 0 0] 40))
 have HB0 := Lib.hid (heap_alloc_new w (.cells #[.int .i64 0, .int .i64 0, .int .i64 0, .int .i64 0, .int .i64 0, .int .i64 0, .int .i64 0, .slice none 0 0, .slice none 0 0, .slice none 0 0, .slice none 0 0] 40))
 clear h
 have HTG := Lib.hid (fun m (hd : DecRes (Crc.oneB l) (some m)) => decTop_good h0 hd)
 have HTB := Lib.hid (fun (hd : DecRes (Crc.oneB l) none) => decTop_bad h0 hd)
 have HFIT := Lib.hid hfit
 have HLEN := Lib.hid hfit.len
 clear h0 hfit
 generalize Crc.oneB l = x at *
 obtain ⟨kind, fr, tt, v0, v1, v2, v3, s1, s2, s3, s4, n, s5, g1, g2, g3, g4, g5⟩ := head_total 4 4 x
 have HHD := Lib.hid (show HeadRd 4 4 x kind fr tt v0 v1 v2 v3 s4 from ⟨s1, s2, s3, g1, g2, g3, g4⟩)
 have hn16 := num_in16 g5
 have G1 := Lib.hid g1; have G2 := Lib.hid g2; have G3 := Lib.hid g3; have G4 := Lib.hid g4; have G5 := Lib.hid g5
 clear g1 g2 g3 g4 g5
 go_enter Tryz.func16, Tryz.ntmps16
 go_wp2_with (first
  | (go_at_call 51; refine (HO.out _ HFA.out).mono ?_; rintro e w1 ⟨a1, c1, t1, ht1, rfl, cp1⟩; have HT1 := Lib.hid ht1; have HC1 := Lib.hid cp1; have HB1 := Lib.hid (cp1.frm.blk HB0.out id); clear cp1 ht1)
  | (go_at_call 52; refine (newin _ t1 _ HC1.out.rd (by rw [HT1.out]; have := HLEN.out; omega)).mono ?_; rintro e w2 ⟨ib, rfl, hi2, hb2, hf2⟩
     have hib : w.heap.size < ib := by
      have h1 := HC1.out.frm.size
      have h2 : (w.alloc (.cells #[.int .i64 0, .int .i64 0, .int .i64 0, .int .i64 0, .int .i64 0, .int .i64 0, .int .i64 0, .slice none 0 0, .slice none 0 0, .slice none 0 0, .slice none 0 0] 40)).heap.size = w.heap.size + 1 := by simp
      omega
     have hf2' : Frm NoS w1 w2 := hf2.mono fun _ _ h => h.elim
     have HB2 := Lib.hid (hf2'.blk HB1.out id)
     have HI0 := Lib.hid (show InSt w2 ib (some x) by rw [← HT1.out]; exact hi2)
     have HW2 := Lib.hid ((HFA.out.then1 HC1.out.frm).then1 hf2')
     have hib2 : ib < w2.heap.size := hi2.lt
     clear hi2 hb2 hf2 hf2')
  | (go_at_call 53; first
     | (have q9 := HI4; clear q9; refine (inum_at ib _ 16 n _ _ HI4.out G5.out (by omega) (by omega)).mono ?_; rintro e w7 ⟨rfl, hi, hf⟩; have HI5 := Lib.hid hi; have HF5 := Lib.hid hf; clear hi hf)
     | (have q9 := HI2; clear q9; refine (inum_at ib _ 4 tt _ _ HI2.out G3.out (by omega) (by omega)).mono ?_; rintro e w5 ⟨rfl, hi, hf⟩; have HI3 := Lib.hid hi; have HF3 := Lib.hid hf; clear hi hf)
     | (have q9 := HI1; clear q9; refine (inum_at ib _ 4 fr _ _ HI1.out G2.out (by omega) (by omega)).mono ?_; rintro e w4 ⟨rfl, hi, hf⟩; have HI2 := Lib.hid hi; have HF2 := Lib.hid hf; clear hi hf)
     | (have q9 := HI0; clear q9; refine (inum_at ib _ 4 kind _ _ HI0.out G1.out (by omega) (by omega)).mono ?_; rintro e w3 ⟨rfl, hi, hf⟩; have HI1 := Lib.hid hi; have HF1 := Lib.hid hf; clear hi hf))
  | (go_at_call 54; refine (pGetVector_at ib s3 s4 v0 v1 v2 v3 _ G4.out HI3.out).mono ?_; rintro e w6 ⟨rfl, hi, hf⟩
     have hfa := Frm.alloc NoS w6 (.cells #[.int .i64 kind, .int .i64 fr, .int .i64 tt, .int .i64 v0, .int .i64 v1, .int .i64 v2, .int .i64 v3, .slice none 0 0, .slice none 0 0, .slice none 0 0, .slice none 0 0] 40)
     have HI4 := Lib.hid (hi.keep hfa fun _ _ h => h); have HF4 := Lib.hid hf; clear hi hf hfa))
 clear HC1 HO HB1 HI1 HI2 HI3
 have hFW : Frm (Only ib) w2 w6 := ((HF1.out.trans HF2.out fun _ _ h => h).trans HF3.out fun _ _ h => h).trans HF4.out fun _ _ h => h
 have hFX : Frm (Only ib) w2 w7 := (hFW.trans (Frm.alloc (Only ib) w6 (.cells #[.int .i64 kind, .int .i64 fr, .int .i64 tt, .int .i64 v0, .int .i64 v1, .int .i64 v2, .int .i64 v3, .slice none 0 0, .slice none 0 0, .slice none 0 0, .slice none 0 0] 40)) fun _ _ h => h).trans HF5.out fun _ _ h => h
 have hG0 : DG w w2 w7 ib w6.heap.size s5 #[.int .i64 kind, .int .i64 fr, .int .i64 tt, .int .i64 v0, .int .i64 v1, .int .i64 v2, .int .i64 v3, .slice none 0 0, .slice none 0 0, .slice none 0 0, .slice none 0 0] [] (.slice none 0 0) :=
  ⟨HI5.out, HF5.out.blk (heap_alloc_new w6 _) (fun e => by have e : w6.heap.size = ib := e; have := hFW.size; omega), hFX.blk HB2.out (fun e => by have e : w.heap.size = ib := e; omega), HW2.out, hib, hib2, hFW.size, Bld.start (fun k hk => by have hk : k = ib := hk; omega) (fun k hk => by have hk : k = w6.heap.size := hk; have := hFW.size; omega) (fun k hk => by
   have hk : k = w6.heap.size := hk
   have h1 : (w6.alloc (.cells #[.int .i64 kind, .int .i64 fr, .int .i64 tt, .int .i64 v0, .int .i64 v1, .int .i64 v2, .int .i64 v3, .slice none 0 0, .slice none 0 0, .slice none 0 0, .slice none 0 0] 40)).heap.size = w6.heap.size + 1 := by simp
   have := HF5.out.size
   omega) hFX, EachQ.nil _ _⟩
 have HG0 := Lib.hid hG0
 clear hG0 hFW hFX HF1 HF2 HF3 HF4 HF5 HI4 HI5 HI0 HB2
 go_loopw [9] (fun i W => ∃ (q : Nat) (ps : List BunP) (s : Option (List UInt8)) (lv : Value), q ≤ n.toNat ∧ i = .int .i64 q ∧ Run BunRes s5 q (ps.map (·.b)) s ∧ DG w w2 W ib w6.heap.size s #[.int .i64 kind, .int .i64 fr, .int .i64 tt, .int .i64 v0, .int .i64 v1, .int .i64 v2, .int .i64 v3, lv, .slice none 0 0, .slice none 0 0, .slice none 0 0] ps lv ∧ ∀ p ∈ ps, CauOk p.b.es p.b.ks p.b.c) (fun i _ => n.toNat - (intOf i).toNat)
 case atStart => exact ⟨0, [], s5, _, Nat.zero_le _, rfl, .zero, HG0.out, fun p hp => by cases hp⟩
 case round =>
  clear HG0
  obtain ⟨q, ps, s, lv, hq, rfl, hrun, hg, hall⟩ := hrel
  have hpl : ps.length = q := by have := hrun.len; simpa using this
  obtain ⟨aV, cV, rfl⟩ := (Rd.own hg.bld.own).sl
  rw [hpl] at hg
  have HG := Lib.hid hg; clear hg
  have HRUN := Lib.hid hrun; clear hrun
  have HALL := Lib.hid hall; clear hall
  have HPL := Lib.hid hpl; clear hpl
  have hfs := fit_state (by decide) (by decide) (by decide) (by decide) HFIT.out HHD.out G5.out HRUN.out
  have HLE := Lib.hid hfs.1
  have HBF := Lib.hid hfs.2.1
  have HCF1 := Lib.hid hfs.2.2
  clear hfs
  by_cases hlt : (q : Int) < n
  rotate_left 1
  · have HLIM := Lib.hid (show q = n.toNat ∨ s = none from .inl (by omega))
    have HCF0 := Lib.hid (HCF1.out (by omega))
    clear HBF HCF1
    by_cases hkd : kind = 2
    rotate_left 1
    · have c2' : ((kind : Int) == 2) = false := beq_false_of_ne hkd
      have HST := Lib.hid (show DecSteps 4 4 x ⟨kind, fr, tt, v0, v1, v2, v3, ps.map (·.b), [], .nil, []⟩ n q s4 s5 s s from ⟨HHD.out, G5.out, HRUN.out, HLIM.out, hq, by rw [if_neg hkd]; exact ⟨⟨rfl, rfl, rfl⟩, rfl⟩⟩)
      have HOK := Lib.hid (show MsgOkS ⟨kind, fr, tt, v0, v1, v2, v3, ps.map (·.b), [], .nil, []⟩ from ⟨fun b hb => by
       obtain ⟨p, hp, rfl⟩ := List.mem_map.1 hb
       exact HALL.out p hp, by rw [List.length_map, HPL.out]; omega, zero_okS.st⟩)
      clear hkd
      by_cases hn0 : n < 0
      · have HDR := Lib.hid (HTB.out (HST.out.bad (by decide) (by decide) (by decide) (by decide) (.inl hn0)))
        clear HST HOK
        obtain ⟨z0, z1, z2, z3, z4, z5, z6, z7, z8, z9, z10⟩ := eleven_at HG.out.arr; have zl := HG.out.lB
        obtain ⟨y0, y1, y2, y3, y4, y5, y6, y7, y8, y9, y10⟩ := eleven_at HG.out.res; obtain ⟨g0, g1, g2, g3, g4, g5, g6, g7, g8, g9, g10⟩ := eleven_fr HG.out.res; have yl := lt_of_block HG.out.res
        go_wp2
        clear z0 z1 z2 z3 z4 z5 z6 z7 z8 z9 z10 zl y0 g0 y1 g1 y2 g2 y3 g3 y4 g4 y5 g5 y6 g6 y7 g7 y8 g8 y9 g9 y10 g10 yl
        have hel := eleven_cells HG.out.res (.int .i64 0) (.int .i64 0) (.int .i64 0) (.int .i64 0) (.int .i64 0) (.int .i64 0) (.int .i64 0) (.slice none 0 0) (.slice none 0 0) (.slice none 0 0) (.slice none 0 0) _ rfl
        obtain ⟨y0, y1, y2, y3, y4, y5, y6, y7, y8, y9, y10⟩ := eleven_at hel
        exact bodyPost_ret (v := .tuple #[.agg #[.int .i64 0, .int .i64 0, .int .i64 0, .int .i64 0, .int .i64 0, .int .i64 0, .int .i64 0, .slice none 0 0, .slice none 0 0, .slice none 0 0, .slice none 0 0], .int .i64 2]) (by simp [results, Tryz.results16, go_sem, y0, y1, y2, y3, y4, y5, y6, y7, y8, y9, y10]) rfl (HG.out.outZ HDR.out (eleven_set wr w.heap.size (.int .i64 0) (.int .i64 0) (.int .i64 0) (.int .i64 0) (.int .i64 0) (.int .i64 0) (.int .i64 0) (.slice none 0 0) (.slice none 0 0) (.slice none 0 0) (.slice none 0 0)))
      have hn0' : ¬ n < 0 := by omega
      cases hdn : doneOf s with
      | false =>
       have HDC := Lib.hid (fun W h => (show Calls Tryz.prog 58 #[.pointer (some ⟨ib, 0, none⟩)] W fun e w' => e = .returned (.bool false) ∧ W = w' from hdn ▸ done_go ib s W h))
       have HDR := Lib.hid (HTB.out (HST.out.bad (by decide) (by decide) (by decide) (by decide) (.inr (.inl fun h => by rw [h] at hdn; cases hdn))))
       clear HST HOK hdn
       obtain ⟨z0, z1, z2, z3, z4, z5, z6, z7, z8, z9, z10⟩ := eleven_at HG.out.arr; have zl := HG.out.lB
       obtain ⟨y0, y1, y2, y3, y4, y5, y6, y7, y8, y9, y10⟩ := eleven_at HG.out.res; obtain ⟨g0, g1, g2, g3, g4, g5, g6, g7, g8, g9, g10⟩ := eleven_fr HG.out.res; have yl := lt_of_block HG.out.res
       go_wp2_with (first
        | (go_at_call 58; refine (HDC.out _ HG.out.ins).mono ?_; rintro e w9 ⟨rfl, rfl⟩))
       clear z0 z1 z2 z3 z4 z5 z6 z7 z8 z9 z10 zl y0 g0 y1 g1 y2 g2 y3 g3 y4 g4 y5 g5 y6 g6 y7 g7 y8 g8 y9 g9 y10 g10 yl
       have hel := eleven_cells HG.out.res (.int .i64 0) (.int .i64 0) (.int .i64 0) (.int .i64 0) (.int .i64 0) (.int .i64 0) (.int .i64 0) (.slice none 0 0) (.slice none 0 0) (.slice none 0 0) (.slice none 0 0) _ rfl
       obtain ⟨y0, y1, y2, y3, y4, y5, y6, y7, y8, y9, y10⟩ := eleven_at hel
       exact bodyPost_ret (v := .tuple #[.agg #[.int .i64 0, .int .i64 0, .int .i64 0, .int .i64 0, .int .i64 0, .int .i64 0, .int .i64 0, .slice none 0 0, .slice none 0 0, .slice none 0 0, .slice none 0 0], .int .i64 2]) (by simp [results, Tryz.results16, go_sem, y0, y1, y2, y3, y4, y5, y6, y7, y8, y9, y10]) rfl (HG.out.outZ HDR.out (eleven_set wr w.heap.size (.int .i64 0) (.int .i64 0) (.int .i64 0) (.int .i64 0) (.int .i64 0) (.int .i64 0) (.int .i64 0) (.slice none 0 0) (.slice none 0 0) (.slice none 0 0) (.slice none 0 0)))
      | true =>
       have hs7 : s = some [] := done_nil_of hdn
       have HDC := Lib.hid (fun W h => (show Calls Tryz.prog 58 #[.pointer (some ⟨ib, 0, none⟩)] W fun e w' => e = .returned (.bool true) ∧ W = w' from hdn ▸ done_go ib s W h))
       clear hdn
       by_cases hr : MsgD.right ⟨kind, fr, tt, v0, v1, v2, v3, ps.map (·.b), [], .nil, []⟩
       rotate_left 1
       · have HDR := Lib.hid (HTB.out (HST.out.bad (by decide) (by decide) (by decide) (by decide) (.inr (.inr hr))))
         clear HST hs7
         obtain ⟨z0, z1, z2, z3, z4, z5, z6, z7, z8, z9, z10⟩ := eleven_at HG.out.arr; have zl := HG.out.lB
         obtain ⟨y0, y1, y2, y3, y4, y5, y6, y7, y8, y9, y10⟩ := eleven_at HG.out.res; obtain ⟨g0, g1, g2, g3, g4, g5, g6, g7, g8, g9, g10⟩ := eleven_fr HG.out.res; have yl := lt_of_block HG.out.res
         have HRT := Lib.hid (show Calls Tryz.prog 11 #[.agg #[.int .i64 kind, .int .i64 fr, .int .i64 tt, .int .i64 v0, .int .i64 v1, .int .i64 v2, .int .i64 v3, .slice aV q cV, .slice none 0 0, .slice none 0 0, .slice none 0 0]] wr fun e w' => e = .returned (.bool false) ∧ Frm NoS wr w' from (tf_false hr) ▸ mRight_at (MgQ w2 (Only w6.heap.size) (.slice aV q cV)) ⟨kind, fr, tt, v0, v1, v2, v3, ps.map (·.b), [], .nil, []⟩ ps _ _ _ _ _ ⟨HG.out.bld.buns HG.out.each.cau, rfl, nilAt _ _⟩ HOK.out)
         have HR := Lib.hid hr; clear hr
         go_wp2_with (first
          | (go_at_call 58; refine (HDC.out _ HG.out.ins).mono ?_; rintro e w9 ⟨rfl, rfl⟩)
          | (go_at_call 11; refine HRT.out.mono ?_; rintro e w10 ⟨rfl, hf10⟩; clear z0 z1 z2 z3 z4 z5 z6 z7 z8 z9 z10 zl y0 g0 y1 g1 y2 g2 y3 g3 y4 g4 y5 g5 y6 g6 y7 g7 y8 g8 y9 g9 y10 g10 yl; have hg10 := HG.out.keep0 hf10; obtain ⟨z0, z1, z2, z3, z4, z5, z6, z7, z8, z9, z10⟩ := eleven_at hg10.arr; have zl := hg10.lB; obtain ⟨y0, y1, y2, y3, y4, y5, y6, y7, y8, y9, y10⟩ := eleven_at hg10.res; obtain ⟨g0, g1, g2, g3, g4, g5, g6, g7, g8, g9, g10⟩ := eleven_fr hg10.res; have yl := lt_of_block hg10.res; have HG10 := Lib.hid hg10; have HF10 := Lib.hid hf10; clear hg10 hf10))
         clear z0 z1 z2 z3 z4 z5 z6 z7 z8 z9 z10 zl y0 g0 y1 g1 y2 g2 y3 g3 y4 g4 y5 g5 y6 g6 y7 g7 y8 g8 y9 g9 y10 g10 yl
         have hel := eleven_cells HG10.out.res (.int .i64 0) (.int .i64 0) (.int .i64 0) (.int .i64 0) (.int .i64 0) (.int .i64 0) (.int .i64 0) (.slice none 0 0) (.slice none 0 0) (.slice none 0 0) (.slice none 0 0) _ rfl
         obtain ⟨y0, y1, y2, y3, y4, y5, y6, y7, y8, y9, y10⟩ := eleven_at hel
         exact bodyPost_ret (v := .tuple #[.agg #[.int .i64 0, .int .i64 0, .int .i64 0, .int .i64 0, .int .i64 0, .int .i64 0, .int .i64 0, .slice none 0 0, .slice none 0 0, .slice none 0 0, .slice none 0 0], .int .i64 2]) (by simp [results, Tryz.results16, go_sem, y0, y1, y2, y3, y4, y5, y6, y7, y8, y9, y10]) rfl (HG10.out.outZ HDR.out (eleven_set w10 w.heap.size (.int .i64 0) (.int .i64 0) (.int .i64 0) (.int .i64 0) (.int .i64 0) (.int .i64 0) (.int .i64 0) (.slice none 0 0) (.slice none 0 0) (.slice none 0 0) (.slice none 0 0)))
       have HDR := Lib.hid (HTG.out _ (DecSteps.good (hs7 ▸ HST.out) (by omega) hr))
       clear HST hs7
       obtain ⟨z0, z1, z2, z3, z4, z5, z6, z7, z8, z9, z10⟩ := eleven_at HG.out.arr; have zl := HG.out.lB
       obtain ⟨y0, y1, y2, y3, y4, y5, y6, y7, y8, y9, y10⟩ := eleven_at HG.out.res; obtain ⟨g0, g1, g2, g3, g4, g5, g6, g7, g8, g9, g10⟩ := eleven_fr HG.out.res; have yl := lt_of_block HG.out.res
       have HRT := Lib.hid (show Calls Tryz.prog 11 #[.agg #[.int .i64 kind, .int .i64 fr, .int .i64 tt, .int .i64 v0, .int .i64 v1, .int .i64 v2, .int .i64 v3, .slice aV q cV, .slice none 0 0, .slice none 0 0, .slice none 0 0]] wr fun e w' => e = .returned (.bool true) ∧ Frm NoS wr w' from (tf_true hr) ▸ mRight_at (MgQ w2 (Only w6.heap.size) (.slice aV q cV)) ⟨kind, fr, tt, v0, v1, v2, v3, ps.map (·.b), [], .nil, []⟩ ps _ _ _ _ _ ⟨HG.out.bld.buns HG.out.each.cau, rfl, nilAt _ _⟩ HOK.out)
       have HR := Lib.hid hr; clear hr
       go_wp2_with (first
        | (go_at_call 58; refine (HDC.out _ HG.out.ins).mono ?_; rintro e w9 ⟨rfl, rfl⟩)
        | (go_at_call 11; refine HRT.out.mono ?_; rintro e w10 ⟨rfl, hf10⟩; clear z0 z1 z2 z3 z4 z5 z6 z7 z8 z9 z10 zl y0 g0 y1 g1 y2 g2 y3 g3 y4 g4 y5 g5 y6 g6 y7 g7 y8 g8 y9 g9 y10 g10 yl; have hg10 := HG.out.keep0 hf10; obtain ⟨z0, z1, z2, z3, z4, z5, z6, z7, z8, z9, z10⟩ := eleven_at hg10.arr; have zl := hg10.lB; obtain ⟨y0, y1, y2, y3, y4, y5, y6, y7, y8, y9, y10⟩ := eleven_at hg10.res; obtain ⟨g0, g1, g2, g3, g4, g5, g6, g7, g8, g9, g10⟩ := eleven_fr hg10.res; have yl := lt_of_block hg10.res; have HG10 := Lib.hid hg10; have HF10 := Lib.hid hf10; clear hg10 hf10))
       clear z0 z1 z2 z3 z4 z5 z6 z7 z8 z9 z10 zl y0 g0 y1 g1 y2 g2 y3 g3 y4 g4 y5 g5 y6 g6 y7 g7 y8 g8 y9 g9 y10 g10 yl
       have hel := eleven_cells HG10.out.res (.int .i64 kind) (.int .i64 fr) (.int .i64 tt) (.int .i64 v0) (.int .i64 v1) (.int .i64 v2) (.int .i64 v3) (.slice aV q cV) (.slice none 0 0) (.slice none 0 0) (.slice none 0 0) _ rfl
       obtain ⟨y0, y1, y2, y3, y4, y5, y6, y7, y8, y9, y10⟩ := eleven_at hel
       exact bodyPost_ret (v := .tuple #[.agg #[.int .i64 kind, .int .i64 fr, .int .i64 tt, .int .i64 v0, .int .i64 v1, .int .i64 v2, .int .i64 v3, .slice aV q cV, .slice none 0 0, .slice none 0 0, .slice none 0 0], .int .i64 0]) (by simp [results, Tryz.results16, go_sem, y0, y1, y2, y3, y4, y5, y6, y7, y8, y9, y10]) rfl (HG10.out.outM (m := ⟨kind, fr, tt, v0, v1, v2, v3, ps.map (·.b), [], .nil, []⟩) HDR.out rfl HOK.out ⟨(nilAt _ _).tree, rdq_nil _ _⟩ (eleven_set w10 w.heap.size (.int .i64 kind) (.int .i64 fr) (.int .i64 tt) (.int .i64 v0) (.int .i64 v1) (.int .i64 v2) (.int .i64 v3) (.slice aV q cV) (.slice none 0 0) (.slice none 0 0) (.slice none 0 0)))
    subst hkd
    obtain ⟨es, ks, c, s7, hcr⟩ := CauRes.total s
    have HCR := Lib.hid hcr
    have HCF := Lib.hid (HCF0.out rfl)
    have HST := Lib.hid (show DecSteps 4 4 x ⟨2, fr, tt, v0, v1, v2, v3, ps.map (·.b), es, ks, c⟩ n q s4 s5 s s7 from ⟨HHD.out, G5.out, HRUN.out, HLIM.out, hq, by rw [if_pos (show (2 : Int) = 2 from rfl)]; exact hcr⟩)
    have HOK := Lib.hid (show MsgOkS ⟨2, fr, tt, v0, v1, v2, v3, ps.map (·.b), es, ks, c⟩ from ⟨fun b hb => by
     obtain ⟨p, hp, rfl⟩ := List.mem_map.1 hb
     exact HALL.out p hp, by rw [List.length_map, HPL.out]; omega, CauFit.ok HCF.out hcr⟩)
    clear hcr
    by_cases hn0 : n < 0
    · have HDR := Lib.hid (HTB.out (HST.out.bad (by decide) (by decide) (by decide) (by decide) (.inl hn0)))
      clear HST HOK
      obtain ⟨z0, z1, z2, z3, z4, z5, z6, z7, z8, z9, z10⟩ := eleven_at HG.out.arr; have zl := HG.out.lB
      go_wp2_with (first
       | (go_at_call 57; refine (pGetCausal_fit ib s s7 es ks c wr HCR.out HG.out.ins HLE.out HCF.out).mono ?_; rintro e w8 ⟨ev, kv, cv, rfl, ht8, hc8, hi8, hf8⟩; obtain ⟨e0, d0, e1, d1, e2, d2, rfl, rfl, rfl⟩ := (CauAt.mk ht8 (CtxQ.at_ hc8)).shape; generalize es.length = m0 at *; generalize ks.len = m1 at *; generalize c.length = m2 at *; clear z0 z1 z2 z3 z4 z5 z6 z7 z8 z9 z10 zl; have hg8 := HG.out.call hi8 hf8; obtain ⟨z0, z1, z2, z3, z4, z5, z6, z7, z8, z9, z10⟩ := eleven_at hg8.arr; have f8 := free_at' hg8.arr 8; have f9 := free_at' hg8.arr 9; have f10 := free_at' hg8.arr 10; have zl := hg8.lB; obtain ⟨y0, y1, y2, y3, y4, y5, y6, y7, y8, y9, y10⟩ := eleven_at hg8.res; obtain ⟨g0, g1, g2, g3, g4, g5, g6, g7, g8, g9, g10⟩ := eleven_fr hg8.res; have yl := lt_of_block hg8.res; have hne : ¬ w6.heap.size = w.heap.size := (by have h1 := hg8.hB; have h2 := hg8.hib; have h3 := hg8.hib0; omega); obtain ⟨hg9, ht9, hc9⟩ := HG.out.cau hi8 hf8 ht8 hc8; have HG9 := Lib.hid hg9; have HT9 := Lib.hid ht9; have HC9 := Lib.hid hc9; clear hg8 hg9 ht8 hc8 hi8 hf8 ht9 hc9))
      clear z0 z1 z2 z3 z4 z5 z6 z7 z8 z9 z10 zl y0 g0 y1 g1 y2 g2 y3 g3 y4 g4 y5 g5 y6 g6 y7 g7 y8 g8 y9 g9 y10 g10 yl f8 f9 f10 hne
      have hel := eleven_cells HG9.out.res (.int .i64 0) (.int .i64 0) (.int .i64 0) (.int .i64 0) (.int .i64 0) (.int .i64 0) (.int .i64 0) (.slice none 0 0) (.slice none 0 0) (.slice none 0 0) (.slice none 0 0) _ rfl
      obtain ⟨y0, y1, y2, y3, y4, y5, y6, y7, y8, y9, y10⟩ := eleven_at hel
      exact bodyPost_ret (v := .tuple #[.agg #[.int .i64 0, .int .i64 0, .int .i64 0, .int .i64 0, .int .i64 0, .int .i64 0, .int .i64 0, .slice none 0 0, .slice none 0 0, .slice none 0 0, .slice none 0 0], .int .i64 2]) (by simp [results, Tryz.results16, go_sem, y0, y1, y2, y3, y4, y5, y6, y7, y8, y9, y10]) rfl (HG9.out.outZ HDR.out (eleven_set (((w8.setCell ⟨w6.heap.size, 8, none⟩ (.slice e0 m0 d0)).setCell ⟨w6.heap.size, 9, none⟩ (.slice e1 m1 d1)).setCell ⟨w6.heap.size, 10, none⟩ (.slice e2 m2 d2)) w.heap.size (.int .i64 0) (.int .i64 0) (.int .i64 0) (.int .i64 0) (.int .i64 0) (.int .i64 0) (.int .i64 0) (.slice none 0 0) (.slice none 0 0) (.slice none 0 0) (.slice none 0 0)))
    have hn0' : ¬ n < 0 := by omega
    cases hdn : doneOf s7 with
    | false =>
     have HDC := Lib.hid (fun W h => (show Calls Tryz.prog 58 #[.pointer (some ⟨ib, 0, none⟩)] W fun e w' => e = .returned (.bool false) ∧ W = w' from hdn ▸ done_go ib s7 W h))
     have HDR := Lib.hid (HTB.out (HST.out.bad (by decide) (by decide) (by decide) (by decide) (.inr (.inl fun h => by rw [h] at hdn; cases hdn))))
     clear HST HOK hdn
     obtain ⟨z0, z1, z2, z3, z4, z5, z6, z7, z8, z9, z10⟩ := eleven_at HG.out.arr; have zl := HG.out.lB
     go_wp2_with (first
      | (go_at_call 57; refine (pGetCausal_fit ib s s7 es ks c wr HCR.out HG.out.ins HLE.out HCF.out).mono ?_; rintro e w8 ⟨ev, kv, cv, rfl, ht8, hc8, hi8, hf8⟩; obtain ⟨e0, d0, e1, d1, e2, d2, rfl, rfl, rfl⟩ := (CauAt.mk ht8 (CtxQ.at_ hc8)).shape; generalize es.length = m0 at *; generalize ks.len = m1 at *; generalize c.length = m2 at *; clear z0 z1 z2 z3 z4 z5 z6 z7 z8 z9 z10 zl; have hg8 := HG.out.call hi8 hf8; obtain ⟨z0, z1, z2, z3, z4, z5, z6, z7, z8, z9, z10⟩ := eleven_at hg8.arr; have f8 := free_at' hg8.arr 8; have f9 := free_at' hg8.arr 9; have f10 := free_at' hg8.arr 10; have zl := hg8.lB; obtain ⟨y0, y1, y2, y3, y4, y5, y6, y7, y8, y9, y10⟩ := eleven_at hg8.res; obtain ⟨g0, g1, g2, g3, g4, g5, g6, g7, g8, g9, g10⟩ := eleven_fr hg8.res; have yl := lt_of_block hg8.res; have hne : ¬ w6.heap.size = w.heap.size := (by have h1 := hg8.hB; have h2 := hg8.hib; have h3 := hg8.hib0; omega); obtain ⟨hg9, ht9, hc9⟩ := HG.out.cau hi8 hf8 ht8 hc8; have HG9 := Lib.hid hg9; have HT9 := Lib.hid ht9; have HC9 := Lib.hid hc9; clear hg8 hg9 ht8 hc8 hi8 hf8 ht9 hc9)
      | (go_at_call 58; refine (HDC.out _ HG9.out.ins).mono ?_; rintro e w9 ⟨rfl, rfl⟩))
     clear z0 z1 z2 z3 z4 z5 z6 z7 z8 z9 z10 zl y0 g0 y1 g1 y2 g2 y3 g3 y4 g4 y5 g5 y6 g6 y7 g7 y8 g8 y9 g9 y10 g10 yl f8 f9 f10 hne
     have hel := eleven_cells HG9.out.res (.int .i64 0) (.int .i64 0) (.int .i64 0) (.int .i64 0) (.int .i64 0) (.int .i64 0) (.int .i64 0) (.slice none 0 0) (.slice none 0 0) (.slice none 0 0) (.slice none 0 0) _ rfl
     obtain ⟨y0, y1, y2, y3, y4, y5, y6, y7, y8, y9, y10⟩ := eleven_at hel
     exact bodyPost_ret (v := .tuple #[.agg #[.int .i64 0, .int .i64 0, .int .i64 0, .int .i64 0, .int .i64 0, .int .i64 0, .int .i64 0, .slice none 0 0, .slice none 0 0, .slice none 0 0, .slice none 0 0], .int .i64 2]) (by simp [results, Tryz.results16, go_sem, y0, y1, y2, y3, y4, y5, y6, y7, y8, y9, y10]) rfl (HG9.out.outZ HDR.out (eleven_set (((w8.setCell ⟨w6.heap.size, 8, none⟩ (.slice e0 m0 d0)).setCell ⟨w6.heap.size, 9, none⟩ (.slice e1 m1 d1)).setCell ⟨w6.heap.size, 10, none⟩ (.slice e2 m2 d2)) w.heap.size (.int .i64 0) (.int .i64 0) (.int .i64 0) (.int .i64 0) (.int .i64 0) (.int .i64 0) (.int .i64 0) (.slice none 0 0) (.slice none 0 0) (.slice none 0 0) (.slice none 0 0)))
    | true =>
     have hs7 : s7 = some [] := done_nil_of hdn
     have HDC := Lib.hid (fun W h => (show Calls Tryz.prog 58 #[.pointer (some ⟨ib, 0, none⟩)] W fun e w' => e = .returned (.bool true) ∧ W = w' from hdn ▸ done_go ib s7 W h))
     clear hdn
     by_cases hr : MsgD.right ⟨2, fr, tt, v0, v1, v2, v3, ps.map (·.b), es, ks, c⟩
     rotate_left 1
     · have HDR := Lib.hid (HTB.out (HST.out.bad (by decide) (by decide) (by decide) (by decide) (.inr (.inr hr))))
       clear HST hs7
       obtain ⟨z0, z1, z2, z3, z4, z5, z6, z7, z8, z9, z10⟩ := eleven_at HG.out.arr; have zl := HG.out.lB
       have HR := Lib.hid hr; clear hr
       go_wp2_with (first
        | (go_at_call 57; refine (pGetCausal_fit ib s s7 es ks c wr HCR.out HG.out.ins HLE.out HCF.out).mono ?_; rintro e w8 ⟨ev, kv, cv, rfl, ht8, hc8, hi8, hf8⟩; obtain ⟨e0, d0, e1, d1, e2, d2, rfl, rfl, rfl⟩ := (CauAt.mk ht8 (CtxQ.at_ hc8)).shape; generalize es.length = m0 at *; generalize ks.len = m1 at *; generalize c.length = m2 at *; clear z0 z1 z2 z3 z4 z5 z6 z7 z8 z9 z10 zl; have hg8 := HG.out.call hi8 hf8; obtain ⟨z0, z1, z2, z3, z4, z5, z6, z7, z8, z9, z10⟩ := eleven_at hg8.arr; have f8 := free_at' hg8.arr 8; have f9 := free_at' hg8.arr 9; have f10 := free_at' hg8.arr 10; have zl := hg8.lB; obtain ⟨y0, y1, y2, y3, y4, y5, y6, y7, y8, y9, y10⟩ := eleven_at hg8.res; obtain ⟨g0, g1, g2, g3, g4, g5, g6, g7, g8, g9, g10⟩ := eleven_fr hg8.res; have yl := lt_of_block hg8.res; have hne : ¬ w6.heap.size = w.heap.size := (by have h1 := hg8.hB; have h2 := hg8.hib; have h3 := hg8.hib0; omega); obtain ⟨hg9, ht9, hc9⟩ := HG.out.cau hi8 hf8 ht8 hc8; have HRT := Lib.hid (show Calls Tryz.prog 11 #[.agg #[.int .i64 2, .int .i64 fr, .int .i64 tt, .int .i64 v0, .int .i64 v1, .int .i64 v2, .int .i64 v3, .slice aV q cV, .slice e0 m0 d0, .slice e1 m1 d1, .slice e2 m2 d2]] (((w8.setCell ⟨w6.heap.size, 8, none⟩ (.slice e0 m0 d0)).setCell ⟨w6.heap.size, 9, none⟩ (.slice e1 m1 d1)).setCell ⟨w6.heap.size, 10, none⟩ (.slice e2 m2 d2)) fun e w' => e = .returned (.bool false) ∧ Frm NoS (((w8.setCell ⟨w6.heap.size, 8, none⟩ (.slice e0 m0 d0)).setCell ⟨w6.heap.size, 9, none⟩ (.slice e1 m1 d1)).setCell ⟨w6.heap.size, 10, none⟩ (.slice e2 m2 d2)) w' from (tf_false HR.out) ▸ mRight_at (MgQ w2 (Only w6.heap.size) (.slice aV q cV)) ⟨2, fr, tt, v0, v1, v2, v3, ps.map (·.b), es, ks, c⟩ ps _ _ _ _ _ ⟨hg9.bld.buns hg9.each.cau, rfl, ⟨ht9, CtxQ.at_ hc9⟩⟩ HOK.out); have HG9 := Lib.hid hg9; have HT9 := Lib.hid ht9; have HC9 := Lib.hid hc9; clear hg8 hg9 ht8 hc8 hi8 hf8 ht9 hc9)
        | (go_at_call 58; refine (HDC.out _ HG9.out.ins).mono ?_; rintro e w9 ⟨rfl, rfl⟩)
        | (go_at_call 11; refine HRT.out.mono ?_; rintro e w10 ⟨rfl, hf10⟩; clear z0 z1 z2 z3 z4 z5 z6 z7 z8 z9 z10 zl y0 g0 y1 g1 y2 g2 y3 g3 y4 g4 y5 g5 y6 g6 y7 g7 y8 g8 y9 g9 y10 g10 yl f8 f9 f10 hne; have hg10 := HG9.out.keep0 hf10; obtain ⟨z0, z1, z2, z3, z4, z5, z6, z7, z8, z9, z10⟩ := eleven_at hg10.arr; have zl := hg10.lB; obtain ⟨y0, y1, y2, y3, y4, y5, y6, y7, y8, y9, y10⟩ := eleven_at hg10.res; obtain ⟨g0, g1, g2, g3, g4, g5, g6, g7, g8, g9, g10⟩ := eleven_fr hg10.res; have yl := lt_of_block hg10.res; have HG10 := Lib.hid hg10; have HF10 := Lib.hid hf10; clear hg10 hf10))
       clear z0 z1 z2 z3 z4 z5 z6 z7 z8 z9 z10 zl y0 g0 y1 g1 y2 g2 y3 g3 y4 g4 y5 g5 y6 g6 y7 g7 y8 g8 y9 g9 y10 g10 yl
       have hel := eleven_cells HG10.out.res (.int .i64 0) (.int .i64 0) (.int .i64 0) (.int .i64 0) (.int .i64 0) (.int .i64 0) (.int .i64 0) (.slice none 0 0) (.slice none 0 0) (.slice none 0 0) (.slice none 0 0) _ rfl
       obtain ⟨y0, y1, y2, y3, y4, y5, y6, y7, y8, y9, y10⟩ := eleven_at hel
       exact bodyPost_ret (v := .tuple #[.agg #[.int .i64 0, .int .i64 0, .int .i64 0, .int .i64 0, .int .i64 0, .int .i64 0, .int .i64 0, .slice none 0 0, .slice none 0 0, .slice none 0 0, .slice none 0 0], .int .i64 2]) (by simp [results, Tryz.results16, go_sem, y0, y1, y2, y3, y4, y5, y6, y7, y8, y9, y10]) rfl (HG10.out.outZ HDR.out (eleven_set w10 w.heap.size (.int .i64 0) (.int .i64 0) (.int .i64 0) (.int .i64 0) (.int .i64 0) (.int .i64 0) (.int .i64 0) (.slice none 0 0) (.slice none 0 0) (.slice none 0 0) (.slice none 0 0)))
     have HDR := Lib.hid (HTG.out _ (DecSteps.good (hs7 ▸ HST.out) (by omega) hr))
     clear HST hs7
     obtain ⟨z0, z1, z2, z3, z4, z5, z6, z7, z8, z9, z10⟩ := eleven_at HG.out.arr; have zl := HG.out.lB
     have HR := Lib.hid hr; clear hr
     go_wp2_with (first
      | (go_at_call 57; refine (pGetCausal_fit ib s s7 es ks c wr HCR.out HG.out.ins HLE.out HCF.out).mono ?_; rintro e w8 ⟨ev, kv, cv, rfl, ht8, hc8, hi8, hf8⟩; obtain ⟨e0, d0, e1, d1, e2, d2, rfl, rfl, rfl⟩ := (CauAt.mk ht8 (CtxQ.at_ hc8)).shape; generalize es.length = m0 at *; generalize ks.len = m1 at *; generalize c.length = m2 at *; clear z0 z1 z2 z3 z4 z5 z6 z7 z8 z9 z10 zl; have hg8 := HG.out.call hi8 hf8; obtain ⟨z0, z1, z2, z3, z4, z5, z6, z7, z8, z9, z10⟩ := eleven_at hg8.arr; have f8 := free_at' hg8.arr 8; have f9 := free_at' hg8.arr 9; have f10 := free_at' hg8.arr 10; have zl := hg8.lB; obtain ⟨y0, y1, y2, y3, y4, y5, y6, y7, y8, y9, y10⟩ := eleven_at hg8.res; obtain ⟨g0, g1, g2, g3, g4, g5, g6, g7, g8, g9, g10⟩ := eleven_fr hg8.res; have yl := lt_of_block hg8.res; have hne : ¬ w6.heap.size = w.heap.size := (by have h1 := hg8.hB; have h2 := hg8.hib; have h3 := hg8.hib0; omega); obtain ⟨hg9, ht9, hc9⟩ := HG.out.cau hi8 hf8 ht8 hc8; have HRT := Lib.hid (show Calls Tryz.prog 11 #[.agg #[.int .i64 2, .int .i64 fr, .int .i64 tt, .int .i64 v0, .int .i64 v1, .int .i64 v2, .int .i64 v3, .slice aV q cV, .slice e0 m0 d0, .slice e1 m1 d1, .slice e2 m2 d2]] (((w8.setCell ⟨w6.heap.size, 8, none⟩ (.slice e0 m0 d0)).setCell ⟨w6.heap.size, 9, none⟩ (.slice e1 m1 d1)).setCell ⟨w6.heap.size, 10, none⟩ (.slice e2 m2 d2)) fun e w' => e = .returned (.bool true) ∧ Frm NoS (((w8.setCell ⟨w6.heap.size, 8, none⟩ (.slice e0 m0 d0)).setCell ⟨w6.heap.size, 9, none⟩ (.slice e1 m1 d1)).setCell ⟨w6.heap.size, 10, none⟩ (.slice e2 m2 d2)) w' from (tf_true HR.out) ▸ mRight_at (MgQ w2 (Only w6.heap.size) (.slice aV q cV)) ⟨2, fr, tt, v0, v1, v2, v3, ps.map (·.b), es, ks, c⟩ ps _ _ _ _ _ ⟨hg9.bld.buns hg9.each.cau, rfl, ⟨ht9, CtxQ.at_ hc9⟩⟩ HOK.out); have HG9 := Lib.hid hg9; have HT9 := Lib.hid ht9; have HC9 := Lib.hid hc9; clear hg8 hg9 ht8 hc8 hi8 hf8 ht9 hc9)
      | (go_at_call 58; refine (HDC.out _ HG9.out.ins).mono ?_; rintro e w9 ⟨rfl, rfl⟩)
      | (go_at_call 11; refine HRT.out.mono ?_; rintro e w10 ⟨rfl, hf10⟩; clear z0 z1 z2 z3 z4 z5 z6 z7 z8 z9 z10 zl y0 g0 y1 g1 y2 g2 y3 g3 y4 g4 y5 g5 y6 g6 y7 g7 y8 g8 y9 g9 y10 g10 yl f8 f9 f10 hne; have hg10 := HG9.out.keep0 hf10; obtain ⟨z0, z1, z2, z3, z4, z5, z6, z7, z8, z9, z10⟩ := eleven_at hg10.arr; have zl := hg10.lB; obtain ⟨y0, y1, y2, y3, y4, y5, y6, y7, y8, y9, y10⟩ := eleven_at hg10.res; obtain ⟨g0, g1, g2, g3, g4, g5, g6, g7, g8, g9, g10⟩ := eleven_fr hg10.res; have yl := lt_of_block hg10.res; have HG10 := Lib.hid hg10; have HF10 := Lib.hid hf10; clear hg10 hf10))
     clear z0 z1 z2 z3 z4 z5 z6 z7 z8 z9 z10 zl y0 g0 y1 g1 y2 g2 y3 g3 y4 g4 y5 g5 y6 g6 y7 g7 y8 g8 y9 g9 y10 g10 yl
     have hel := eleven_cells HG10.out.res (.int .i64 2) (.int .i64 fr) (.int .i64 tt) (.int .i64 v0) (.int .i64 v1) (.int .i64 v2) (.int .i64 v3) (.slice aV q cV) (.slice e0 m0 d0) (.slice e1 m1 d1) (.slice e2 m2 d2) _ rfl
     obtain ⟨y0, y1, y2, y3, y4, y5, y6, y7, y8, y9, y10⟩ := eleven_at hel
     exact bodyPost_ret (v := .tuple #[.agg #[.int .i64 2, .int .i64 fr, .int .i64 tt, .int .i64 v0, .int .i64 v1, .int .i64 v2, .int .i64 v3, .slice aV q cV, .slice e0 m0 d0, .slice e1 m1 d1, .slice e2 m2 d2], .int .i64 0]) (by simp [results, Tryz.results16, go_sem, y0, y1, y2, y3, y4, y5, y6, y7, y8, y9, y10]) rfl (HG10.out.outM (m := ⟨2, fr, tt, v0, v1, v2, v3, ps.map (·.b), es, ks, c⟩) HDR.out rfl HOK.out ⟨HT9.out.keep0 HF10.out, CtxQ.keep0 HC9.out HF10.out⟩ (eleven_set w10 w.heap.size (.int .i64 2) (.int .i64 fr) (.int .i64 tt) (.int .i64 v0) (.int .i64 v1) (.int .i64 v2) (.int .i64 v3) (.slice aV q cV) (.slice e0 m0 d0) (.slice e1 m1 d1) (.slice e2 m2 d2)))
  cases s with
  | none =>
   have HLIM := Lib.hid (show q = n.toNat ∨ (none : Option (List UInt8)) = none from .inr rfl)
   have HCF0 := Lib.hid (show kind = 2 → CauFit none from fun _ => .small (by show 0 ≤ 6000; omega))
   clear HBF HCF1
   by_cases hkd : kind = 2
   rotate_left 1
   · have c2' : ((kind : Int) == 2) = false := beq_false_of_ne hkd
     have HST := Lib.hid (show DecSteps 4 4 x ⟨kind, fr, tt, v0, v1, v2, v3, ps.map (·.b), [], .nil, []⟩ n q s4 s5 none none from ⟨HHD.out, G5.out, HRUN.out, HLIM.out, hq, by rw [if_neg hkd]; exact ⟨⟨rfl, rfl, rfl⟩, rfl⟩⟩)
     have HOK := Lib.hid (show MsgOkS ⟨kind, fr, tt, v0, v1, v2, v3, ps.map (·.b), [], .nil, []⟩ from ⟨fun b hb => by
      obtain ⟨p, hp, rfl⟩ := List.mem_map.1 hb
      exact HALL.out p hp, by rw [List.length_map, HPL.out]; omega, zero_okS.st⟩)
     clear hkd
     have hn0' : ¬ n < 0 := by omega
     have hdn : doneOf none = false := rfl
     have HDC := Lib.hid (fun W h => (show Calls Tryz.prog 58 #[.pointer (some ⟨ib, 0, none⟩)] W fun e w' => e = .returned (.bool false) ∧ W = w' from hdn ▸ done_go ib none W h))
     have HDR := Lib.hid (HTB.out (HST.out.bad (by decide) (by decide) (by decide) (by decide) (.inr (.inl fun h => by rw [h] at hdn; cases hdn))))
     clear HST HOK hdn
     obtain ⟨z0, z1, z2, z3, z4, z5, z6, z7, z8, z9, z10⟩ := eleven_at HG.out.arr; have zl := HG.out.lB
     obtain ⟨y0, y1, y2, y3, y4, y5, y6, y7, y8, y9, y10⟩ := eleven_at HG.out.res; obtain ⟨g0, g1, g2, g3, g4, g5, g6, g7, g8, g9, g10⟩ := eleven_fr HG.out.res; have yl := lt_of_block HG.out.res
     go_wp2_with (first
      | (go_at_call 55; refine (bad_go ib _ _ HG.out.ins).mono ?_; rintro e w4' ⟨rfl, rfl⟩)
      | (go_at_call 58; refine (HDC.out _ HG.out.ins).mono ?_; rintro e w9 ⟨rfl, rfl⟩))
     clear z0 z1 z2 z3 z4 z5 z6 z7 z8 z9 z10 zl y0 g0 y1 g1 y2 g2 y3 g3 y4 g4 y5 g5 y6 g6 y7 g7 y8 g8 y9 g9 y10 g10 yl
     have hel := eleven_cells HG.out.res (.int .i64 0) (.int .i64 0) (.int .i64 0) (.int .i64 0) (.int .i64 0) (.int .i64 0) (.int .i64 0) (.slice none 0 0) (.slice none 0 0) (.slice none 0 0) (.slice none 0 0) _ rfl
     obtain ⟨y0, y1, y2, y3, y4, y5, y6, y7, y8, y9, y10⟩ := eleven_at hel
     exact bodyPost_ret (v := .tuple #[.agg #[.int .i64 0, .int .i64 0, .int .i64 0, .int .i64 0, .int .i64 0, .int .i64 0, .int .i64 0, .slice none 0 0, .slice none 0 0, .slice none 0 0, .slice none 0 0], .int .i64 2]) (by simp [results, Tryz.results16, go_sem, y0, y1, y2, y3, y4, y5, y6, y7, y8, y9, y10]) rfl (HG.out.outZ HDR.out (eleven_set wr w.heap.size (.int .i64 0) (.int .i64 0) (.int .i64 0) (.int .i64 0) (.int .i64 0) (.int .i64 0) (.int .i64 0) (.slice none 0 0) (.slice none 0 0) (.slice none 0 0) (.slice none 0 0)))
   subst hkd
   obtain ⟨es, ks, c, s7, hcr⟩ := CauRes.total none
   have HCR := Lib.hid hcr
   have HCF := Lib.hid (HCF0.out rfl)
   have HST := Lib.hid (show DecSteps 4 4 x ⟨2, fr, tt, v0, v1, v2, v3, ps.map (·.b), es, ks, c⟩ n q s4 s5 none s7 from ⟨HHD.out, G5.out, HRUN.out, HLIM.out, hq, by rw [if_pos (show (2 : Int) = 2 from rfl)]; exact hcr⟩)
   have HOK := Lib.hid (show MsgOkS ⟨2, fr, tt, v0, v1, v2, v3, ps.map (·.b), es, ks, c⟩ from ⟨fun b hb => by
    obtain ⟨p, hp, rfl⟩ := List.mem_map.1 hb
    exact HALL.out p hp, by rw [List.length_map, HPL.out]; omega, CauFit.ok HCF.out hcr⟩)
   clear hcr
   have hn0' : ¬ n < 0 := by omega
   have hdn : doneOf s7 = false := by rw [show s7 = none from cauRes_none HCR.out]; rfl
   have HDC := Lib.hid (fun W h => (show Calls Tryz.prog 58 #[.pointer (some ⟨ib, 0, none⟩)] W fun e w' => e = .returned (.bool false) ∧ W = w' from hdn ▸ done_go ib s7 W h))
   have HDR := Lib.hid (HTB.out (HST.out.bad (by decide) (by decide) (by decide) (by decide) (.inr (.inl fun h => by rw [h] at hdn; cases hdn))))
   clear HST HOK hdn
   obtain ⟨z0, z1, z2, z3, z4, z5, z6, z7, z8, z9, z10⟩ := eleven_at HG.out.arr; have zl := HG.out.lB
   go_wp2_with (first
    | (go_at_call 55; refine (bad_go ib _ _ HG.out.ins).mono ?_; rintro e w4' ⟨rfl, rfl⟩)
    | (go_at_call 57; refine (pGetCausal_fit ib none s7 es ks c wr HCR.out HG.out.ins HLE.out HCF.out).mono ?_; rintro e w8 ⟨ev, kv, cv, rfl, ht8, hc8, hi8, hf8⟩; obtain ⟨e0, d0, e1, d1, e2, d2, rfl, rfl, rfl⟩ := (CauAt.mk ht8 (CtxQ.at_ hc8)).shape; generalize es.length = m0 at *; generalize ks.len = m1 at *; generalize c.length = m2 at *; clear z0 z1 z2 z3 z4 z5 z6 z7 z8 z9 z10 zl; have hg8 := HG.out.call hi8 hf8; obtain ⟨z0, z1, z2, z3, z4, z5, z6, z7, z8, z9, z10⟩ := eleven_at hg8.arr; have f8 := free_at' hg8.arr 8; have f9 := free_at' hg8.arr 9; have f10 := free_at' hg8.arr 10; have zl := hg8.lB; obtain ⟨y0, y1, y2, y3, y4, y5, y6, y7, y8, y9, y10⟩ := eleven_at hg8.res; obtain ⟨g0, g1, g2, g3, g4, g5, g6, g7, g8, g9, g10⟩ := eleven_fr hg8.res; have yl := lt_of_block hg8.res; have hne : ¬ w6.heap.size = w.heap.size := (by have h1 := hg8.hB; have h2 := hg8.hib; have h3 := hg8.hib0; omega); obtain ⟨hg9, ht9, hc9⟩ := HG.out.cau hi8 hf8 ht8 hc8; have HG9 := Lib.hid hg9; have HT9 := Lib.hid ht9; have HC9 := Lib.hid hc9; clear hg8 hg9 ht8 hc8 hi8 hf8 ht9 hc9)
    | (go_at_call 58; refine (HDC.out _ HG9.out.ins).mono ?_; rintro e w9 ⟨rfl, rfl⟩))
   clear z0 z1 z2 z3 z4 z5 z6 z7 z8 z9 z10 zl y0 g0 y1 g1 y2 g2 y3 g3 y4 g4 y5 g5 y6 g6 y7 g7 y8 g8 y9 g9 y10 g10 yl f8 f9 f10 hne
   have hel := eleven_cells HG9.out.res (.int .i64 0) (.int .i64 0) (.int .i64 0) (.int .i64 0) (.int .i64 0) (.int .i64 0) (.int .i64 0) (.slice none 0 0) (.slice none 0 0) (.slice none 0 0) (.slice none 0 0) _ rfl
   obtain ⟨y0, y1, y2, y3, y4, y5, y6, y7, y8, y9, y10⟩ := eleven_at hel
   exact bodyPost_ret (v := .tuple #[.agg #[.int .i64 0, .int .i64 0, .int .i64 0, .int .i64 0, .int .i64 0, .int .i64 0, .int .i64 0, .slice none 0 0, .slice none 0 0, .slice none 0 0, .slice none 0 0], .int .i64 2]) (by simp [results, Tryz.results16, go_sem, y0, y1, y2, y3, y4, y5, y6, y7, y8, y9, y10]) rfl (HG9.out.outZ HDR.out (eleven_set (((w8.setCell ⟨w6.heap.size, 8, none⟩ (.slice e0 m0 d0)).setCell ⟨w6.heap.size, 9, none⟩ (.slice e1 m1 d1)).setCell ⟨w6.heap.size, 10, none⟩ (.slice e2 m2 d2)) w.heap.size (.int .i64 0) (.int .i64 0) (.int .i64 0) (.int .i64 0) (.int .i64 0) (.int .i64 0) (.int .i64 0) (.slice none 0 0) (.slice none 0 0) (.slice none 0 0) (.slice none 0 0)))
  | some r =>
   have hqn : q < n.toNat := by omega
   have HBF1 := Lib.hid (HBF.out hqn)
   obtain ⟨b, s', hres⟩ := BunRes.total (some r)
   have HRES := Lib.hid hres
   have HBOK := Lib.hid (BunRes.okF HBF1.out hres)
   have HRUN2 := Lib.hid (Run.snoc HRUN.out hres)
   clear hres HBF HCF1
   obtain ⟨dc, af, la, u0, u1, u2, u3, es', ks', c'⟩ := b
   have z7 := cell_at' HG.out.arr 7 rfl
   have zl := HG.out.lB
   go_wp2_with (go_at_call 55; refine (bad_go ib _ _ HG.out.ins).mono ?_; rintro e w4' ⟨rfl, rfl⟩)
   refine wp_region_G (S := fun w' => w'.cell? ⟨w6.heap.size, 7, none⟩ = some (.slice aV q cV)) 7 (by kernel_rfl) z7 ?_
   intro hS
   clear z7 zl
   have HY := Lib.hid (HG.out.keep0 (Frm.drew NoS wr))
   clear HG
   generalize wr.drew = Y0 at *
   refine tkG 0 42 rfl rfl (v := ?_) (.inl ⟨by rfl, ?_⟩) ?_
   rotate_left 1
   · (intro w hSw; (try dsimp only at hSw); go_simp; (try with_reducible rfl))
   refine tkG 1 43 rfl rfl (v := ?_) (.inl ⟨by rfl, ?_⟩) ?_
   rotate_left 1
   · (intro w hSw; (try dsimp only at hSw); go_simp; (try with_reducible rfl))
   try simp only [Act.put, List.setIfInBounds_toArray, List.set_cons_zero, List.set_cons_succ]
   refine tkG 2 44 rfl rfl (v := ?_) (.inl ⟨by rfl, ?_⟩) ?_
   rotate_left 1
   · (intro w hSw; (try dsimp only at hSw); go_simp; (try with_reducible rfl))
   try simp only [Act.put, List.setIfInBounds_toArray, List.set_cons_zero, List.set_cons_succ]
   refine one_opG (i := 3) (by kernel_rfl) rfl (fun K hK => ?_)
   go_simp
   refine (bunGet_fit ib (some r) s' ⟨dc, af, la, u0, u1, u2, u3, es', ks', c'⟩ Y0 HRES.out HY.out.ins HLE.out HBF1.out).mono ?_
   rintro e1 Y1 ⟨ev', kv', cv', rfl, ht1, hc1, hi1, hf1⟩
   obtain ⟨a3, c3, a4, c4, a5, c5, rfl, rfl, rfl⟩ := (CauAt.mk ht1 (CtxQ.at_ hc1)).shape
   have hpc : BunP.cells ⟨⟨dc, af, la, u0, u1, u2, u3, es', ks', c'⟩, .slice a3 es'.length c3, .slice a4 ks'.len c4, .slice a5 c'.length c5⟩ = [.int .i64 dc, .int .i64 af, .int .i64 la, .int .i64 u0, .int .i64 u1, .int .i64 u2, .int .i64 u3, .slice a3 es'.length c3, .slice a4 ks'.len c4, .slice a5 c'.length c5] := rfl
   have HPC := Lib.hid hpc; clear hpc
   have hone := BunP.one ⟨⟨dc, af, la, u0, u1, u2, u3, es', ks', c'⟩, .slice a3 es'.length c3, .slice a4 ks'.len c4, .slice a5 c'.length c5⟩ rfl rfl rfl
   rw [HPC.out] at hone
   have HONE := Lib.hid hone; clear hone
   have HT1 := Lib.hid ht1; have HC1 := Lib.hid hc1; clear ht1 hc1
   have hgy := HY.out.call hi1 hf1
   have hS1 : Y1.cell? ⟨w6.heap.size, 7, none⟩ = some (.slice aV q cV) := cell_at' hgy.arr 7 rfl
   have hown := hgy.bld.own
   rw [HPL.out] at hown
   have HOY := Lib.hid hown; clear hown
   have HGY := Lib.hid hgy; clear hgy
   have HI1 := Lib.hid hi1; have HF1 := Lib.hid hf1; clear hi1 hf1
   generalize es'.length = n1 at *
   generalize ks'.len = n2 at *
   generalize c'.length = n3 at *
   refine hK.out _ _ hS1 ?_
   clear hK K hS
   try simp only [Act.put, List.setIfInBounds_toArray, List.set_cons_zero, List.set_cons_succ]
   refine one_opG (i := 4) (by kernel_rfl) rfl (fun K hK => ?_)
   go_simp
   have hS3 : (Y1.alloc (.cells #[.int .i64 dc, .int .i64 af, .int .i64 la, .int .i64 u0, .int .i64 u1, .int .i64 u2, .int .i64 u3, .slice a3 n1 c3, .slice a4 n2 c4, .slice a5 n3 c5] 64)).cell? ⟨w6.heap.size, 7, none⟩ = some (.slice aV q cV) := (Frm.alloc NoS Y1 _).cell' hS1 id
   refine hK.out _ _ hS3 ?_
   clear hK K
   try simp only [Act.put, List.setIfInBounds_toArray, List.set_cons_zero, List.set_cons_succ]
   refine one_opG (i := 5) (by kernel_rfl) rfl (fun K hK => ?_)
   refine stp_app1 Y1 [.int .i64 dc, .int .i64 af, .int .i64 la, .int .i64 u0, .int .i64 u1, .int .i64 u2, .int .i64 u3, .slice a3 n1 c3, .slice a4 n2 c4, .slice a5 n3 c5] rfl (.tmp 43) (.tmp 46) 38 rfl 64 ib0 _ 10 128 Tryz.underlying38 hi hz0 hz1 hz2 (by decide) (by decide) (.slice aV q cV) q _ HOY.out 1 1 (by simp [Act.eval]) (by simp [Act.eval]) rfl HONE.out (by simp only [maxLen]; omega) (by omega) ?_
   intro ad c6 w8 own6 fm6 fr6
   have hnb : ¬ RowS (.slice aV q cV) w6.heap.size := fun hr => (HGY.out.bld.new _ hr).2 rfl
   have hS6 : w8.cell? ⟨w6.heap.size, 7, none⟩ = some (.slice aV q cV) := fm6.cell' hS1 hnb
   have hcf : w8.frozen? ⟨w6.heap.size, 7, none⟩ = false := free_at' (fm6.blk HGY.out.arr hnb) 7
   have hl6 : w6.heap.size < w8.heap.size := lt_of_block (fm6.blk HGY.out.arr hnb)
   have HSTP := Lib.hid (show DG w w2 (w8.setCell ⟨w6.heap.size, 7, none⟩ (.slice ad (q + 1) c6)) ib w6.heap.size s' #[.int .i64 kind, .int .i64 fr, .int .i64 tt, .int .i64 v0, .int .i64 v1, .int .i64 v2, .int .i64 v3, .slice ad (q + 1) c6, .slice none 0 0, .slice none 0 0, .slice none 0 0] (ps ++ [⟨⟨dc, af, la, u0, u1, u2, u3, es', ks', c'⟩, .slice a3 n1 c3, .slice a4 n2 c4, .slice a5 n3 c5⟩]) (.slice ad (q + 1) c6) from
    HY.out.step (p := ⟨⟨dc, af, la, u0, u1, u2, u3, es', ks', c'⟩, .slice a3 n1 c3, .slice a4 n2 c4, .slice a5 n3 c5⟩) HI1.out HF1.out HT1.out HC1.out (by rw [HPL.out]; exact own6) fm6 fr6)
   have hrow := hS6
   refine hK.out _ _ hS6 ?_
   clear hK K own6 fm6 fr6 hnb hS3
   try simp only [Act.put, List.setIfInBounds_toArray, List.set_cons_zero, List.set_cons_succ]
   refine tkG 6 48 rfl rfl (v := ?_) (.inl ⟨by rfl, ?_⟩) ?_
   rotate_left 1
   · (intro w hSw; (try dsimp only at hSw); go_simp; (try with_reducible rfl))
   try simp only [Act.put, List.setIfInBounds_toArray, List.set_cons_zero, List.set_cons_succ]
   refine last_opG (by kernel_rfl) (by kernel_rfl) rfl (fun K hK => ?_)
   go_simp
   refine hK.out _ _ ?_
   clear hK K hrow hcf
   go_wp2
   go_roundw
   case rel => exact ⟨q + 1, _, s', _, by omega, by go_num, by rw [List.map_append]; exact HRUN2.out, HSTP.out, fun p hp => by
    rcases List.mem_append.1 hp with hp | hp
    · exact HALL.out p hp
    · rw [List.mem_singleton.1 hp]; exact HBOK.out⟩
   case measure => simp [intOf]; omega
end Go.Proofs.YtcahemkomfaabaaGreat
