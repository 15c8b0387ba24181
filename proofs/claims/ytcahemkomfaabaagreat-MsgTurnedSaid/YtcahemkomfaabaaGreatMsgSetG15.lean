/- Words for the law MsgSet: PackGet2, PackGet3, PackGet4, PackGet5. -/
import Derived.Test.YtcahemkomfaabaaGreatMsgSetG9
import Derived.Test.YtcahemkomfaabaaGreatMsgSetG14
set_option linter.unusedSimpArgs false
set_option linter.unusedVariables false
set_option maxHeartbeats 32000000
set_option maxRecDepth 1000000
namespace Go.Proofs.YtcahemkomfaabaaGreat
open Go.RowKit
theorem NumStep.left {st s : Option (List UInt8)} {m v : Int} (h : NumStep st m v s) : (leftOf s).length ≤ (leftOf st).length := by
 cases s with
 | none => exact Nat.zero_le _
 | some r =>
  obtain ⟨rfl, _⟩ := num_good h
  show r.length ≤ (numB v ++ r).length
  rw [List.length_append]; omega
theorem TextStep.left {st s : Option (List UInt8)} {m : Int} {v : ByteArray} (h : TextStep st m v s) : (leftOf s).length ≤ (leftOf st).length := by
 cases s with
 | none => exact Nat.zero_le _
 | some r =>
  obtain ⟨rfl, _⟩ := text_good h
  show r.length ≤ (textB v ++ r).length
  rw [List.length_append]; omega
theorem CntStep.less {st s : Option (List UInt8)} {m : Int} {n : Nat} (h : CntStep st m n s) : (leftOf s).length ≤ (leftOf st).length := by
 cases s with
 | none => exact Nat.zero_le _
 | some r =>
  obtain ⟨rfl, _⟩ := h.good
  show r.length ≤ (numB n ++ r).length
  rw [List.length_append]; omega
theorem GetRes.left {B : Lim} {d : Nat} {st s : Option (List UInt8)} {es : List Ent} {ks : KidsL} (h : GetRes B d st es ks s) : (leftOf s).length ≤ (leftOf st).length := by
 rcases h with ⟨bs, r, rfl, rfl, h⟩ | ⟨rfl, _⟩
 · show r.length ≤ bs.length
   rw [h.eq, List.length_append]; omega
 · exact Nat.zero_le _
theorem EntStep.total (B : Lim) (st : Option (List UInt8)) : ∃ (e : Ent) (s1 s2 s3 s4 : Option (List UInt8)), NumStep st B.dc e.dc s1 ∧ NumStep s1 B.n e.n s2 ∧ TextStep s2 B.s e.s s3 ∧ NumStep s3 B.k e.k s4 := by
 obtain ⟨a, s1, h1⟩ := NumStep.total st B.dc
 obtain ⟨b, s2, h2⟩ := NumStep.total s1 B.n
 obtain ⟨c, s3, h3⟩ := TextStep.total s2 B.s
 obtain ⟨d, s4, h4⟩ := NumStep.total s3 B.k
 exact ⟨⟨a, b, c, d⟩, s1, s2, s3, s4, h1, h2, h3, h4⟩
def GetPost (B : Lim) (D : Nat) (st : Option (List UInt8)) (ib : Nat) (w : World) (e : Ending) (w' : World) : Prop :=
 ∃ ev kv es ks s, e = .returned (.agg #[ev, kv]) ∧ TreeAt (fun b => w.heap.size ≤ b) w' ev kv es ks ∧ GetRes B D st es ks s ∧ InSt w' ib s ∧ Frm (Only ib) w w'
theorem pget_zero (ib : Nat) (st : Option (List UInt8)) (w : World) (h : InSt w ib st) : Calls Tryz.prog 144 #[.pointer (some ⟨ib, 0, none⟩), .int .i64 0] w (GetPost bdP 0 st ib w) := by
 have hlt := h.lt
 have HF := Lib.hid (fun w1 (f : Frm NoS w w1) => (h.keep f fun _ _ => id).heap)
 clear h
 obtain ⟨WB, hWB⟩ : ∃ WB, WB = (w.alloc (.cells #[.slice none 0 0, .slice none 0 0] 28)).alloc (.cells #[.slice none 0 0, .slice none 0 0] 28) := ⟨_, rfl⟩
 obtain ⟨hb3, hfb, hbs⟩ := two_blocks w (.cells #[.slice none 0 0, .slice none 0 0] 28) #[.slice none 0 0, .slice none 0 0] 28
 have hb2 : WB.heap[w.heap.size]? = some (.cells #[.slice none 0 0, .slice none 0 0] 28 (0, 0)) := by rw [hWB, Below.heap_alloc _ _ _ (by simp)]; exact heap_alloc_new w _
 rw [← hWB] at hb3 hfb hbs
 have HB2 := Lib.hid hb2; clear hb2
 have HB3 := Lib.hid hb3; clear hb3
 have HFB := Lib.hid hfb; clear hfb
 have HBS := Lib.hid hbs; clear hbs
 have HWB := Lib.hid hWB; clear hWB
 have hno : ¬ Only ib w.heap.size := fun h => by have h : w.heap.size = ib := h; omega
 have hno1 : ¬ Only ib (w.heap.size + 1) := fun h => by have h : w.heap.size + 1 = ib := h; omega
 have HNO := Lib.hid hno; clear hno
 have HNO1 := Lib.hid hno1; clear hno1
 go_enter Tryz.func144, Tryz.ntmps144
 go_wp2_with (first
  | (go_at_call 109; rw [← HWB.out]; obtain ⟨a, c, hh⟩ := HF.out WB HFB.out; refine (fail_go ib _ _ WB hh).mono ?_; rintro e w1 ⟨rfl, hi2, hf2⟩; have HI1 := Lib.hid (show InSt w1 ib none from hi2); clear hi2 hh; have HF1 := Lib.hid hf2; clear hf2)
  | (go_at_call 145; refine (pcount_any ib none w1 HI1.out).mono ?_; rintro e w2 ⟨n, s1, rfl, hc1, hi2, hf2⟩; obtain ⟨rfl, rfl⟩ := hc1.none_; clear hc1; have HI2 := Lib.hid hi2; clear hi2; have HF2 := Lib.hid hf2; clear hf2))
 go_loopw [13] (fun i ww => i = .int .i64 0 ∧ ww = w2) (fun _ _ => 0)
 case atStart => exact ⟨rfl, rfl⟩
 case round =>
  obtain ⟨rfl, rfl⟩ := hrel
  go_wp2_with (go_at_call 145; refine (pcount_any ib none wr HI2.out).mono ?_; rintro e w3 ⟨n, s1, rfl, hc1, hi2, hf2⟩; obtain ⟨rfl, rfl⟩ := hc1.none_; clear hc1; have HI3 := Lib.hid hi2; clear hi2; have HF3 := Lib.hid hf2; clear hf2)
  go_loopw [34] (fun i ww => i = .int .i64 0 ∧ ww = w3) (fun _ _ => 0)
  case atStart => exact ⟨rfl, rfl⟩
  case round =>
   obtain ⟨rfl, rfl⟩ := hrel
   have k2 := HF3.out.blk (HF2.out.blk (HF1.out.blk HB2.out HNO.out) HNO.out) HNO.out
   have k3 := HF3.out.blk (HF2.out.blk (HF1.out.blk HB3.out HNO1.out) HNO1.out) HNO1.out
   have y0 := cell_at' k2 0 rfl
   have y1 := cell_at' k2 1 rfl
   have f0 := free_at' k2 0
   have f1 := free_at' k2 1
   have z0 := cell_at' k3 0 rfl
   have z1 := cell_at' k3 1 rfl
   have hl2 := lt_of_block k2
   have K2 := Lib.hid k2; clear k2 k3
   go_wp2
   clear y0 y1
   have y0 := cell_at' (set_at' (set_at' K2.out 0 (.slice none 0 0)) 1 (.slice none 0 0)) 0 rfl
   have y1 := cell_at' (set_at' (set_at' K2.out 0 (.slice none 0 0)) 1 (.slice none 0 0)) 1 rfl
   refine bodyPost_ret (v := .agg #[.slice none 0 0, .slice none 0 0]) (by simp [results, Tryz.results144, go_sem, y0, y1]) rfl ⟨_, _, [], .nil, none, rfl, ?_, get_zero _ _ _ _, HI3.out.keep (two_set _ _ _ _) ?_, ?_⟩
   · exact ⟨⟨.inl ⟨none, rfl, rfl, rfl⟩, fun h => absurd rfl h⟩, [], ⟨.inl ⟨none, rfl, rfl, rfl⟩, fun h => absurd rfl h⟩, rfl⟩
   · intro j hj hs
     have hs : j = w.heap.size := hs
     omega
   · have f1 := (((HFB.out.mono (T := Only ib) fun _ _ h => h.elim).trans HF1.out fun _ _ h => h).trans HF2.out fun _ _ h => h).trans HF3.out fun _ _ h => h
     exact f1.trans (two_set _ _ _ _) fun i hi hs => by have hs : i = w.heap.size := hs; omega
theorem getOut {Q : Nat → Prop} {w ww w' : World} {ib h2 : Nat} {s : Option (List UInt8)} {e2 k2 : Value} {es2 : List Ent} {ks2 : KidsL} {B : Lim} {D : Nat} {st : Option (List UInt8)}
 (hin : InSt ww ib s) (hib : ib < w.heap.size) (hf : Frm (Only ib) w ww) (h2n : w.heap.size ≤ h2) (ht : TreeAt Q ww e2 k2 es2 ks2) (hq : ∀ b, Q b → w.heap.size ≤ b ∧ b ≠ h2) (hts : Frm (fun b => b = h2) ww w') (hres : GetRes B D st es2 ks2 s) :
 GetPost B D st ib w (.returned (.agg #[e2, k2])) w' := by
 refine ⟨e2, k2, es2, ks2, s, rfl, ht.turn fun b hb hQ => ⟨hts.block b hb (hq b hQ).2, (hq b hQ).1⟩, hres, hin.keep hts fun j hj hs => by have hs : j = h2 := hs; omega, hf.trans hts fun i hi hs => by have hs : i = h2 := hs; omega⟩
theorem tree_nilQ (Q : Nat → Prop) (w : World) : TreeAt Q w (.slice none 0 0) (.slice none 0 0) [] .nil :=
 ⟨⟨.inl ⟨none, rfl, rfl, rfl⟩, fun h => absurd rfl h⟩, [], ⟨.inl ⟨none, rfl, rfl, rfl⟩, fun h => absurd rfl h⟩, rfl⟩
theorem pget_any : ∀ (D : Nat) (ib : Nat) (st : Option (List UInt8)) (w : World), D ≤ 5 → InSt w ib st → (leftOf st).length ≤ 60000 → Calls Tryz.prog 144 #[.pointer (some ⟨ib, 0, none⟩), .int .i64 D] w (GetPost bdP D st ib w) := by
 intro D
 induction D with
 | zero => intro ib st w _ h _; exact pget_zero ib st w h
 | succ D IHD =>
  intro ib st w hD h hl
  obtain ⟨i0, hi, hz0, hz1, hz2⟩ := info_parts info_entry
  obtain ⟨i1, hi1, hy0, hy1, hy2⟩ := info_parts info_kid
  have IH := Lib.hid IHD; clear IHD
  have hib := h.lt
  have low : ∀ k, Only ib k → k < w.heap.size := fun k hk => by rw [show k = ib from hk]; exact hib
  have HLO := Lib.hid low; clear low
  have hdl : ¬ ((D : Int) + 1 < 1) := by omega
  have hd5 : (D : Int) ≤ 4 := by omega
  have hcast : ((D + 1 : Nat) : Int) = (D : Int) + 1 := by omega
  rw [hcast]
  clear hcast
  obtain ⟨WB, hWB⟩ : ∃ WB, WB = (w.alloc (.cells #[.slice none 0 0, .slice none 0 0] 28)).alloc (.cells #[.slice none 0 0, .slice none 0 0] 28) := ⟨_, rfl⟩
  obtain ⟨hb3, hfb, hbs⟩ := two_blocks w (.cells #[.slice none 0 0, .slice none 0 0] 28) #[.slice none 0 0, .slice none 0 0] 28
  have hb2 : WB.heap[w.heap.size]? = some (.cells #[.slice none 0 0, .slice none 0 0] 28 (0, 0)) := by rw [hWB, Below.heap_alloc _ _ _ (by simp)]; exact heap_alloc_new w _
  rw [← hWB] at hb3 hfb hbs
  have HG0 := Lib.hid (show GetAt (Only ib) (fun k => k = w.heap.size) w WB (w.heap.size + 1) [] [] (.slice none 0 0) (.slice none 0 0) from
   GetAt.start HLO.out (fun k hk => by rw [hk]; exact Nat.le_refl _) (fun k hk => by rw [hk]; exact lt_of_block hb2) (hfb.mono fun _ _ h => h.elim) hb3 (Nat.le_succ _) (by omega))
  have HB2 := Lib.hid hb2; clear hb2
  have HI0 := Lib.hid (h.keep hfb fun _ _ => id); clear h
  have HL := Lib.hid hl; clear hl
  clear hb3 hfb hbs
  have HWB := Lib.hid hWB; clear hWB
  have hno : ¬ Only ib w.heap.size := fun h => by have h : w.heap.size = ib := h; omega
  have HNO := Lib.hid hno; clear hno
  have HIB := Lib.hid hib; clear hib
  go_enter Tryz.func144, Tryz.ntmps144
  go_wp2_with (go_at_call 145; rw [← HWB.out]; refine (pcount_any ib st WB HI0.out).mono ?_; rintro e w1 ⟨n, s1, rfl, hc1, hi1, hf1⟩; have hn6 : n ≤ 60000 := by { have := hc1.left; have := HL.out; omega }; have HL1 := Lib.hid (Nat.le_trans hc1.less HL.out); have HC1 := Lib.hid hc1; clear hc1; have HI1 := Lib.hid hi1; clear hi1; have HG1 := Lib.hid (HG0.out.keepS hf1); have HB21 := Lib.hid (hf1.blk HB2.out HNO.out); clear hf1)
  go_loopw [13] (fun i ww => ∃ (k : Nat) (es : List Ent) (s : Option (List UInt8)) (ev : Value), k ≤ n ∧ i = .int .i64 k ∧ EsRun bdP s1 k es s ∧ InSt ww ib s ∧ (leftOf s).length ≤ 60000 ∧ GetAt (Only ib) (fun k => k = w.heap.size) w ww (w.heap.size + 1) es [] ev (.slice none 0 0) ∧ ww.heap[w.heap.size]? = some (.cells #[.slice none 0 0, .slice none 0 0] 28 (0, 0))) (fun i _ => n - (intOf i).toNat)
  case atStart => exact ⟨0, [], s1, _, Nat.zero_le _, rfl, .zero, HI1.out, HL1.out, HG1.out, HB21.out⟩
  case round =>
   clear HG1 HB21 HI1 HL1 HG0 HI0 HB2 HWB
   obtain ⟨k, es, s, ev, hk, rfl, hrun, hin, hls, hg, hb2⟩ := hrel
   have HRUN := Lib.hid hrun; clear hrun
   have HIN := Lib.hid hin; clear hin
   have HLS := Lib.hid hls; clear hls
   have HB2 := Lib.hid hb2; clear hb2
   have hlen : es.length = k := HRUN.out.len
   obtain ⟨aV, cV, rfl⟩ := (Rd.own hg.eown).sl
   by_cases hlt : k < n
   · obtain ⟨e, t1, t2, t3, t4, g1, g2, g3, g4⟩ := EntStep.total bdP s
     have HG1 := Lib.hid g1
     have HG2 := Lib.hid g2
     have HG3 := Lib.hid g3
     have HG4 := Lib.hid g4
     have HSTEP := Lib.hid (show EntStep bdP s e t4 from ⟨t1, t2, t3, g1, g2, g3, g4⟩)
     clear g1 g2 g3 g4
     rw [hlen] at hg
     have HGA := Lib.hid hg; clear hg
     go_wp2_with (first
      | (go_at_call 53; refine (inum_at ib t1 1099511627776 e.n t2 _ HI3.out HG2.out (by omega) (by omega)).mono ?_; rintro e1 w4 ⟨rfl, hi4, hf4⟩; have HI4 := Lib.hid hi4; clear hi4; have HF4 := Lib.hid hf4; clear hf4)
      | (go_at_call 53; refine (inum_at ib s 4 e.dc t1 _ HIN.out HG1.out (by omega) (by omega)).mono ?_; rintro e1 w3 ⟨rfl, hi3, hf3⟩; have HI3 := Lib.hid hi3; clear hi3; have HF3 := Lib.hid hf3; clear hf3))
     have hll := HG1.out.left
     have hl2 := HG2.out.left
     have hl3 := HG3.out.left
     have hl4 := HG4.out.left
     have HLT := Lib.hid (show (leftOf t4).length ≤ 60000 by have := HLS.out; omega)
     clear hll hl2 hl3 hl4
     have hsp : (w4.alloc (.cells #[.int .i64 e.dc, .int .i64 e.n] 168)).heap[w4.heap.size]? = some (.cells #[.int .i64 e.dc, .int .i64 e.n] 168 (0, 0)) := heap_alloc_new w4 _
     have hgw := (((HGA.out.keepS HF3.out).keepS HF4.out).keep0 (Frm.alloc NoS w4 (.cells #[.int .i64 e.dc, .int .i64 e.n] 168))).keep0 (Frm.drew NoS _)
     have hiw : InSt (w4.alloc (.cells #[.int .i64 e.dc, .int .i64 e.n] 168)).drew ib t2 := (HI4.out.keep (Frm.alloc NoS w4 _) (fun _ _ => id)).keep (Frm.drew NoS _) fun _ _ => id
     have hbw : (w4.alloc (.cells #[.int .i64 e.dc, .int .i64 e.n] 168)).drew.heap[w.heap.size]? = some (.cells #[.slice none 0 0, .slice none 0 0] 28 (0, 0)) := (Frm.drew NoS _).blk ((Frm.alloc NoS w4 _).blk (HF4.out.blk (HF3.out.blk HB2.out HNO.out) HNO.out) id) id
     have hsz0 : (w4.alloc (.cells #[.int .i64 e.dc, .int .i64 e.n] 168)).drew.heap.size = w4.heap.size + 1 := by show (w4.alloc _).heap.size = _; simp
     have hwl : w.heap.size < w4.heap.size := lt_of_block (HF4.out.blk (HF3.out.blk HB2.out HNO.out) HNO.out)
     have hw4 : w.heap.size + 1 < w4.heap.size := lt_of_block ((HGA.out.keepS HF3.out).keepS HF4.out).b3
     have HGW := Lib.hid hgw; clear hgw
     have HIW := Lib.hid hiw; clear hiw
     have HBW := Lib.hid hbw; clear hbw
     have HSZ0 := Lib.hid hsz0; clear hsz0
     have HSP := Lib.hid hsp; clear hsp
     have hown : ∀ b, (Value.slice aV k cV).ownBlock = some b → b < w4.heap.size := fun b hb => own_lt ((HGA.out.keepS HF3.out).keepS HF4.out).eown b hb
     go_wp2_with fail
     refine wp_region_G (S := fun w' => w'.cell? ⟨w4.heap.size, 0, none⟩ = some (.int .i64 e.dc) ∧ w'.cell? ⟨w4.heap.size, 1, none⟩ = some (.int .i64 e.n) ∧ w'.cell? ⟨w.heap.size + 1, 0, none⟩ = some (.slice aV k cV)) 11 (by kernel_rfl) ⟨cell_at' HSP.out 0 rfl, cell_at' HSP.out 1 rfl, cell_at' HGW.out.b3 0 rfl⟩ ?_
     intro hS
     clear HSP HGA HB2 HI3 HI4 HIN HF3 HF4
     generalize (w4.alloc (.cells #[.int .i64 e.dc, .int .i64 e.n] 168)).drew = Y0 at *
     have hni : ¬ Only ib w4.heap.size := fun h => by have h : w4.heap.size = ib := h; have := HIB.out; omega
     have hni3 : ¬ Only ib (w.heap.size + 1) := fun h => by have h : w.heap.size + 1 = ib := h; have := HIB.out; omega
     have HNI := Lib.hid hni; clear hni
     have HNI3 := Lib.hid hni3; clear hni3
     refine tkG 0 20 rfl rfl (v := ?_) (.inl ⟨by rfl, ?_⟩) ?_
     rotate_left 1
     · (intro w hSw; (try dsimp only at hSw); go_simp; (try with_reducible rfl))
     refine tkG 1 21 rfl rfl (v := ?_) (.inl ⟨by rfl, ?_⟩) ?_
     rotate_left 1
     · (intro w hSw; (try dsimp only at hSw); go_simp; (try with_reducible rfl))
     try simp only [Act.put, List.setIfInBounds_toArray, List.set_cons_zero, List.set_cons_succ]
     refine tkG 2 22 rfl rfl (v := ?_) (.inl ⟨by rfl, ?_⟩) ?_
     rotate_left 1
     · (intro w hSw; (try dsimp only at hSw); go_simp; (try with_reducible rfl))
     refine tkG 3 23 rfl rfl (v := ?_) (.inl ⟨by rfl, ?_⟩) ?_
     rotate_left 1
     · (intro w hSw; (try dsimp only at hSw); go_simp; (try with_reducible rfl))
     try simp only [Act.put, List.setIfInBounds_toArray, List.set_cons_zero, List.set_cons_succ]
     refine tkG 5 25 rfl rfl (v := ?_) (.inl ⟨by rfl, ?_⟩) ?_
     rotate_left 1
     · (intro w hSw; (try dsimp only at hSw); go_simp; (try with_reducible rfl))
     try simp only [Act.put, List.setIfInBounds_toArray, List.set_cons_zero, List.set_cons_succ]
     refine one_opG (i := 4) (by kernel_rfl) rfl (fun K hK => ?_)
     go_simp
     refine (itext_at ib t2 30 e.s t3 _ HIW.out HG3.out (by omega) (by omega)).mono ?_
     rintro e1 Y1 ⟨rfl, hi5, hf5⟩
     have hS1 : Y1.cell? ⟨w4.heap.size, 0, none⟩ = some (.int .i64 e.dc) ∧ Y1.cell? ⟨w4.heap.size, 1, none⟩ = some (.int .i64 e.n) ∧ Y1.cell? ⟨w.heap.size + 1, 0, none⟩ = some (.slice aV k cV) := ⟨hf5.cell' hS.1 HNI.out, hf5.cell' hS.2.1 HNI.out, hf5.cell' hS.2.2 HNI3.out⟩
     refine hK.out _ _ hS1 ?_
     clear hK K hS
     have HI5 := Lib.hid hi5; clear hi5
     have HF5 := Lib.hid hf5; clear hf5
     try simp only [Act.put, List.setIfInBounds_toArray, List.set_cons_zero, List.set_cons_succ]
     refine one_opG (i := 6) (by kernel_rfl) rfl (fun K hK => ?_)
     go_simp
     refine (inum_at ib t3 1099511627776 e.k t4 _ HI5.out HG4.out (by omega) (by omega)).mono ?_
     rintro e1 Y2 ⟨rfl, hi6, hf6⟩
     have hS2 : Y2.cell? ⟨w4.heap.size, 0, none⟩ = some (.int .i64 e.dc) ∧ Y2.cell? ⟨w4.heap.size, 1, none⟩ = some (.int .i64 e.n) ∧ Y2.cell? ⟨w.heap.size + 1, 0, none⟩ = some (.slice aV k cV) := ⟨hf6.cell' hS1.1 HNI.out, hf6.cell' hS1.2.1 HNI.out, hf6.cell' hS1.2.2 HNI3.out⟩
     refine hK.out _ _ hS2 ?_
     clear hK K hS1
     have HI6 := Lib.hid hi6; clear hi6
     have HGY := Lib.hid ((HGW.out.keepS HF5.out).keepS hf6)
     have HBY := Lib.hid (hf6.blk (HF5.out.blk HBW.out HNO.out) HNO.out)
     have hy4 : w4.heap.size < Y2.heap.size := by have := HF5.out.size; have := hf6.size; have := HSZ0.out; omega
     clear hf6
     try simp only [Act.put, List.setIfInBounds_toArray, List.set_cons_zero, List.set_cons_succ]
     refine tkG 7 27 rfl rfl (v := ?_) (.inl ⟨by rfl, ?_⟩) ?_
     rotate_left 1
     · (intro w hSw; (try dsimp only at hSw); go_simp; (try with_reducible rfl))
     try simp only [Act.put, List.setIfInBounds_toArray, List.set_cons_zero, List.set_cons_succ]
     refine one_opG (i := 8) (by kernel_rfl) rfl (fun K hK => ?_)
     go_simp
     have hS3 : (Y2.alloc (.cells #[.int .i64 e.dc, .int .i64 e.n, .string e.s, .int .i64 e.k] 170)).cell? ⟨w4.heap.size, 0, none⟩ = some (.int .i64 e.dc) ∧ (Y2.alloc (.cells #[.int .i64 e.dc, .int .i64 e.n, .string e.s, .int .i64 e.k] 170)).cell? ⟨w4.heap.size, 1, none⟩ = some (.int .i64 e.n) ∧ (Y2.alloc (.cells #[.int .i64 e.dc, .int .i64 e.n, .string e.s, .int .i64 e.k] 170)).cell? ⟨w.heap.size + 1, 0, none⟩ = some (.slice aV k cV) := ⟨(Frm.alloc NoS Y2 _).cell' hS2.1 id, (Frm.alloc NoS Y2 _).cell' hS2.2.1 id, (Frm.alloc NoS Y2 _).cell' hS2.2.2 id⟩
     refine hK.out _ _ hS3 ?_
     clear hK K
     try simp only [Act.put, List.setIfInBounds_toArray, List.set_cons_zero, List.set_cons_succ]
     refine one_opG (i := 9) (by kernel_rfl) rfl (fun K hK => ?_)
     have heo := HGY.out.eown
     rw [hlen] at heo
     refine stp_app1 Y2 [.int .i64 e.dc, .int .i64 e.n, .string e.s, .int .i64 e.k] rfl (.tmp 21) (.tmp 28) 25 rfl 170 i0 _ 4 40 Tryz.underlying25 hi hz0 hz1 hz2 (by decide) (by decide) (.slice aV k cV) k _ heo 1 1 (by simp [Act.eval]) (by simp [Act.eval]) rfl (by simp [Value.oneCell']) (by simp only [maxLen]; omega) (by omega) ?_
     clear heo
     intro ad cc w6 own6 fm6 fr6
     have hn3 : ¬ RowS (.slice aV k cV) (w.heap.size + 1) := fun h => (HGY.out.enew _ h).2.2 rfl
     have hn2 : ¬ RowS (.slice aV k cV) w.heap.size := fun h => (HGY.out.enew _ h).2.1 rfl
     have hrow : w6.cell? ⟨w.heap.size + 1, 0, none⟩ = some (.slice aV k cV) := fm6.cell' hS2.2.2 hn3
     have hcf : w6.frozen? ⟨w.heap.size + 1, 0, none⟩ = false := free_at' (fm6.blk HGY.out.b3 hn3) 0
     have hb6 := fm6.blk HBY.out hn2
     have hi6 : InSt w6 ib t4 := HI6.out.keep fm6 fun j hj hs => by
      have := (HGY.out.enew j hs).1
      have := HIB.out
      omega
     have hset : Frm (Only (w.heap.size + 1)) w6 (w6.setCell ⟨w.heap.size + 1, 0, none⟩ (.slice ad (k + 1) cc)) := only_set _ _ _ _
     have HIK := Lib.hid (hi6.keep hset fun j hj hs => by have hs : j = w.heap.size + 1 := hs; have := HIB.out; omega)
     have HBK := Lib.hid (hset.blk hb6 fun hs => by have hs : w.heap.size = w.heap.size + 1 := hs; omega)
     have HSTP := Lib.hid (HGY.out.stepE (e := e) (ev' := .slice ad (k + 1) cc) (w' := w6) (by rw [hlen]; exact own6) fm6 fr6)
     have hlt6 : w.heap.size + 1 < w6.heap.size := lt_of_block (fm6.blk HGY.out.b3 hn3)
     have hS6 : w6.cell? ⟨w4.heap.size, 0, none⟩ = some (.int .i64 e.dc) ∧ w6.cell? ⟨w4.heap.size, 1, none⟩ = some (.int .i64 e.n) ∧ w6.cell? ⟨w.heap.size + 1, 0, none⟩ = some (.slice aV k cV) := ⟨fm6.cell' hS2.1 fun h => Nat.lt_irrefl _ (hown _ h), fm6.cell' hS2.2.1 fun h => Nat.lt_irrefl _ (hown _ h), hrow⟩
     refine hK.out _ _ hS6 ?_
     clear hK K own6 fm6 fr6 hn3 hn2 hb6 hi6 hset hS3 hS2
     try simp only [Act.put, List.setIfInBounds_toArray, List.set_cons_zero, List.set_cons_succ]
     refine tkG 10 30 rfl rfl (v := ?_) (.inl ⟨by rfl, ?_⟩) ?_
     rotate_left 1
     · (intro w hSw; (try dsimp only at hSw); go_simp; (try with_reducible rfl))
     try simp only [Act.put, List.setIfInBounds_toArray, List.set_cons_zero, List.set_cons_succ]
     refine last_opG (by kernel_rfl) (by kernel_rfl) rfl (fun K hK => ?_)
     go_simp
     refine hK.out _ _ ?_
     clear hK K hrow hcf
     go_wp2
     go_roundw
     case rel => exact ⟨k + 1, es ++ [e], t4, _, by omega, by go_num, .snoc HRUN.out HSTEP.out, HIK.out, HLT.out, HSTP.out, HBK.out⟩
     case measure => simp [intOf]; omega
   · obtain rfl : n = k := by omega
     clear hlt hk
     rw [hlen] at hg
     have HGA := Lib.hid hg; clear hg
     go_wp2_with (go_at_call 145; refine (pcount_any ib s wr HIN.out).mono ?_; rintro e w3 ⟨m, s3, rfl, hc3, hi3, hf3⟩; have hm6 : m ≤ 60000 := by { have := hc3.left; have := HLS.out; omega }; have HL3 := Lib.hid (Nat.le_trans hc3.less HLS.out); have HC3 := Lib.hid hc3; clear hc3; have HI3 := Lib.hid hi3; clear hi3; have HG3 := Lib.hid (HGA.out.keepS hf3); have HB3 := Lib.hid (hf3.blk HB2.out HNO.out); clear hf3)
     go_loopw [34] (fun i ww => ∃ (k : Nat) (l : List KidQ) (t : Option (List UInt8)) (kv : Value), k ≤ m ∧ i = .int .i64 k ∧ l.length = k ∧ KInv bdP D s3 m l t ∧ InSt ww ib t ∧ (leftOf t).length ≤ 60000 ∧ GetAt (Only ib) (fun k => k = w.heap.size) w ww (w.heap.size + 1) es l (.slice aV n cV) kv ∧ ww.heap[w.heap.size]? = some (.cells #[.slice none 0 0, .slice none 0 0] 28 (0, 0))) (fun i _ => m - (intOf i).toNat)
     case atStart => exact ⟨0, [], s3, _, Nat.zero_le _, rfl, rfl, .start _ _ _ _, HI3.out, HL3.out, HG3.out, HB3.out⟩
     case round =>
      clear HG3 HB3 HI3 HL3 HGA HB2 HIN
      obtain ⟨k, l, t, kv, hk, rfl, hll, hkv, hin, hlt4, hg, hb2⟩ := hrel
      have HKV := Lib.hid hkv; clear hkv
      have HIN := Lib.hid hin; clear hin
      have HLT := Lib.hid hlt4; clear hlt4
      have HB2 := Lib.hid hb2; clear hb2
      obtain ⟨aK, cK, rfl⟩ := (Rd.own hg.kown).sl
      rw [hll] at hg
      have HGA := Lib.hid hg; clear hg
      have HBAD := Lib.hid (bad_go ib t wr HIN.out)
      by_cases hlt : k < m
      · cases t with
        | none =>
         have HPOST := Lib.hid (get_early bdP_ok (M := 60000) (by omega) (by have := HL.out; omega) HC1.out HRUN.out HC3.out HKV.out [] .nil)
         have HF := Lib.hid HGA.out.frm
         have z0 := cell_at' HB2.out 0 rfl
         have z1 := cell_at' HB2.out 1 rfl
         have f0 := free_at' HB2.out 0
         have f1 := free_at' HB2.out 1
         have hl2 := lt_of_block HB2.out
         go_wp2_with (go_at_call 55; refine HBAD.out.mono ?_; rintro e w4 ⟨rfl, rfl⟩)
         clear z0 z1
         have y0 := cell_at' (set_at' (set_at' HB2.out 0 (.slice none 0 0)) 1 (.slice none 0 0)) 0 rfl
         have y1 := cell_at' (set_at' (set_at' HB2.out 0 (.slice none 0 0)) 1 (.slice none 0 0)) 1 rfl
         have hts : Frm (Only w.heap.size) wr ((wr.setCell ⟨w.heap.size, 0, none⟩ (.slice none 0 0)).setCell ⟨w.heap.size, 1, none⟩ (.slice none 0 0)) := two_set _ _ _ _
         exact bodyPost_ret (v := .agg #[.slice none 0 0, .slice none 0 0]) (by simp [results, Tryz.results144, go_sem, y0, y1]) rfl (getOut HIN.out HIB.out HF.out (Nat.le_refl _) (tree_nilQ (fun b => w.heap.size ≤ b ∧ b ≠ w.heap.size) wr) (fun b h => h) hts HPOST.out)
        | some r =>
         obtain ⟨key, t1, g1⟩ := TextStep.total (some r) 30
         have HT1 := Lib.hid g1; clear g1
         have hgw := HGA.out.keep0 (Frm.drew NoS wr)
         have hiw : InSt wr.drew ib (some r) := HIN.out.keep (Frm.drew NoS _) fun _ _ => id
         have hbw := (Frm.drew NoS wr).blk HB2.out id
         have HGW := Lib.hid hgw; clear hgw
         have HIW := Lib.hid hiw; clear hiw
         have HBW := Lib.hid hbw; clear hbw
         have HLT1 := Lib.hid (Nat.le_trans HT1.out.left HLT.out)
         have hni3 : ¬ Only ib (w.heap.size + 1) := fun h => by have h : w.heap.size + 1 = ib := h; have := HIB.out; omega
         have HNI3 := Lib.hid hni3; clear hni3
         have hd1 : IntKind.i64.wrap ((D : Int) + 1 - 1) = D := by rw [IntKind.wrap_i64]; omega
         have hd2 : IntKind.i64.wrap (D : Int) = D := by rw [IntKind.wrap_i64]; omega
         go_wp2_with (go_at_call 55; refine HBAD.out.mono ?_; rintro e w4 ⟨rfl, rfl⟩)
         refine wp_region_G (S := fun w' => w'.cell? ⟨w.heap.size + 1, 1, none⟩ = some (.slice aK k cK)) 12 (by kernel_rfl) (cell_at' HGW.out.b3 1 rfl) ?_
         intro hS
         clear HGA HB2 HIN
         generalize World.drew _ = Y0 at *
         refine tkG 0 39 rfl rfl (v := ?_) (.inl ⟨by rfl, ?_⟩) ?_
         rotate_left 1
         · (intro w hSw; (try dsimp only at hSw); go_simp; (try with_reducible rfl))
         refine tkG 1 40 rfl rfl (v := ?_) (.inl ⟨by rfl, ?_⟩) ?_
         rotate_left 1
         · (intro w hSw; (try dsimp only at hSw); go_simp; (try with_reducible rfl))
         try simp only [Act.put, List.setIfInBounds_toArray, List.set_cons_zero, List.set_cons_succ]
         refine tkG 2 41 rfl rfl (v := ?_) (.inl ⟨by rfl, ?_⟩) ?_
         rotate_left 1
         · (intro w hSw; (try dsimp only at hSw); go_simp; (try with_reducible rfl))
         refine tkG 4 43 rfl rfl (v := ?_) (.inl ⟨by rfl, ?_⟩) ?_
         rotate_left 1
         · (intro w hSw; (try dsimp only at hSw); go_simp; (try with_reducible rfl))
         try simp only [Act.put, List.setIfInBounds_toArray, List.set_cons_zero, List.set_cons_succ]
         refine tkG 5 44 rfl rfl (v := ?_) (.inl ⟨by rfl, ?_⟩) ?_
         rotate_left 1
         · (intro w hSw; (try dsimp only at hSw); go_simp; (try with_reducible rfl))
         refine tkG 6 45 rfl rfl (v := ?_) (.inl ⟨by rfl, ?_⟩) ?_
         rotate_left 1
         · (intro w hSw; (try dsimp only at hSw); go_simp; (try with_reducible rfl))
         try simp only [Act.put, List.setIfInBounds_toArray, List.set_cons_zero, List.set_cons_succ]
         refine one_opG (i := 3) (by kernel_rfl) rfl (fun K hK => ?_)
         go_simp
         refine (itext_at ib (some r) 30 key t1 _ HIW.out HT1.out (by omega) (by omega)).mono ?_
         rintro e1 Y1 ⟨rfl, hi5, hf5⟩
         have hS1 : Y1.cell? ⟨w.heap.size + 1, 1, none⟩ = some (.slice aK k cK) := hf5.cell' hS HNI3.out
         refine hK.out _ _ hS1 ?_
         clear hK K hS
         have HI5 := Lib.hid hi5; clear hi5
         have HG5 := Lib.hid (HGW.out.keepS hf5)
         have HB5 := Lib.hid (hf5.blk HBW.out HNO.out)
         clear hf5
         try simp only [Act.put, List.setIfInBounds_toArray, List.set_cons_zero, List.set_cons_succ]
         refine one_opG (i := 7) (by kernel_rfl) rfl (fun K hK => ?_)
         go_simp
         refine (IH.out ib t1 Y1 (by omega) HI5.out HLT1.out).mono ?_
         rintro e1 Y2 ⟨ev3, kv3, es3, ks3, t2, rfl, hta3, hgr, hi6, hf6⟩
         obtain ⟨a3, c3, rfl⟩ := hta3.ents.rd.sl
         obtain ⟨os3, hkr3, -⟩ := hta3.kids
         obtain ⟨a4, c4, rfl⟩ := hkr3.rd.sl
         clear hkr3
         have hS2 : Y2.cell? ⟨w.heap.size + 1, 1, none⟩ = some (.slice aK k cK) := hf6.cell' hS1 HNI3.out
         have HI6 := Lib.hid hi6; clear hi6
         have HGR := Lib.hid hgr; clear hgr
         have HKD := Lib.hid (HG5.out.kid hta3 hf6.size); clear hta3
         have HGY := Lib.hid (HG5.out.keepS hf6)
         have HBY := Lib.hid (hf6.blk HB5.out HNO.out)
         clear hf6
         generalize es3.length = n3 at *
         generalize ks3.len = m3 at *
         refine hK.out _ _ hS2 ?_
         clear hK K hS1
         try simp only [Act.put, List.setIfInBounds_toArray, List.set_cons_zero, List.set_cons_succ]
         refine tkG 8 47 rfl rfl (v := ?_) (.inl ⟨by rfl, ?_⟩) ?_
         rotate_left 1
         · (intro w hSw; (try dsimp only at hSw); go_simp; (try with_reducible rfl))
         try simp only [Act.put, List.setIfInBounds_toArray, List.set_cons_zero, List.set_cons_succ]
         refine one_opG (i := 9) (by kernel_rfl) rfl (fun K hK => ?_)
         go_simp
         have hS3 : (Y2.alloc (.cells #[.string key, .slice a3 n3 c3, .slice a4 m3 c4] 172)).cell? ⟨w.heap.size + 1, 1, none⟩ = some (.slice aK k cK) := (Frm.alloc NoS Y2 _).cell' hS2 id
         refine hK.out _ _ hS3 ?_
         clear hK K
         try simp only [Act.put, List.setIfInBounds_toArray, List.set_cons_zero, List.set_cons_succ]
         refine one_opG (i := 10) (by kernel_rfl) rfl (fun K hK => ?_)
         have heo := HGY.out.kown
         rw [hll] at heo
         refine stp_app1 Y2 [.string key, .slice a3 n3 c3, .slice a4 m3 c4] rfl (.tmp 40) (.tmp 48) 26 rfl 172 i1 _ 3 64 Tryz.underlying26 hi1 hy0 hy1 hy2 (by decide) (by decide) (.slice aK k cK) k _ heo 1 1 (by simp [Act.eval]) (by simp [Act.eval]) rfl (by simp [Value.oneCell']) (by simp only [maxLen]; omega) (by omega) ?_
         clear heo
         intro ad cc w6 own6 fm6 fr6
         have hn3 : ¬ RowS (.slice aK k cK) (w.heap.size + 1) := fun h => (HGY.out.knew _ h).2.2.1 rfl
         have hn2 : ¬ RowS (.slice aK k cK) w.heap.size := fun h => (HGY.out.knew _ h).2.1 rfl
         have hrow : w6.cell? ⟨w.heap.size + 1, 1, none⟩ = some (.slice aK k cK) := fm6.cell' hS2 hn3
         have hcf : w6.frozen? ⟨w.heap.size + 1, 1, none⟩ = false := free_at' (fm6.blk HGY.out.b3 hn3) 1
         have hb6 := fm6.blk HBY.out hn2
         have hi6 : InSt w6 ib t2 := HI6.out.keep fm6 fun j hj hs => by
          have := (HGY.out.knew j hs).1
          have := HIB.out
          omega
         have hset : Frm (Only (w.heap.size + 1)) w6 (w6.setCell ⟨w.heap.size + 1, 1, none⟩ (.slice ad (k + 1) cc)) := only_set _ _ _ _
         have HIK := Lib.hid (hi6.keep hset fun j hj hs => by have hs : j = w.heap.size + 1 := hs; have := HIB.out; omega)
         have HBK := Lib.hid (hset.blk hb6 fun hs => by have hs : w.heap.size = w.heap.size + 1 := hs; omega)
         have HSTP := Lib.hid (HGY.out.stepK (q := ⟨key, es3, ks3, .slice a3 n3 c3, .slice a4 m3 c4⟩) (kv' := .slice ad (k + 1) cc) (w' := w6) HKD.out (by rw [hll]; exact own6) fm6 fr6)
         have HKN := Lib.hid (HKV.out.step (q := ⟨key, es3, ks3, .slice a3 n3 c3, .slice a4 m3 c4⟩) bdP_ok (by omega) HT1.out HGR.out)
         have hlt6 : w.heap.size + 1 < w6.heap.size := lt_of_block (fm6.blk HGY.out.b3 hn3)
         refine hK.out _ _ hrow ?_
         clear hK K own6 fm6 fr6 hn3 hn2 hb6 hi6 hset hS3 hS2
         try simp only [Act.put, List.setIfInBounds_toArray, List.set_cons_zero, List.set_cons_succ]
         refine tkG 11 50 rfl rfl (v := ?_) (.inl ⟨by rfl, ?_⟩) ?_
         rotate_left 1
         · (intro w hSw; (try dsimp only at hSw); go_simp; (try with_reducible rfl))
         try simp only [Act.put, List.setIfInBounds_toArray, List.set_cons_zero, List.set_cons_succ]
         refine last_opG (by kernel_rfl) (by kernel_rfl) rfl (fun K hK => ?_)
         go_simp
         refine hK.out _ _ ?_
         clear hK K hrow hcf
         go_wp2
         go_roundw
         case rel => exact ⟨k + 1, l ++ [⟨key, es3, ks3, .slice a3 n3 c3, .slice a4 m3 c4⟩], t2, _, by omega, by go_num, by simp [hll], HKN.out, HIK.out, Nat.le_trans HGR.out.left HLT1.out, HSTP.out, HBK.out⟩
         case measure => simp [intOf]; omega
      · obtain rfl : m = k := by omega
        have HPOST := Lib.hid (get_done bdP_ok (M := 60000) (by omega) (by have := HL.out; omega) HC1.out HRUN.out HC3.out HKV.out hll)
        have HDN := Lib.hid HGA.out.done
        have HF := Lib.hid HGA.out.frm
        have y0 := cell_at' HGA.out.b3 0 rfl
        have y1 := cell_at' HGA.out.b3 1 rfl
        have z0 := cell_at' HB2.out 0 rfl
        have z1 := cell_at' HB2.out 1 rfl
        have f0 := free_at' HB2.out 0
        have f1 := free_at' HB2.out 1
        have hl2 := lt_of_block HB2.out
        go_wp2
        clear y0 y1 z0 z1
        have y0 := cell_at' (set_at' (set_at' HB2.out 0 (.slice aV n cV)) 1 (.slice aK m cK)) 0 rfl
        have y1 := cell_at' (set_at' (set_at' HB2.out 0 (.slice aV n cV)) 1 (.slice aK m cK)) 1 rfl
        have hts : Frm (Only w.heap.size) wr ((wr.setCell ⟨w.heap.size, 0, none⟩ (.slice aV n cV)).setCell ⟨w.heap.size, 1, none⟩ (.slice aK m cK)) := two_set _ _ _ _
        exact bodyPost_ret (v := .agg #[.slice aV n cV, .slice aK m cK]) (by simp [results, Tryz.results144, go_sem, y0, y1]) rfl (getOut HIN.out HIB.out HF.out (Nat.le_refl _) HDN.out (fun b h => ⟨h.1, h.2.1⟩) hts HPOST.out)
theorem encE_four (e : Ent) : 4 ≤ (encE e).length := by
 have h1 := numB_pos e.dc
 have h2 := numB_pos e.n
 have h3 := textB_pos e.s
 have h4 := numB_pos e.k
 unfold encE
 simp only [List.length_append]; omega
theorem encS_three (s : Int × Int × Int) : 3 ≤ (encS s).length := by
 have h1 := numB_pos s.1
 have h2 := numB_pos s.2.1
 have h3 := numB_pos s.2.2
 unfold encS
 simp only [List.length_append]; omega
theorem flat_ge {α : Type} {f : α → List UInt8} {m : Nat} (hf : ∀ a, m ≤ (f a).length) : ∀ l : List α, m * l.length ≤ (l.flatMap f).length
 | [] => by simp
 | a :: l => by
  have := flat_ge hf l
  have := hf a
  rw [List.flatMap_cons, List.length_append, List.length_cons, Nat.mul_succ]; omega
theorem sizeK_le3 : ∀ ks : KidsL, 3 * sizeK ks ≤ (encK ks).length
 | .nil => Nat.le_refl _
 | .cons key es sub rest => by
  have h1 := sizeK_le3 sub
  have h2 := sizeK_le3 rest
  have h3 : 4 * es.length ≤ (encEs es).length := flat_ge encE_four es
  have h4 := textB_pos key
  have h5 := numB_pos es.length
  have h6 := numB_pos sub.len
  unfold encK sizeK
  simp only [List.length_append]
  omega
theorem sizeT_le3 (es : List Ent) (ks : KidsL) : 3 * sizeT es ks ≤ (encT es ks).length := by
 have h2 := sizeK_le3 ks
 have h3 : 4 * es.length ≤ (encEs es).length := flat_ge encE_four es
 unfold encT sizeT
 simp only [List.length_append]
 omega
theorem encC_ge3 (c : CtxL) : 3 * c.length ≤ (encC c).length := by
 have h3 : 3 * c.length ≤ (encSs c).length := flat_ge encS_three c
 unfold encC
 simp only [List.length_append]
 omega
theorem Ent.bd.fits {B : Lim} (hB : B.Ok) {e : Ent} (h : e.bd B) : e.fits := by
 obtain ⟨h1, h2, h3, h4⟩ := h
 obtain ⟨b1, b2, b3, b4⟩ := hB
 exact ⟨⟨by omega, by omega⟩, ⟨by omega, by omega⟩, ⟨by omega, by omega⟩, by omega⟩
theorem KidsL.bd.ok {B : Lim} (hB : B.Ok) : ∀ {ks : KidsL}, ks.bd B → (encK ks).length ≤ 140737488351232 → ks.Ok
 | .nil, _, _ => trivial
 | .cons key es sub rest, h, hl => by
  have hlim : ((textB key ++ ((numB es.length ++ (encEs es ++ (numB sub.len ++ encK sub))) ++ encK rest)).length) ≤ 140737488351232 := hl
  simp only [List.length_append] at hlim
  have h3 := encT_ge es sub
  have hb := hB.s.2
  exact ⟨by have := h.1; omega, ⟨by omega, fun e he => (h.2.1 e he).fits hB⟩, by omega, KidsL.bd.ok hB h.2.2.1 (by omega), KidsL.bd.ok hB h.2.2.2 (by omega)⟩
theorem GetOk.tr {B : Lim} (hB : B.Ok) {d : Nat} {bs rest : List UInt8} {es : List Ent} {ks : KidsL} (h : GetOk B d bs es ks rest) (hl : bs.length ≤ 140737488351232) : TrOk es ks ∧ 3 * sizeT es ks + rest.length ≤ bs.length := by
 have h1 := sizeT_le3 es ks
 have h2 := encT_ge es ks
 have he := congrArg List.length h.eq
 rw [List.length_append] at he
 have h4 : (encT es ks).length = (numB es.length).length + ((encEs es).length + ((numB ks.len).length + (encK ks).length)) := by unfold encT; simp only [List.length_append]
 exact ⟨⟨⟨by omega, fun e he => (h.ebd e he).fits hB⟩, by omega, h.kbd.ok hB (by omega)⟩, by omega⟩
theorem trOk_nil : TrOk [] .nil := ⟨⟨by simp, fun e he => by cases he⟩, by simp [KidsL.len], trivial⟩
theorem TreeRes.sizes {st s : Option (List UInt8)} {es : List Ent} {ks : KidsL} (h : TreeRes st es ks s) : 3 * sizeT es ks + (leftOf s).length ≤ (leftOf st).length := by
 rcases h with ⟨r, rfl, _, rfl⟩ | ⟨rfl, rfl, rfl, _⟩
 · have := sizeT_le3 es ks
   show _ + r.length ≤ (encT es ks ++ r).length
   rw [List.length_append]; omega
 · have : sizeT [] .nil = 0 := rfl
   rw [this]
   exact Nat.zero_le _
theorem CtxRes.sizes {st s : Option (List UInt8)} {c : CtxL} (h : CtxRes st c s) : 3 * c.length + (leftOf s).length ≤ (leftOf st).length := by
 rcases h with ⟨r, rfl, _, rfl⟩ | ⟨rfl, rfl, _⟩
 · have := encC_ge3 c
   show _ + r.length ≤ (encC c ++ r).length
   rw [List.length_append]; omega
 · exact Nat.zero_le _
theorem pget_ok {es : List Ent} {ks : KidsL} {bs r : List UInt8} (hg : GetOk bdP 5 bs es ks r) (ib : Nat) (w : World) (h : InSt w ib (some bs)) (hl : bs.length ≤ 60000) :
 Calls Tryz.prog 144 #[.pointer (some ⟨ib, 0, none⟩), .int .i64 5] w fun e w' => ∃ ev kv, e = .returned (.agg #[ev, kv]) ∧ TreeAt (fun b => w.heap.size ≤ b) w' ev kv es ks ∧ InSt w' ib (some r) ∧ Frm (Only ib) w w' := by
 refine Calls.mono (pget_any 5 ib (some bs) w (Nat.le_refl _) h hl) fun e w' ⟨ev, kv, es', ks', s, he, ht, hr, hi, hf⟩ => ?_
 rcases hr with ⟨b2, r2, h1, h2, h3⟩ | ⟨_, h2⟩
 · injection h1 with h1
   subst h1 h2
   have e2 : encT es' ks' ++ r2 = encT es ks ++ r := by rw [← h3.eq, ← hg.eq]
   obtain ⟨⟨rfl, rfl⟩, rfl⟩ := encT_pfx e2
   exact ⟨ev, kv, he, ht, hi, hf⟩
 · exact absurd hg (h2 _ _ _ _ rfl)
theorem pget_no {st : Option (List UInt8)} (hg : ∀ bs es ks r, st = some bs → ¬ GetOk bdP 5 bs es ks r) (ib : Nat) (w : World) (h : InSt w ib st) (hl : (leftOf st).length ≤ 60000) :
 Calls Tryz.prog 144 #[.pointer (some ⟨ib, 0, none⟩), .int .i64 5] w fun e w' => ∃ a n c a2 n2 c2, e = .returned (.agg #[.slice a n c, .slice a2 n2 c2]) ∧ InSt w' ib none ∧ Frm (Only ib) w w' := by
 refine Calls.mono (pget_any 5 ib st w (Nat.le_refl _) h hl) fun e w' ⟨ev, kv, es', ks', s, he, ht, hr, hi, hf⟩ => ?_
 obtain ⟨a0, c0, rfl⟩ := ht.ents.rd.sl
 obtain ⟨os, hk, _⟩ := ht.kids
 obtain ⟨a1, c1, rfl⟩ := hk.rd.sl
 rcases hr with ⟨b2, r2, h1, h2, h3⟩ | ⟨rfl, _⟩
 · exact absurd h3 (hg _ _ _ _ h1)
 · exact ⟨_, _, _, _, _, _, he, hi, hf⟩
theorem TreeRes.tr {st s : Option (List UInt8)} {es : List Ent} {ks : KidsL} (h : TreeRes st es ks s) (hl : (leftOf st).length ≤ 60000) : TrOk es ks := by
 rcases h with ⟨r, rfl, hr, rfl⟩ | ⟨rfl, rfl, rfl, _⟩
 · exact ((right_ok wideP hr).tr bdP_ok (Nat.le_trans hl (by decide))).1
 · exact trOk_nil
def TreePost (st : Option (List UInt8)) (ib : Nat) (w : World) (e : Ending) (w' : World) : Prop :=
 ∃ ev kv es ks s, e = .returned (.agg #[ev, kv]) ∧ TreeAt (fun b => w.heap.size ≤ b) w' ev kv es ks ∧ TreeRes st es ks s ∧ InSt w' ib s ∧ Frm (Only ib) w w'
theorem treeOut {Q : Nat → Prop} {w ww w' : World} {ib : Nat} {s : Option (List UInt8)} {e2 k2 : Value} {es2 : List Ent} {ks2 : KidsL} {st : Option (List UInt8)}
 (hin : InSt ww ib s) (hib : ib < w.heap.size) (hf : Frm (Only ib) w ww) (ht : TreeAt Q ww e2 k2 es2 ks2) (hq : ∀ b, Q b → w.heap.size ≤ b ∧ b ≠ w.heap.size) (hts : Frm (fun b => b = w.heap.size) ww w') (hres : TreeRes st es2 ks2 s) :
 TreePost st ib w (.returned (.agg #[e2, k2])) w' :=
 ⟨e2, k2, es2, ks2, s, rfl, ht.turn fun b hb hQ => ⟨hts.block b hb (hq b hQ).2, (hq b hQ).1⟩, hres, hin.keep hts fun j hj hs => by have hs : j = w.heap.size := hs; omega, hf.trans hts fun i hi hs => by have hs : i = w.heap.size := hs; omega⟩
theorem pGetTree_any (ib : Nat) (st : Option (List UInt8)) (w : World) (h : InSt w ib st) (hl : (leftOf st).length ≤ 60000) :
 Calls Tryz.prog 110 #[.pointer (some ⟨ib, 0, none⟩)] w (TreePost st ib w) := by
 have hib := h.lt
 have hno : ¬ Only ib w.heap.size := fun h => by have h : w.heap.size = ib := h; omega
 have HNO := Lib.hid hno; clear hno
 have HB0 := Lib.hid (heap_alloc_new w (.cells #[.slice none 0 0, .slice none 0 0] 28))
 have HI0 := Lib.hid (h.keep (Frm.alloc NoS w (.cells #[.slice none 0 0, .slice none 0 0] 28)) fun _ _ => id)
 have HIB := Lib.hid hib; clear hib
 have HF0 := Lib.hid ((Frm.alloc NoS w (.cells #[.slice none 0 0, .slice none 0 0] 28)).mono (T := Only ib) fun _ _ h => h.elim)
 have HS0 := Lib.hid (show (w.alloc (.cells #[.slice none 0 0, .slice none 0 0] 28)).heap.size = w.heap.size + 1 by simp)
 clear h
 by_cases hg : ∃ bs es ks r, st = some bs ∧ GetOk bdP 5 bs es ks r
 · obtain ⟨bs, es, ks, r, rfl, hg⟩ := hg
   have HG := Lib.hid (pget_ok hg ib _ HI0.out hl)
   have hok := (hg.tr bdP_ok (Nat.le_trans hl (by decide))).1
   have HRT := Lib.hid (fun W Q ev kv (h : TreeAt Q W ev kv es ks) => tRight_any Q es ks W ev kv h hok)
   clear hok
   cases hr : rightT 5 es ks with
   | true =>
    rw [hr] at HRT
    have HPOST := Lib.hid (tree_good (B := bdP) (st := some bs) (rest := r) (.inl ⟨bs, r, rfl, rfl, hg⟩) hr)
    clear hr hg
    go_enter Tryz.func110, Tryz.ntmps110
    go_wp2_with (first
     | (go_at_call 144; refine HG.out.mono ?_; rintro e w1 ⟨ev, kv, rfl, hta, hi1, hf1⟩; obtain ⟨a3, c3, rfl⟩ := hta.ents.rd.sl; obtain ⟨os3, hkr3, -⟩ := hta.kids; obtain ⟨a4, c4, rfl⟩ := hkr3.rd.sl; clear hkr3
        have HB1 := Lib.hid (hf1.blk HB0.out HNO.out)
        have HTA := Lib.hid hta; clear hta
        generalize es.length = n at *
        generalize ks.len = m at *
        have HI1 := Lib.hid hi1; clear hi1
        have HF1 := Lib.hid (HF0.out.trans hf1 fun _ _ h => h)
        have hsz1 := hf1.size
        have HSZ1 := Lib.hid hsz1; clear hsz1 hf1
        have HA1 := Lib.hid (Frm.alloc NoS w1 (.cells #[.slice a3 n c3, .slice a4 m c4] 28))
        have HX1 := Lib.hid (heap_alloc_new w1 (.cells #[.slice a3 n c3, .slice a4 m c4] 28)))
     | (go_at_call 55; refine (bad_go ib _ _ (HI1.out.keep HA1.out fun _ _ => id)).mono ?_; rintro e w2 ⟨rfl, rfl⟩)
     | (go_at_call 126; refine (HRT.out _ _ _ _ (HTA.out.keep0 HA1.out)).mono ?_; rintro e w3 ⟨rfl, hf3⟩
        have hx3 := hf3.blk HX1.out id
        have z0 := cell_at' hx3 0 rfl
        have z1 := cell_at' hx3 1 rfl
        have hb3 := hf3.blk (HA1.out.blk HB1.out id) id
        have y0 := cell_at' hb3 0 rfl
        have y1 := cell_at' hb3 1 rfl
        have f0 := free_at' hb3 0
        have f1 := free_at' hb3 1
        have hl2 := lt_of_block hb3
        have hl3 := lt_of_block hx3
        have HB3 := Lib.hid hb3
        have HF3 := Lib.hid (HA1.out.then1 hf3)
        clear hf3 hx3 hb3))
    clear y0 y1 z0 z1
    have y0 := cell_at' (set_at' (set_at' HB3.out 0 (.slice a3 n c3)) 1 (.slice a4 m c4)) 0 rfl
    have y1 := cell_at' (set_at' (set_at' HB3.out 0 (.slice a3 n c3)) 1 (.slice a4 m c4)) 1 rfl
    have hts : Frm (Only w.heap.size) w3 ((w3.setCell ⟨w.heap.size, 0, none⟩ (.slice a3 n c3)).setCell ⟨w.heap.size, 1, none⟩ (.slice a4 m c4)) := two_set _ _ _ _
    exact bodyPost_ret (v := .agg #[.slice a3 n c3, .slice a4 m c4]) (by simp [results, Tryz.results110, go_sem, y0, y1]) rfl (treeOut (HI1.out.keep HF3.out fun _ _ => id) HIB.out (HF1.out.trans HF3.out fun _ _ h => h.elim) (HTA.out.keep0 HF3.out) (fun b h => by have := HS0.out; have h : (w.alloc (.cells #[.slice none 0 0, .slice none 0 0] 28)).heap.size ≤ b := h; omega) hts HPOST.out)
   | false =>
    rw [hr] at HRT
    have HPOST := Lib.hid (tree_wrong (B := bdP) (st := some bs) (rest := r) (.inl ⟨bs, r, rfl, rfl, hg⟩) hr)
    clear hr hg
    go_enter Tryz.func110, Tryz.ntmps110
    go_wp2_with (first
     | (go_at_call 144; refine HG.out.mono ?_; rintro e w1 ⟨ev, kv, rfl, hta, hi1, hf1⟩; obtain ⟨a3, c3, rfl⟩ := hta.ents.rd.sl; obtain ⟨os3, hkr3, -⟩ := hta.kids; obtain ⟨a4, c4, rfl⟩ := hkr3.rd.sl; clear hkr3
        have HB1 := Lib.hid (hf1.blk HB0.out HNO.out)
        have HTA := Lib.hid hta; clear hta
        generalize es.length = n at *
        generalize ks.len = m at *
        have HI1 := Lib.hid hi1; clear hi1
        have HF1 := Lib.hid (HF0.out.trans hf1 fun _ _ h => h)
        clear hf1
        have HA1 := Lib.hid (Frm.alloc NoS w1 (.cells #[.slice a3 n c3, .slice a4 m c4] 28)))
     | (go_at_call 55; refine (bad_go ib _ _ (HI1.out.keep HA1.out fun _ _ => id)).mono ?_; rintro e w2 ⟨rfl, rfl⟩)
     | (go_at_call 126; refine (HRT.out _ _ _ _ (HTA.out.keep0 HA1.out)).mono ?_; rintro e w3 ⟨rfl, hf3⟩; have HF3 := Lib.hid (HA1.out.then1 hf3); clear hf3)
     | (go_at_call 109; obtain ⟨a, c, hh⟩ := (HI1.out.keep HF3.out fun _ _ => id).heap; refine (fail_go ib _ _ w3 hh).mono ?_; rintro e w4 ⟨rfl, hi4, hf4⟩
        have HI4 := Lib.hid (show InSt w4 ib none from hi4); clear hi4 hh
        have hb3 := hf4.blk (HF3.out.blk HB1.out id) HNO.out
        have y0 := cell_at' hb3 0 rfl
        have y1 := cell_at' hb3 1 rfl
        have f0 := free_at' hb3 0
        have f1 := free_at' hb3 1
        have hl2 := lt_of_block hb3
        have HB3 := Lib.hid hb3
        have HF4 := Lib.hid ((HF1.out.trans HF3.out fun _ _ h => h.elim).trans hf4 fun _ _ h => h)
        clear hf4 hb3))
    clear y0 y1
    have y0 := cell_at' (set_at' (set_at' HB3.out 0 (.slice none 0 0)) 1 (.slice none 0 0)) 0 rfl
    have y1 := cell_at' (set_at' (set_at' HB3.out 0 (.slice none 0 0)) 1 (.slice none 0 0)) 1 rfl
    have hts : Frm (Only w.heap.size) w4 ((w4.setCell ⟨w.heap.size, 0, none⟩ (.slice none 0 0)).setCell ⟨w.heap.size, 1, none⟩ (.slice none 0 0)) := two_set _ _ _ _
    exact bodyPost_ret (v := .agg #[.slice none 0 0, .slice none 0 0]) (by simp [results, Tryz.results110, go_sem, y0, y1]) rfl (treeOut HI4.out HIB.out HF4.out (tree_nilQ (fun b => w.heap.size ≤ b ∧ b ≠ w.heap.size) w4) (fun b h => h) hts HPOST.out)
 · have hg' : ∀ bs es ks r, st = some bs → ¬ GetOk bdP 5 bs es ks r := fun bs es ks r h1 h2 => hg ⟨bs, es, ks, r, h1, h2⟩
   have HG := Lib.hid (pget_no hg' ib _ HI0.out hl)
   have HPOST := Lib.hid (tree_bad (B := bdP) (es := []) (ks := .nil) wideP (.inr ⟨rfl, hg'⟩ : GetRes bdP 5 st [] .nil none))
   clear hg hg'
   go_enter Tryz.func110, Tryz.ntmps110
   go_wp2_with (first
    | (go_at_call 144; refine HG.out.mono ?_; rintro e w1 ⟨a3, n, c3, a4, m, c4, rfl, hi1, hf1⟩
       have HB1 := Lib.hid (hf1.blk HB0.out HNO.out)
       have HI1 := Lib.hid hi1; clear hi1
       have HF1 := Lib.hid (HF0.out.trans hf1 fun _ _ h => h)
       clear hf1
       have HA1 := Lib.hid (Frm.alloc NoS w1 (.cells #[.slice a3 n c3, .slice a4 m c4] 28)))
    | (go_at_call 55; refine (bad_go ib _ _ (HI1.out.keep HA1.out fun _ _ => id)).mono ?_; rintro e w2 ⟨rfl, rfl⟩)
    | (go_at_call 109; obtain ⟨a, c, hh⟩ := (HI1.out.keep HA1.out fun _ _ => id).heap; refine (fail_go ib _ _ _ hh).mono ?_; rintro e w4 ⟨rfl, hi4, hf4⟩
       have HI4 := Lib.hid (show InSt w4 ib none from hi4); clear hi4 hh
       have hb3 := hf4.blk (HA1.out.blk HB1.out id) HNO.out
       have y0 := cell_at' hb3 0 rfl
       have y1 := cell_at' hb3 1 rfl
       have f0 := free_at' hb3 0
       have f1 := free_at' hb3 1
       have hl2 := lt_of_block hb3
       have HB3 := Lib.hid hb3
       have HF4 := Lib.hid ((HF1.out.trans HA1.out fun _ _ h => h.elim).trans hf4 fun _ _ h => h)
       clear hf4 hb3))
   clear y0 y1
   have y0 := cell_at' (set_at' (set_at' HB3.out 0 (.slice none 0 0)) 1 (.slice none 0 0)) 0 rfl
   have y1 := cell_at' (set_at' (set_at' HB3.out 0 (.slice none 0 0)) 1 (.slice none 0 0)) 1 rfl
   have hts : Frm (Only w.heap.size) w4 ((w4.setCell ⟨w.heap.size, 0, none⟩ (.slice none 0 0)).setCell ⟨w.heap.size, 1, none⟩ (.slice none 0 0)) := two_set _ _ _ _
   exact bodyPost_ret (v := .agg #[.slice none 0 0, .slice none 0 0]) (by simp [results, Tryz.results110, go_sem, y0, y1]) rfl (treeOut HI4.out HIB.out HF4.out (tree_nilQ (fun b => w.heap.size ≤ b ∧ b ≠ w.heap.size) w4) (fun b h => h) hts HPOST.out)
end Go.Proofs.YtcahemkomfaabaaGreat
