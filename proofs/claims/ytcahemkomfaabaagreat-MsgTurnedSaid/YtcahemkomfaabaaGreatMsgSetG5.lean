/- Words for the law MsgSet: SJoin, CApart, CWhole, SMinus, SortK. -/
import Derived.Test.YtcahemkomfaabaaGreatMsgSetG3
import Derived.Test.YtcahemkomfaabaaGreatMsgSetG4
import Derived.StillTailTactics
import Derived.IntWalk
import Derived.Deep.Slices
import Derived.Shelf.SlSortCmp.WholeK
set_option linter.unusedSimpArgs false
set_option linter.unusedVariables false
set_option maxHeartbeats 32000000
set_option maxRecDepth 1000000
namespace Go.Proofs.YtcahemkomfaabaaGreat
open Go.RowKit
theorem info_srun : (Tryz.prog.info? 194).map (fun i => (i.zero, i.size, i.bytes)) = some (some (.agg #[.int .i64 0, .int .i64 0]), 2, 16) := by kernel_rfl
def JnInv (l : RunL) (k : Nat) (out : RunL) : Prop := (k = 0 ∧ out = []) ∨ ∃ acc cur, out = acc ++ [cur] ∧ joinedL l = acc ++ jn cur (l.drop k)
theorem drop_getD {l : RunL} {k : Nat} (h : k < l.length) : l.drop k = l.getD k (0, 0) :: l.drop (k + 1) := by
 rw [getD_at (0, 0) h]; exact List.drop_eq_getElem_cons h
theorem JnInv.push0 {l : RunL} (h : 0 < l.length) : JnInv l (0 + 1) [l.getD 0 (0, 0)] := by
 refine .inr ⟨[], l.getD 0 (0, 0), rfl, ?_⟩
 cases l with
 | nil => cases h
 | cons r l => rfl
theorem JnInv.open_ {l : RunL} {k : Nat} {acc : RunL} {cur : Int × Int} (h : JnInv l k (acc ++ [cur])) : joinedL l = acc ++ jn cur (l.drop k) := by
 rcases h with ⟨_, h⟩ | ⟨acc', cur', h1, h2⟩
 · simp at h
 · obtain ⟨e1, e2⟩ := List.append_inj' h1 rfl
   injection e2 with e2
   rw [e1, e2]; exact h2
theorem JnInv.meet {l : RunL} {k : Nat} {acc : RunL} {cur : Int × Int} (h : JnInv l k (acc ++ [cur])) (hk : k < l.length) (hc : (l.getD k (0, 0)).1 ≤ cur.2 + 1) : JnInv l (k + 1) (acc ++ [(cur.1, max cur.2 (l.getD k (0, 0)).2)]) := by
 refine .inr ⟨acc, _, rfl, ?_⟩
 rw [h.open_, drop_getD hk, jn, if_pos hc]
theorem JnInv.away {l : RunL} {k : Nat} {acc : RunL} {cur : Int × Int} (h : JnInv l k (acc ++ [cur])) (hk : k < l.length) (hc : ¬ (l.getD k (0, 0)).1 ≤ cur.2 + 1) : JnInv l (k + 1) (acc ++ [cur] ++ [l.getD k (0, 0)]) := by
 refine .inr ⟨acc ++ [cur], _, rfl, ?_⟩
 rw [h.open_, drop_getD hk, jn, if_neg hc]; simp
theorem JnInv.all {l : RunL} {k : Nat} {out : RunL} (h : JnInv l k out) (hk : l.length = k) : out = joinedL l := by
 rcases h with ⟨h0, rfl⟩ | ⟨acc, cur, rfl, h⟩
 · have : l = [] := List.eq_nil_of_length_eq_zero (by omega)
   subst this; rfl
 · rw [h, List.drop_of_length_le (by omega), jn]
theorem OwnAt.set_last {w0 w : World} {e : TypeId} {g L c : Nat} {lo : RunL} {r : Int × Int} (h : OwnAt w0 w e 2 (.slice (some ⟨g, 0, none⟩) (L + 1) c) (L + 1) (ruC (lo ++ [r]))) (hL : lo.length = L) (hi : Int) :
 OwnAt w0 (w.setCell ⟨g, L * 2 + 1, none⟩ (.int .i64 hi)) e 2 (.slice (some ⟨g, 0, none⟩) (L + 1) c) (L + 1) (ruC (lo ++ [(r.1, hi)])) := by
 obtain ⟨g', c', he, _, _, _, _, _, hset⟩ := h.row (by omega)
 injection he with e1 e2 e3
 injection e1 with e1
 injection e1 with e4 e5
 subst e4
 have := hset (L * 2 + 1) (.int .i64 hi)
 rw [← hL, ruC_set_last, hL] at this
 exact this
theorem max_if (a b : Int) : (if a < b then b else a) = max a b := by split <;> omega
def Bd (r : Int × Int) : Prop := 1 ≤ r.1 ∧ r.1 ≤ 1099511627776 ∧ 1 ≤ r.2 ∧ r.2 ≤ 1099511627776
theorem sjoined_any (w : World) (v : Value) (l : RunL) (hv : RunAt w v l) (hl : l.length ≤ 200000) (hb : ∀ r ∈ l, Bd r) :
 Calls Tryz.prog 184 #[v] w fun e w' => ∃ v', e = .returned v' ∧ OwnAt w w' 194 2 v' (joinedL l).length (ruC (joinedL l)) := by
 obtain ⟨i0, hi, hz0, hz1, hz2⟩ := info_parts info_srun
 obtain ⟨aA, cA, rfl⟩ := hv.sl
 have HH := Lib.hid hv; clear hv
 have HB := Lib.hid hb; clear hb
 generalize hn : l.length = n at *
 have HN := Lib.hid hn; clear hn
 have HLL := Lib.hid hl; clear hl
 go_enter Tryz.func184, Tryz.ntmps184
 go_wp2
 go_loopw [3, 9] (fun v i ww => ∃ (k : Nat) (out : RunL), k ≤ n ∧ out.length ≤ k ∧ i = .int .i64 k ∧ OwnAt w ww 194 2 v out.length (ruC out) ∧ JnInv l k out ∧ ∀ r ∈ out, Bd r) (fun _ i _ => n - (intOf i).toNat)
 case atStart => exact ⟨0, [], Nat.zero_le _, Nat.le_refl _, rfl, OwnAt.nil (Frm.refl _ _) _ _, .inl ⟨rfl, rfl⟩, (fun r hr => by cases hr)⟩
 case round =>
  obtain ⟨k, out, hk, hok, rfl, ho, hj, hbo⟩ := hrel
  have HO := Lib.hid ho; clear ho
  have HJ := Lib.hid hj; clear hj
  have HBO := Lib.hid hbo; clear hbo
  by_cases hlt : k < n
  · rcases Rd.shape HH.out with ⟨ad, he, h0⟩ | ⟨b, off, cc, he, hmax⟩
    · exfalso; have := HN.out; omega
    · injection he with e1 e2 e3
      subst e1 e3
      clear e2
      rw [HN.out] at hmax
      have hlk : k < l.length := by rw [HN.out]; exact hlt
      obtain ⟨p0, p1⟩ := run_at HH.out HN.out.symm k hlk
      have q0 := HO.out.frm.cell' p0 id
      have q1 := HO.out.frm.cell' p1 id
      clear p0 p1
      have hbr := HB.out _ (getD_mem (0, 0) hlk)
      have HBR := Lib.hid hbr
      obtain ⟨r1, r2, r3, r4⟩ := hbr
      have hkm : k ≤ 200000 := Nat.le_trans (Nat.le_of_lt hlt) HLL.out
      rcases List.eq_nil_or_concat out with rfl | ⟨lo, r, rfl⟩
      · have hk0 : k = 0 := by
         rcases HJ.out with ⟨h, _⟩ | ⟨acc, cur, h, _⟩
         · exact h
         · simp at h
        subst hk0
        have HST := Lib.hid (JnInv.push0 hlk)
        generalize l.getD 0 (0, 0) = s at *
        simp only [Nat.zero_mul, Nat.add_zero] at q0 q1
        obtain ⟨av, cv, rfl⟩ := HO.out.shape
        go_wp2_with fail
        go_big_quiet (fail)
        go_wp2_with (at_builtin; refine wpList_appO w _ [.int .i64 s.1, .int .i64 s.2] rfl (.tmp 43) (.tmp 45) 188 rfl 194 i0 _ 2 16 Tryz.underlying188 hi hz0 hz1 hz2 (by decide) (by decide) _ _ _ (HO.out.keep (Frm.alloc _ _ _).drewN1) 1 1 rfl (by simp [Act.eval]) rfl (by simp [Value.oneCell']) (by simp [maxLen]) (by simp) ?_; intro ad cc2 w2 own2; have OW := Lib.hid own2; clear own2)
        go_roundw
        case rel => exact ⟨0 + 1, [s], by omega, by simp, by go_num, OW.out, HST.out, fun r hr => by simp at hr; subst hr; exact HBR.out⟩
        case measure => simp [intOf]; omega
      · rw [List.concat_eq_append] at *
        have hln : (lo ++ [r]).length = lo.length + 1 := by simp
        have ho2 := HO.out
        rw [hln] at ho2 hok
        clear HO hln
        obtain ⟨g, c2, rfl, hg0, hg, hc2, hcell, hfro, hset⟩ := ho2.row (by simp)
        have cl := hcell _ _ (ruC_last lo r)
        have fl := hfro (lo.length * 2 + 1)
        have HO := Lib.hid ho2; clear ho2
        have hbr2 := HBO.out r (by simp)
        have HBR2 := Lib.hid hbr2
        obtain ⟨t1, t2, t3, t4⟩ := hbr2
        have HM := Lib.hid (fun hc => JnInv.meet HJ.out hlk hc)
        have HA := Lib.hid (fun hc => JnInv.away HJ.out hlk hc)
        generalize hL : lo.length = L at *
        have HLN := Lib.hid hL; clear hL
        have HOK := Lib.hid hok; clear hok
        generalize l.getD k (0, 0) = s at *
        have hL5 : L + 1 ≤ 200000 := Nat.le_trans HOK.out hkm
        have hgb : g < wr.heap.size := hg
        clear hcell hfro hset
        by_cases hc : s.1 ≤ r.2 + 1
        · go_wp2_with fail
          go_big_quiet (fail)
          go_wp2_with fail
          have hfr : Frm NoS wr ((wr.alloc (.cells #[.int .i64 s.1, .int .i64 s.2] 194)).drewN nq) := (Frm.alloc _ _ _).drewN1
          have n1 : ((wr.alloc (.cells #[.int .i64 s.1, .int .i64 s.2] 194)).drewN nq).cell? ⟨wr.heap.size, 1, none⟩ = some (.int .i64 s.2) := cell_at' (heap_alloc_new wr _) 1 rfl
          have cl2 := hfr.cell' cl id
          have fl2 := (hfr.frozen (p := ⟨g, L * 2 + 1, none⟩) hgb id).trans fl
          have hg2 : g < ((wr.alloc (.cells #[.int .i64 s.1, .int .i64 s.2] 194)).drewN nq).heap.size := Nat.lt_of_lt_of_le hgb hfr.size
          have HFR := Lib.hid hfr; clear hfr
          clear cl fl q0 q1
          have hgs : wr.heap.size ≠ g := by omega
          generalize wr.heap.size = rs at *
          generalize (wr.alloc (.cells #[.int .i64 s.1, .int .i64 s.2] 194)).drewN nq = W2 at *
          have hwr : IntKind.i64.wrap (L : Int) = L := IntWalk.i64_in _ (by omega)
          have hx0 : (0 : Int) ≤ (L : Int) := by omega
          have hx1 : (L : Int) < (L : Int) + 1 := by omega
          have hx2 : (L : Int) < ((L + 1 : Nat) : Int) := by omega
          go_still_tail 14, (by kernel_rfl)
          clear hwr
          change wpList _ _ _ _ _ W2.drew
          clear hx0 hx1 hx2
          go_wp2
          go_roundw
          case rel =>
           refine ⟨k + 1, lo ++ [(r.1, max r.2 s.2)], by omega, by rw [List.length_append, HLN.out]; exact Nat.succ_le_succ (Nat.le_trans (Nat.le_succ _) HOK.out), by go_num, ?_, HM.out hc, ?_⟩
           · rw [List.length_append, HLN.out]
             try rw [max_if]
             exact ((HO.out.keep HFR.out).set_last HLN.out _).keep (Frm.drew _ _)
           · intro x hx
             rcases List.mem_append.1 hx with hx | hx
             · exact HBO.out x (List.mem_append_left _ hx)
             · simp at hx; subst hx; exact ⟨t1, t2, by show 1 ≤ max r.2 s.2; omega, by show max r.2 s.2 ≤ _; omega⟩
          case measure => simp [intOf]; omega
        · go_wp2_with fail
          go_big_quiet (fail)
          go_wp2_with (at_builtin; refine wpList_appO w _ [.int .i64 s.1, .int .i64 s.2] rfl (.tmp 43) (.tmp 45) 188 rfl 194 i0 _ 2 16 Tryz.underlying188 hi hz0 hz1 hz2 (by decide) (by decide) _ _ _ (HO.out.keep (Frm.alloc _ _ _).drewN1) 1 1 rfl (by simp [Act.eval]) rfl (by simp [Value.oneCell']) (by simp only [maxLen]; omega) (by omega) ?_; intro ad cc2 w2 own2; have OW := Lib.hid own2; clear own2)
          go_roundw
          case rel => exact ⟨k + 1, lo ++ [r] ++ [s], by omega, by rw [List.length_append, List.length_append, HLN.out]; have := HOK.out; simp; omega, by go_num, by rw [List.length_append, List.length_append, HLN.out, ruC_append]; exact OW.out, HA.out hc, fun x hx => by
           rcases List.mem_append.1 hx with hx | hx
           · exact HBO.out x hx
           · simp at hx; subst hx; exact HBR.out⟩
          case measure => simp [intOf]; omega
  · obtain rfl : n = k := by omega
    obtain ⟨av, cv, hv⟩ := HO.out.shape
    subst hv
    go_wp2
    go_ret
    have := HJ.out.all HN.out
    subst this
    exact ⟨_, rfl, HO.out⟩
def LastIs (c : CtxL) (k la : Nat) : Prop := (k = 0 ∧ la = 0) ∨ (0 < k ∧ (c.getD (k - 1) (0, 0, 0)).1 = la)
theorem apart_step {c : CtxL} {k la : Nat} (h : DcFrom 0 (c.take k)) (hl : LastIs c k la) (hk : k < c.length) :
 DcFrom 0 (c.take (k + 1)) ↔ (la : Int) ≤ (c.getD k (0, 0, 0)).1 ∧ (c.getD k (0, 0, 0)).1 < 4 := by
 rw [dcFrom_step h hk]
 rcases hl with ⟨rfl, rfl⟩ | ⟨h0, h1⟩
 · simp
 · have hge : 0 ≤ (c.getD (k - 1) (0, 0, 0)).1 := by rw [h1]; omega
   rw [h1] at hge ⊢
   constructor
   · rintro ⟨_, h3, h4⟩; exact ⟨h4 h0, h3⟩
   · rintro ⟨h3, h4⟩; exact ⟨by omega, h4, fun _ => h3⟩
theorem not_dcFrom {c : CtxL} {k : Nat} (h : ¬ DcFrom 0 (c.take k)) : ¬ RightC c := fun hr => h (dcFrom_take hr.1 k)
structure PartsAt (w0 w : World) (vs : Nat → Value) (p : Nat → RunL) : Prop where
 own : ∀ d, d < 4 → OwnAt w0 w 194 2 (vs d) (p d).length (ruC (p d))
def ApartPost (w : World) (c : CtxL) (e : Ending) (w' : World) : Prop :=
 Frm NoS w w' ∧ (RightC c → ∃ A : Nat → Option Addr × Nat × Nat, e = .returned (.tuple #[.agg #[.slice (A 0).1 (A 0).2.1 (A 0).2.2, .slice (A 1).1 (A 1).2.1 (A 1).2.2, .slice (A 2).1 (A 2).2.1 (A 2).2.2, .slice (A 3).1 (A 3).2.1 (A 3).2.2], .bool true]) ∧ PartsAt w w' (fun d => .slice (A d).1 (A d).2.1 (A d).2.2) (fun d => partL c d)) ∧ (¬ RightC c → e = .returned (.tuple #[.agg #[.slice none 0 0, .slice none 0 0, .slice none 0 0, .slice none 0 0], .bool false]))
theorem capart_any (w : World) (v : Value) (c : CtxL) (hv : CtxAt w v c) (hf : FitsC c) (hl : c.length ≤ 100000) :
 Calls Tryz.prog 135 #[v] w (ApartPost w c) := by
 obtain ⟨i0, hi, hz0, hz1, hz2⟩ := info_parts info_srun
 obtain ⟨aA, cA, rfl⟩ := hv.sl
 have HH := Lib.hid hv; clear hv
 have HF := Lib.hid hf; clear hf
 generalize hn : c.length = n at *
 have HN := Lib.hid hn; clear hn
 have HLL := Lib.hid hl; clear hl
 have HST := Lib.hid (FourAt.start (M := fun k => k = w.heap.size) 190 194 2 (Frm.alloc NoS w (.cells #[.slice none 0 0, .slice none 0 0, .slice none 0 0, .slice none 0 0] 190)) (fun k hk => by rw [hk]; simp))
 go_enter Tryz.func135, Tryz.ntmps135
 go_wp2
 go_loopw [5, 12] (fun la i ww => ∃ (k l : Nat) (vs : Nat → Value), k ≤ n ∧ i = .int .i64 k ∧ la = .int .i64 l ∧ l < 4 ∧ LastIs c k l ∧ DcFrom 0 (c.take k) ∧
  FourAt (fun k => k = w.heap.size) 190 194 2 w ww (w.heap.size + 1) vs (fun d => (partL (c.take k) d).length) (fun d => ruC (partL (c.take k) d)) ∧ ww.heap[w.heap.size]? = some (.cells #[.slice none 0 0, .slice none 0 0, .slice none 0 0, .slice none 0 0] 190 (0, 0))) (fun _ i _ => n - (intOf i).toNat)
 case atStart => exact ⟨0, 0, fun _ => .slice none 0 0, Nat.zero_le _, rfl, rfl, by omega, .inl ⟨rfl, rfl⟩, trivial, by have := HST.out; simp only [World.size_alloc] at this; exact this, by rw [Below.heap_alloc _ _ _ (by simp)]; exact heap_alloc_new w _⟩
 case round =>
  obtain ⟨k, l, vs, hk, rfl, rfl, hl4, hla, hdc, h4, hres⟩ := hrel
  have H4 := Lib.hid h4; clear h4
  have HRES := Lib.hid hres; clear hres
  have HDC := Lib.hid hdc; clear hdc
  have HLA := Lib.hid hla; clear hla
  have z0 : wr.cell? ⟨w.heap.size, 0, none⟩ = some (.slice none 0 0) := cell_at' HRES.out 0 rfl
  have z1 : wr.cell? ⟨w.heap.size, 1, none⟩ = some (.slice none 0 0) := cell_at' HRES.out 1 rfl
  have z2 : wr.cell? ⟨w.heap.size, 2, none⟩ = some (.slice none 0 0) := cell_at' HRES.out 2 rfl
  have z3 : wr.cell? ⟨w.heap.size, 3, none⟩ = some (.slice none 0 0) := cell_at' HRES.out 3 rfl
  have f0 := free_at' HRES.out 0
  have f1 := free_at' HRES.out 1
  have f2 := free_at' HRES.out 2
  have f3 := free_at' HRES.out 3
  have hgr : w.heap.size < wr.heap.size := lt_of_block HRES.out
  have HR4 := Lib.hid (res4 HRES.out H4.out.frm (Nat.le_refl _) (.slice none 0 0) (.slice none 0 0) (.slice none 0 0) (.slice none 0 0))
  by_cases hlt : k < n
  · rcases Rd.shape HH.out with ⟨ad, he, h0⟩ | ⟨b, off, cc, he, hmax⟩
    · exfalso; have := HN.out; omega
    · injection he with e1 e2 e3
      subst e1 e3
      clear e2
      rw [HN.out] at hmax
      have hlk : k < c.length := by rw [HN.out]; exact hlt
      obtain ⟨p0, p1, p2⟩ := spn_at HH.out HN.out.symm k hlk
      have q0 := H4.out.frm.cell' p0 id
      have q1 := H4.out.frm.cell' p1 id
      have q2 := H4.out.frm.cell' p2 id
      clear p0 p1 p2
      have hbf := HF.out _ (getD_mem (0, 0, 0) hlk)
      have HS := Lib.hid (apart_step HDC.out HLA.out hlk)
      have HPT := Lib.hid (fun d => partL_take_succ (c := c) (k := k) d hlk)
      obtain ⟨s, hgd⟩ : ∃ s, s = c.getD k (0, 0, 0) := ⟨_, rfl⟩
      rw [← hgd] at HS HPT q0 q1 q2 hbf
      have HGD := Lib.hid hgd.symm; clear hgd
      by_cases c1 : s.1 < (l : Int)
      · go_wp2
        have hb4 := HR4.out.1
        have y0 := (Frm.alloc NoS _ (.cells #[.int .i64 s.1, .int .i64 s.2.1, .int .i64 s.2.2] 122)).cell' (cell_at' hb4 0 rfl) id
        have y1 := (Frm.alloc NoS _ (.cells #[.int .i64 s.1, .int .i64 s.2.1, .int .i64 s.2.2] 122)).cell' (cell_at' hb4 1 rfl) id
        have y2 := (Frm.alloc NoS _ (.cells #[.int .i64 s.1, .int .i64 s.2.1, .int .i64 s.2.2] 122)).cell' (cell_at' hb4 2 rfl) id
        have y3 := (Frm.alloc NoS _ (.cells #[.int .i64 s.1, .int .i64 s.2.1, .int .i64 s.2.2] 122)).cell' (cell_at' hb4 3 rfl) id
        refine bodyPost_ret (v := .tuple #[.agg #[.slice none 0 0, .slice none 0 0, .slice none 0 0, .slice none 0 0], .bool false]) (by simp [results, Tryz.results135, go_sem, y0, y1, y2, y3]) rfl ⟨HR4.out.2.alloc1, fun hr => absurd hr (not_dcFrom (k := k + 1) fun h => by have := (HS.out.1 h).1; omega), fun _ => rfl⟩
      · by_cases c2 : 4 ≤ s.1
        · go_wp2
          have hb4 := HR4.out.1
          have y0 := (Frm.alloc NoS _ (.cells #[.int .i64 s.1, .int .i64 s.2.1, .int .i64 s.2.2] 122)).cell' (cell_at' hb4 0 rfl) id
          have y1 := (Frm.alloc NoS _ (.cells #[.int .i64 s.1, .int .i64 s.2.1, .int .i64 s.2.2] 122)).cell' (cell_at' hb4 1 rfl) id
          have y2 := (Frm.alloc NoS _ (.cells #[.int .i64 s.1, .int .i64 s.2.1, .int .i64 s.2.2] 122)).cell' (cell_at' hb4 2 rfl) id
          have y3 := (Frm.alloc NoS _ (.cells #[.int .i64 s.1, .int .i64 s.2.1, .int .i64 s.2.2] 122)).cell' (cell_at' hb4 3 rfl) id
          refine bodyPost_ret (v := .tuple #[.agg #[.slice none 0 0, .slice none 0 0, .slice none 0 0, .slice none 0 0], .bool false]) (by simp [results, Tryz.results135, go_sem, y0, y1, y2, y3]) rfl ⟨HR4.out.2.alloc1, fun hr => absurd hr (not_dcFrom (k := k + 1) fun h => by have := (HS.out.1 h).2; omega), fun _ => rfl⟩
        · obtain ⟨dn, hdn⟩ : ∃ dn : Nat, s.1 = dn := ⟨s.1.toNat, by omega⟩
          have hd4 : dn < 4 := by omega
          rw [hdn] at c1 c2 q0
          have HDN := Lib.hid hdn; clear hdn
          have hcd := H4.out.cell hd4
          have hc4 : (dn : Int) < 4 := by omega
          clear z0 z1 z2 z3 f0 f1 f2 f3
          have hsp : (wr.alloc (.cells #[.int .i64 s.1, .int .i64 s.2.1, .int .i64 s.2.2] 122)).heap[wr.heap.size]? = some (.cells #[.int .i64 s.1, .int .i64 s.2.1, .int .i64 s.2.2] 122 (0, 0)) := heap_alloc_new wr _
          rw [HDN.out] at hsp
          have HK4 := Lib.hid (((H4.out.box (.cells #[.int .i64 dn, .int .i64 s.2.1, .int .i64 s.2.2] 122)).keep (Frm.drew _ _)))
          have HRK := Lib.hid ((Frm.alloc NoS wr (.cells #[.int .i64 dn, .int .i64 s.2.1, .int .i64 s.2.2] 122)).drew1.blk HRES.out id)
          have hsb : wr.heap.size < (wr.alloc (.cells #[.int .i64 dn, .int .i64 s.2.1, .int .i64 s.2.2] 122)).heap.size := by simp
          have hlen : (partL (c.take k) dn).length ≤ k := Nat.le_trans (partL_length_le _ _) (List.length_take_le _ _)
          have HLEN := Lib.hid (Nat.le_trans hlen (Nat.le_trans hk HLL.out))
          clear hlen
          go_wp2_with fail
          generalize hW : wr.alloc (.cells #[.int .i64 dn, .int .i64 s.2.1, .int .i64 s.2.2] 122) = W at *
          clear hW hgr q0 q1 q2 hcd
          generalize wr.heap.size = sb at *
          obtain ⟨pl, hpl⟩ : ∃ pl, pl = (partL (c.take k) dn).length := ⟨_, rfl⟩
          have hob : OwnBut (Rest4 (fun k => k = w.heap.size ∨ k = sb) (w.heap.size + 1) vs dn) w W.drew 194 2 (vs dn) pl (ruC (partL (c.take k) dn)) := by rw [hpl]; exact HK4.out.but hd4
          have HOB := Lib.hid hob; clear hob
          rw [← hpl] at HLEN
          have HPL := Lib.hid hpl; clear hpl
          refine wp_region_G (S := fun w' => w'.cell? ⟨sb, 0, none⟩ = some (.int .i64 dn) ∧ w'.cell? ⟨sb, 1, none⟩ = some (.int .i64 s.2.1) ∧ w'.cell? ⟨sb, 2, none⟩ = some (.int .i64 s.2.2) ∧ w'.cell? ⟨w.heap.size + 1, dn, none⟩ = some (vs dn)) 14 (by kernel_rfl) ⟨cell_at' hsp 0 rfl, cell_at' hsp 1 rfl, cell_at' hsp 2 rfl, HK4.out.cell hd4⟩ ?_
          intro hS
          have hsb : sb < W.drew.heap.size := hsb
          have hsp : W.drew.heap[sb]? = _ := hsp
          generalize W.drew = Y at *
          have HSP := Lib.hid hsp; clear hsp
          refine tkG 0 28 rfl rfl (v := ?_) (.inl ⟨by rfl, ?_⟩) ?_
          rotate_left 1
          · (intro w hSw; (try dsimp only at hSw); go_simp; (try with_reducible rfl))
          refine tkG 1 29 rfl rfl (v := ?_) (.inl ⟨by rfl, ?_⟩) ?_
          rotate_left 1
          · (intro w hSw; (try dsimp only at hSw); go_simp; (try with_reducible rfl))
          try simp only [Act.put, List.setIfInBounds_toArray, List.set_cons_zero, List.set_cons_succ]
          refine tkG 2 30 rfl rfl (v := ?_) (.inl ⟨by rfl, ?_⟩) ?_
          rotate_left 1
          · (intro w hSw; (try dsimp only at hSw); go_simp; (try with_reducible rfl))
          refine tkG 3 31 rfl rfl (v := ?_) (.inl ⟨by rfl, ?_⟩) ?_
          rotate_left 1
          · (intro w hSw; (try dsimp only at hSw); go_simp; (try with_reducible rfl))
          try simp only [Act.put, List.setIfInBounds_toArray, List.set_cons_zero, List.set_cons_succ]
          refine tkG 4 32 rfl rfl (v := ?_) (.inl ⟨by rfl, ?_⟩) ?_
          rotate_left 1
          · (intro w hSw; (try dsimp only at hSw); go_simp; (try with_reducible rfl))
          refine tkG 5 33 rfl rfl (v := ?_) (.inl ⟨by rfl, ?_⟩) ?_
          rotate_left 1
          · (intro w hSw; (try dsimp only at hSw); go_simp; (try with_reducible rfl))
          try simp only [Act.put, List.setIfInBounds_toArray, List.set_cons_zero, List.set_cons_succ]
          refine tkG 6 34 rfl rfl (v := ?_) (.inl ⟨by rfl, ?_⟩) ?_
          rotate_left 1
          · (intro w hSw; (try dsimp only at hSw); go_simp; (try with_reducible rfl))
          refine tkG 7 35 rfl rfl (v := ?_) (.inl ⟨by rfl, ?_⟩) ?_
          rotate_left 1
          · (intro w hSw; (try dsimp only at hSw); go_simp; (try with_reducible rfl))
          try simp only [Act.put, List.setIfInBounds_toArray, List.set_cons_zero, List.set_cons_succ]
          refine tkG 8 36 rfl rfl (v := ?_) (.inl ⟨by rfl, ?_⟩) ?_
          rotate_left 1
          · (intro w hSw; (try dsimp only at hSw); go_simp; (try with_reducible rfl))
          refine tkG 9 37 rfl rfl (v := ?_) (.inl ⟨by rfl, ?_⟩) ?_
          rotate_left 1
          · (intro w hSw; (try dsimp only at hSw); go_simp; (try with_reducible rfl))
          try simp only [Act.put, List.setIfInBounds_toArray, List.set_cons_zero, List.set_cons_succ]
          refine tkG 10 38 rfl rfl (v := ?_) (.inl ⟨by rfl, ?_⟩) ?_
          rotate_left 1
          · (intro w hSw; (try dsimp only at hSw); go_simp; (try with_reducible rfl))
          try simp only [Act.put, List.setIfInBounds_toArray, List.set_cons_zero, List.set_cons_succ]
          refine one_opG (i := 11) (by kernel_rfl) rfl (fun K hK => ?_)
          go_simp
          refine hK.out _ _ ⟨(Frm.alloc NoS Y _).cell' hS.1 id, (Frm.alloc NoS Y _).cell' hS.2.1 id, (Frm.alloc NoS Y _).cell' hS.2.2.1 id, (Frm.alloc NoS Y _).cell' hS.2.2.2 id⟩ ?_
          clear hK K
          have hS1 : (Y.alloc (.cells #[.int .i64 s.2.1, .int .i64 s.2.2] 194)).cell? ⟨sb, 0, none⟩ = some (.int .i64 dn) ∧ (Y.alloc (.cells #[.int .i64 s.2.1, .int .i64 s.2.2] 194)).cell? ⟨sb, 1, none⟩ = some (.int .i64 s.2.1) ∧ (Y.alloc (.cells #[.int .i64 s.2.1, .int .i64 s.2.2] 194)).cell? ⟨sb, 2, none⟩ = some (.int .i64 s.2.2) ∧ (Y.alloc (.cells #[.int .i64 s.2.1, .int .i64 s.2.2] 194)).cell? ⟨w.heap.size + 1, dn, none⟩ = some (vs dn) := ⟨(Frm.alloc NoS Y _).cell' hS.1 id, (Frm.alloc NoS Y _).cell' hS.2.1 id, (Frm.alloc NoS Y _).cell' hS.2.2.1 id, (Frm.alloc NoS Y _).cell' hS.2.2.2 id⟩
          try simp only [Act.put, List.setIfInBounds_toArray, List.set_cons_zero, List.set_cons_succ]
          refine one_opG (i := 12) (by kernel_rfl) rfl (fun K hK => ?_)
          refine step_appB (Rest4 (fun k => k = w.heap.size ∨ k = sb) (w.heap.size + 1) vs dn) w Y [.int .i64 s.2.1, .int .i64 s.2.2] rfl (.tmp 33) (.tmp 39) 188 rfl 194 i0 _ 2 16 Tryz.underlying188 hi hz0 hz1 hz2 (by decide) (by decide) (vs dn) pl _ HOB.out (HK4.out.lt dn) 1 1 (by simp [Act.eval]) (by simp [Act.eval]) rfl (by simp [Value.oneCell']) (by have := HLEN.out; simp only [maxLen]; omega) (by have := HLEN.out; omega) ?_
          intro ad cc2 w2 own2 kp2
          have hS2 : w2.cell? ⟨sb, 0, none⟩ = some (.int .i64 dn) ∧ w2.cell? ⟨sb, 1, none⟩ = some (.int .i64 s.2.1) ∧ w2.cell? ⟨sb, 2, none⟩ = some (.int .i64 s.2.2) ∧ w2.cell? ⟨w.heap.size + 1, dn, none⟩ = some (vs dn) := ⟨kp2.cell (.inr (.inl (.inr rfl))) hS.1, kp2.cell (.inr (.inl (.inr rfl))) hS.2.1, kp2.cell (.inr (.inl (.inr rfl))) hS.2.2.1, kp2.cell (.inl rfl) hS.2.2.2⟩
          refine hK.out _ _ hS2 ?_
          clear hK K hS1
          have HSTP := Lib.hid (((HK4.out.step hd4 kp2 own2).mono (M' := fun k => k = w.heap.size) fun k hk => .inl hk).congr (n' := fun d => (partL (c.take (k + 1)) d).length) (xs' := fun d => ruC (partL (c.take (k + 1)) d)) (fun d hd => by
           rw [HPT.out]
           by_cases he : d = dn
           · subst he; rw [upd_same, if_pos HDN.out, List.length_append, ← HPL.out]; rfl
           · rw [upd_other _ _ he, if_neg (by rw [HDN.out]; omega), List.append_nil]) (fun d hd => by
           rw [HPT.out]
           by_cases he : d = dn
           · subst he; rw [upd_same, if_pos HDN.out, ruC_append]; rfl
           · rw [upd_other _ _ he, if_neg (by rw [HDN.out]; omega), List.append_nil]))
          have HR2 := Lib.hid (kp2.blk (.inr (.inl (.inl rfl))) HRK.out)
          have hcf := kp2.frozen (p := ⟨w.heap.size + 1, dn, none⟩) (.inl rfl) (free_at' HK4.out.blk dn)
          clear own2 kp2
          try simp only [Act.put, List.setIfInBounds_toArray, List.set_cons_zero, List.set_cons_succ]
          refine tkG 13 41 rfl rfl (v := ?_) (.inl ⟨by rfl, ?_⟩) ?_
          rotate_left 1
          · (intro w hSw; (try dsimp only at hSw); go_simp; (try with_reducible rfl))
          try simp only [Act.put, List.setIfInBounds_toArray, List.set_cons_zero, List.set_cons_succ]
          refine last_opG (by kernel_rfl) (by kernel_rfl) rfl (fun K hK => ?_)
          have hcz := hS2.2.2.2
          clear hS2 hS
          go_simp
          refine hK.out _ _ ?_
          clear hK K hcz hcf
          go_wp2
          go_roundw
          case rel => exact ⟨k + 1, dn, _, by omega, by go_num, rfl, hd4, .inr ⟨by omega, by rw [Nat.add_sub_cancel, HGD.out, HDN.out]⟩, HS.out.2 ⟨by rw [HDN.out]; exact c1, by rw [HDN.out]; omega⟩, HSTP.out, (Frm.setCell (S := fun k => k = w.heap.size + 1) w2 (p := ⟨w.heap.size + 1, dn, none⟩) (.inl rfl) _).blk HR2.out (fun h => by have h : w.heap.size = w.heap.size + 1 := h; omega)⟩
          case measure => simp [intOf]; omega
  · obtain rfl : n = k := by omega
    rw [List.take_of_length_le (by rw [HN.out]; exact Nat.le_refl _)] at H4 HDC
    obtain ⟨wo, rfl⟩ : ∃ wo : World, wo = wr := ⟨_, rfl⟩
    have hsh : ∀ d, d < 4 → ∃ t : Option Addr × Nat × Nat, vs d = .slice t.1 t.2.1 t.2.2 := fun d hd => by
     obtain ⟨a, c, h⟩ := (H4.out.own d hd).at_.shape
     exact ⟨(a, _, c), h⟩
    obtain ⟨A, hA⟩ := Go.Deep.choose_lt hsh
    clear hsh
    have c0 := hA 0 (by omega) ▸ H4.out.cell (d := 0) (by omega)
    have c1 := hA 1 (by omega) ▸ H4.out.cell (d := 1) (by omega)
    have c2 := hA 2 (by omega) ▸ H4.out.cell (d := 2) (by omega)
    have c3 := hA 3 (by omega) ▸ H4.out.cell (d := 3) (by omega)
    have HAA := Lib.hid hA; clear hA
    go_wp2
    clear z0 z1 z2 z3 f0 f1 f2 f3 c0 c1 c2 c3
    go_loopw [44] (fun i ww => ∃ j : Nat, j ≤ 4 ∧ i = .int .i64 j ∧ (∀ d : Nat, d < j → RightR (partL c d)) ∧ Frm NoS wo ww) (fun i _ => 4 - (intOf i).toNat)
    case atStart => exact ⟨0, by omega, rfl, (fun d hd => by omega), Frm.refl _ _⟩
    case round =>
     obtain ⟨j, hj, rfl, hr, hw⟩ := hrel
     have HW := Lib.hid hw; clear hw
     have HR := Lib.hid hr; clear hr
     have HRS := Lib.hid (HW.out.blk HRES.out id)
     have z0 : wr.cell? ⟨w.heap.size, 0, none⟩ = some (.slice none 0 0) := cell_at' HRS.out 0 rfl
     have z1 : wr.cell? ⟨w.heap.size, 1, none⟩ = some (.slice none 0 0) := cell_at' HRS.out 1 rfl
     have z2 : wr.cell? ⟨w.heap.size, 2, none⟩ = some (.slice none 0 0) := cell_at' HRS.out 2 rfl
     have z3 : wr.cell? ⟨w.heap.size, 3, none⟩ = some (.slice none 0 0) := cell_at' HRS.out 3 rfl
     have f0 := free_at' HRS.out 0
     have f1 := free_at' HRS.out 1
     have f2 := free_at' HRS.out 2
     have f3 := free_at' HRS.out 3
     by_cases hj4 : j < 4
     · have hix : ∀ W, (Instr.index 190 (.agg #[.slice (A 0).1 (A 0).2.1 (A 0).2.2, .slice (A 1).1 (A 1).2.1 (A 1).2.2, .slice (A 2).1 (A 2).2.1 (A 2).2.2, .slice (A 3).1 (A 3).2.1 (A 3).2.2]) (.int .i64 (j : Int))).run Tryz.prog W = .ok (.slice (A j).1 (A j).2.1 (A j).2.2) W := by
        rcases (by omega : j = 0 ∨ j = 1 ∨ j = 2 ∨ j = 3) with rfl | rfl | rfl | rfl <;> exact fun _ => by kernel_rfl
       have hown := ((H4.out.own j hj4).at_.keep HW.out).rd
       rw [HAA.out j hj4] at hown
       have hcall := sRight_any wr _ (partL c j) hown (HF.out.part j)
       by_cases hrj : RightR (partL c j)
       · rw [tf_true hrj] at hcall
         have HC := Lib.hid hcall; clear hcall hown
         have HRJ := Lib.hid hrj; clear hrj
         clear z0 z1 z2 z3 f0 f1 f2 f3
         go_wp2_with (go_at_call 171; refine HC.out.mono ?_; rintro e w1 ⟨rfl, hw1⟩; have HW1 := Lib.hid hw1; clear hw1)
         go_roundw
         case rel => exact ⟨j + 1, by omega, by go_num, (fun d hd => by
          by_cases he : d = j
          · subst he; exact HRJ.out
          · exact HR.out d (by omega)), HW.out.then1 HW1.out⟩
         case measure => simp [intOf]; omega
       · rw [tf_false hrj] at hcall
         have HC := Lib.hid hcall; clear hcall hown
         have HRJ := Lib.hid hrj; clear hrj
         clear z0 z1 z2 z3 f0 f1 f2 f3
         go_wp2_with (go_at_call 171; refine HC.out.mono ?_; rintro e w1 ⟨rfl, hw1⟩; have HW1 := Lib.hid hw1; clear hw1; have HB1 := Lib.hid (HW1.out.blk HRS.out id); have z0 : w1.cell? ⟨w.heap.size, 0, none⟩ = some (.slice none 0 0) := cell_at' HB1.out 0 rfl; have z1 : w1.cell? ⟨w.heap.size, 1, none⟩ = some (.slice none 0 0) := cell_at' HB1.out 1 rfl; have z2 : w1.cell? ⟨w.heap.size, 2, none⟩ = some (.slice none 0 0) := cell_at' HB1.out 2 rfl; have z3 : w1.cell? ⟨w.heap.size, 3, none⟩ = some (.slice none 0 0) := cell_at' HB1.out 3 rfl; have f0 := free_at' HB1.out 0; have f1 := free_at' HB1.out 1; have f2 := free_at' HB1.out 2; have f3 := free_at' HB1.out 3)
         have hr4 := res4 HB1.out ((H4.out.frm.then1 HW.out).then1 HW1.out) (Nat.le_refl _) (.slice none 0 0) (.slice none 0 0) (.slice none 0 0) (.slice none 0 0)
         have y0 := cell_at' hr4.1 0 rfl
         have y1 := cell_at' hr4.1 1 rfl
         have y2 := cell_at' hr4.1 2 rfl
         have y3 := cell_at' hr4.1 3 rfl
         exact bodyPost_ret (v := .tuple #[.agg #[.slice none 0 0, .slice none 0 0, .slice none 0 0, .slice none 0 0], .bool false]) (by simp [results, Tryz.results135, go_sem, y0, y1, y2, y3]) rfl ⟨hr4.2, fun hr => absurd (hr.2 j (by omega) (by omega)) HRJ.out, fun _ => rfl⟩
     · obtain rfl : j = 4 := by omega
       have hk4 := H4.out.keep HW.out
       have c0 := HAA.out 0 (by omega) ▸ hk4.cell (d := 0) (by omega)
       have c1 := HAA.out 1 (by omega) ▸ hk4.cell (d := 1) (by omega)
       have c2 := HAA.out 2 (by omega) ▸ hk4.cell (d := 2) (by omega)
       have c3 := HAA.out 3 (by omega) ▸ hk4.cell (d := 3) (by omega)
       have HK := Lib.hid hk4; clear hk4
       have hr4 := res4 HRS.out (H4.out.frm.then1 HW.out) (Nat.le_refl _) (.slice (A 0).1 (A 0).2.1 (A 0).2.2) (.slice (A 1).1 (A 1).2.1 (A 1).2.2) (.slice (A 2).1 (A 2).2.1 (A 2).2.2) (.slice (A 3).1 (A 3).2.1 (A 3).2.2)
       have HR4 := Lib.hid hr4; clear hr4
       have hrc : RightC c := ⟨HDC.out, fun d h0 h4 => by
        obtain ⟨e, rfl⟩ : ∃ e : Nat, d = e := ⟨d.toNat, by omega⟩
        exact HR.out e (by omega)⟩
       have HRC := Lib.hid hrc; clear hrc
       go_wp2
       have y0 := cell_at' HR4.out.1 0 rfl
       have y1 := cell_at' HR4.out.1 1 rfl
       have y2 := cell_at' HR4.out.1 2 rfl
       have y3 := cell_at' HR4.out.1 3 rfl
       refine bodyPost_ret (v := .tuple #[.agg #[.slice (A 0).1 (A 0).2.1 (A 0).2.2, .slice (A 1).1 (A 1).2.1 (A 1).2.2, .slice (A 2).1 (A 2).2.1 (A 2).2.2, .slice (A 3).1 (A 3).2.1 (A 3).2.2], .bool true]) (by simp [results, Tryz.results135, go_sem, y0, y1, y2, y3]) rfl ⟨HR4.out.2, fun _ => ⟨A, rfl, ⟨fun d hd => ?_⟩⟩, fun h => absurd HRC.out h⟩
       have ho := HK.out.own d hd
       rw [HAA.out d hd] at ho
       have f4 : Frm (fun k => k = w.heap.size) wr ((((wr.setCell ⟨w.heap.size, 0, none⟩ (.slice (A 0).1 (A 0).2.1 (A 0).2.2)).setCell ⟨w.heap.size, 1, none⟩ (.slice (A 1).1 (A 1).2.1 (A 1).2.2)).setCell ⟨w.heap.size, 2, none⟩ (.slice (A 2).1 (A 2).2.1 (A 2).2.2)).setCell ⟨w.heap.size, 3, none⟩ (.slice (A 3).1 (A 3).2.1 (A 3).2.2)) :=
        (((Frm.setCell (S := fun k => k = w.heap.size) wr (p := ⟨w.heap.size, 0, none⟩) (.inl rfl) (.slice (A 0).1 (A 0).2.1 (A 0).2.2)).trans (Frm.setCell (S := fun k => k = w.heap.size) _ (p := ⟨w.heap.size, 1, none⟩) (.inl rfl) (.slice (A 1).1 (A 1).2.1 (A 1).2.2)) fun _ _ h => h).trans (Frm.setCell (S := fun k => k = w.heap.size) _ (p := ⟨w.heap.size, 2, none⟩) (.inl rfl) (.slice (A 2).1 (A 2).2.1 (A 2).2.2)) fun _ _ h => h).trans (Frm.setCell (S := fun k => k = w.heap.size) _ (p := ⟨w.heap.size, 3, none⟩) (.inl rfl) (.slice (A 3).1 (A 3).2.1 (A 3).2.2)) fun _ _ h => h
       exact ⟨f4.owns ho.at_.own fun k hk he => ho.but k hk (.inr he), ho.at_.new, HR4.out.2⟩
abbrev Sl := Option Addr × Nat × Nat
def WhR (p : Nat → RunL) (d : Int) (o : RunL) : Prop := o = p d.toNat
theorem UpTo.whole_ {p : Nat → RunL} {c : CtxL} (h : UpTo (WhR p) 4 c) : c = wholeL fun d => p d.toNat := by
 rw [← whole_parts (Int.le_refl 0) h.rise]
 unfold wholeL
 rw [h.parts 0 (by decide) (by decide), h.parts 1 (by decide) (by decide), h.parts 2 (by decide) (by decide), h.parts 3 (by decide) (by decide)]
theorem cwhole_any (w : World) (A : Nat → Sl) (p : Nat → RunL) (hp : ∀ d, d < 4 → RunAt w (.slice (A d).1 (A d).2.1 (A d).2.2) (p d)) (hl : ∀ d, d < 4 → (p d).length ≤ 200000) :
 Calls Tryz.prog 169 #[.agg #[.slice (A 0).1 (A 0).2.1 (A 0).2.2, .slice (A 1).1 (A 1).2.1 (A 1).2.2, .slice (A 2).1 (A 2).2.1 (A 2).2.2, .slice (A 3).1 (A 3).2.1 (A 3).2.2]] w fun e w' =>
  ∃ v' c, e = .returned v' ∧ OwnAt w w' 122 3 v' c.length (spC c) ∧ c = (wholeL fun d => p d.toNat) ∧ c.length ≤ 800000 := by
 obtain ⟨i0, hi, hz0, hz1, hz2⟩ := info_parts info_span
 have HP := Lib.hid hp; clear hp
 have HL := Lib.hid hl; clear hl
 have hb : Frm NoS w (w.alloc (.cells #[.slice (A 0).1 (A 0).2.1 (A 0).2.2, .slice (A 1).1 (A 1).2.1 (A 1).2.2, .slice (A 2).1 (A 2).2.1 (A 2).2.2, .slice (A 3).1 (A 3).2.1 (A 3).2.2] 190)) := Frm.alloc _ _ _
 have HFB := Lib.hid hb; clear hb
 go_enter Tryz.func169, Tryz.ntmps169
 go_wp2
 go_loopw [3, 9] (fun v i ww => ∃ (k : Nat) (c : CtxL), k ≤ 4 ∧ i = .int .i64 k ∧ OwnAt w ww 122 3 v c.length (spC c) ∧ UpTo (WhR p) k c ∧ c.length ≤ 200000 * k) (fun _ i _ => 4 - (intOf i).toNat)
 case atStart => exact ⟨0, [], by omega, rfl, OwnAt.nil HFB.out _ _, UpTo.zero _, Nat.zero_le _⟩
 case round =>
  obtain ⟨wo, rfl⟩ : ∃ wo : World, wo = wr := ⟨_, rfl⟩
  obtain ⟨k, c, hk, rfl, ho, hu, hlen⟩ := hrel
  obtain ⟨av, cv, rfl⟩ := ho.shape
  have HO := Lib.hid ho; clear ho
  have HU := Lib.hid hu; clear hu
  have HLEN := Lib.hid hlen; clear hlen
  by_cases hlt : k < 4
  · have hki : (k : Int) < 4 := by omega
    have hkd : decide ((k : Int) < 4) = true := by simpa using hki
    have hpk := HP.out k hlt
    have hlk := HL.out k hlt
    have hst := HU.out.step (o := p k) (by omega) (by omega) (by unfold WhR; rw [Int.toNat_natCast])
    have hix : ∀ W, (Instr.index 190 (.agg #[.slice (A 0).1 (A 0).2.1 (A 0).2.2, .slice (A 1).1 (A 1).2.1 (A 1).2.2, .slice (A 2).1 (A 2).2.1 (A 2).2.2, .slice (A 3).1 (A 3).2.1 (A 3).2.2]) (.int .i64 (k : Int))).run Tryz.prog W = .ok (.slice (A k).1 (A k).2.1 (A k).2.2) W := by
     rcases (by omega : k = 0 ∨ k = 1 ∨ k = 2 ∨ k = 3) with rfl | rfl | rfl | rfl <;> exact fun _ => by kernel_rfl
    obtain ⟨a1, c1, he⟩ := hpk.sl
    rw [he] at hpk hix
    clear he
    generalize p k = l at *
    have HPK := Lib.hid hpk; clear hpk
    have HST := Lib.hid hst; clear hst
    have HLK := Lib.hid hlk; clear hlk
    generalize hn : l.length = n at *
    have HN := Lib.hid hn; clear hn
    go_wp2
    clear hix
    go_loopw [3, 15] (fun v i ww => ∃ (j m : Nat), j ≤ n ∧ m = c.length + j ∧ i = .int .i64 j ∧ OwnAt w ww 122 3 v m (spC (c ++ spansL k (l.take j)))) (fun _ i _ => n - (intOf i).toNat)
    case atStart => exact ⟨0, _, Nat.zero_le _, rfl, rfl, by simpa [spansL] using HO.out⟩
    case round =>
     obtain ⟨j, m, hj, hm, rfl, hoj⟩ := hrel
     obtain ⟨a3, c3, rfl⟩ := hoj.shape
     have HOJ := Lib.hid hoj; clear hoj
     have HM := Lib.hid hm; clear hm
     by_cases hjl : j < n
     · rcases Rd.shape HPK.out with ⟨ad, he, h0⟩ | ⟨b, off, cc, he, hmax⟩
       · exfalso; have := HN.out; omega
       · injection he with e1 e2 e3
         subst e1 e3
         clear e2
         rw [HN.out] at hmax
         have hjk : j < l.length := by rw [HN.out]; exact hjl
         obtain ⟨p0, p1⟩ := run_at HPK.out HN.out.symm j hjk
         have q0 := HOJ.out.frm.cell' p0 id
         have q1 := HOJ.out.frm.cell' p1 id
         have hE := spansL_take_succ (l := l) (k := j) k hjk
         generalize l.getD j (0, 0) = r at *
         clear p0 p1
         have HE := Lib.hid hE; clear hE
         have hml : m ≤ 1000000 := by have := HM.out; have := HLEN.out; have := HLK.out; omega
         have HML := Lib.hid hml; clear hml
         go_wp2_with (at_builtin; refine wpList_appO w _ [.int .i64 k, .int .i64 r.1, .int .i64 r.2] rfl (.tmp 19) (.tmp 26) 30 rfl 122 i0 _ 3 24 Tryz.underlying30 hi hz0 hz1 hz2 (by decide) (by decide) _ _ _ (HOJ.out.keep (Frm.alloc _ _ _)) 1 1 rfl (by simp [Act.eval]) rfl (by simp [Value.oneCell']) (by have := HML.out; simp only [maxLen]; omega) (by have := HML.out; omega) ?_; intro ad2 cc2 w2 own2; have OW := Lib.hid own2; clear own2)
         go_roundw
         case rel =>
          refine ⟨j + 1, m + 1, by omega, by rw [HM.out]; omega, by go_num, ?_⟩
          rw [HE.out, ← List.append_assoc, spC_append]
          exact OW.out
         case measure => simp [intOf]; omega
     · obtain rfl : n = j := by omega
       rw [List.take_of_length_le (by rw [HN.out]; exact Nat.le_refl _)] at HOJ
       go_wp2
       go_roundw
       case rel =>
        refine ⟨k + 1, c ++ spansL k l, by omega, by go_num, ?_, HST.out, ?_⟩
        · have : (c ++ spansL k l).length = m := by rw [List.length_append, spC_spans_len, HN.out, HM.out]
          rw [this]; exact HOJ.out
        · rw [List.length_append, spC_spans_len, HN.out]
          have := HLEN.out; have := HLK.out; omega
       case measure => simp [intOf]; omega
  · obtain rfl : k = 4 := by omega
    go_wp2
    go_ret
    exact ⟨_, c, rfl, HO.out, HU.out.whole_, HLEN.out⟩
theorem minusL_drop {a b : RunL} {k : Nat} (h : k < a.length) : minusL (a.drop k) b = minusIn (a.getD k (0, 0)).1 (a.getD k (0, 0)).2 b ++ minusL (a.drop (k + 1)) b := by
 rw [drop_getD h]; rfl
theorem minusIn_drop {b : RunL} {k : Nat} (h : k < b.length) (lo hi : Int) : minusIn lo hi (b.drop k) = if (b.getD k (0, 0)).2 < lo ∨ hi < (b.getD k (0, 0)).1 then minusIn lo hi (b.drop (k + 1)) else (if lo < (b.getD k (0, 0)).1 then [(lo, (b.getD k (0, 0)).1 - 1)] else []) ++ minusIn ((b.getD k (0, 0)).2 + 1) hi (b.drop (k + 1)) := by
 rw [drop_getD h]; rfl
def MinIn (w0 : World) (gr : Nat) (b : RunL) (hi : Int) (m : Nat) (tot : RunL) (len : Nat) (v i : Value) (ww : World) : Prop :=
 ∃ (j : Nat) (out : RunL) (lo : Int), j ≤ m ∧ i = .int .i64 j ∧ OwnBut (fun k => k = gr) w0 ww 194 2 v out.length (ruC out) ∧ ww.heap[gr]? = some (.cells #[.int .i64 lo, .int .i64 hi] 194 (0, 0)) ∧
  tot = out ++ minusIn lo hi (b.drop j) ∧ out.length ≤ len + j ∧ 1 ≤ lo ∧ lo ≤ 1099511627777
theorem sMinus_any (w : World) (va vb : Value) (a b : RunL) (ha : RunAt w va a) (hb : RunAt w vb b) (ra : RightR a) (rb : RightR b) (la : a.length ≤ 20000) (lb : b.length ≤ 20000) :
 Calls Tryz.prog 170 #[va, vb] w fun e w' => ∃ v', e = .returned v' ∧ OwnAt w w' 194 2 v' (minusL a b).length (ruC (minusL a b)) := by
 obtain ⟨i0, hi, hz0, hz1, hz2⟩ := info_parts info_srun
 obtain ⟨aA, cA, rfl⟩ := ha.sl
 obtain ⟨aB, cB, rfl⟩ := hb.sl
 have HBO := Lib.hid (both_any w _ _ a b ha ra.fits hb rb.fits)
 have hboth : tf (RightR a ∧ RightR b) = true := tf_true ⟨ra, rb⟩
 have HA := Lib.hid ha; clear ha
 have HB := Lib.hid hb; clear hb
 have RA := Lib.hid (fun r (h : r ∈ a) => (⟨(runsFrom_ge ra.1 r h).1, (runsFrom_ge ra.1 r h).2, ra.2 r h⟩ : 1 ≤ r.1 ∧ r.1 ≤ r.2 ∧ r.2 ≤ 1099511627776)); clear ra
 have RB := Lib.hid (fun r (h : r ∈ b) => (⟨(runsFrom_ge rb.1 r h).1, (runsFrom_ge rb.1 r h).2, rb.2 r h⟩ : 1 ≤ r.1 ∧ r.1 ≤ r.2 ∧ r.2 ≤ 1099511627776)); clear rb
 generalize hn : a.length = n at *
 generalize hm : b.length = m at *
 have HN := Lib.hid hn; clear hn
 have HM := Lib.hid hm; clear hm
 have LA := Lib.hid la; clear la
 have LB := Lib.hid lb; clear lb
 rw [hboth] at HBO
 clear hboth
 go_enter Tryz.func170, Tryz.ntmps170
 go_wp2_with (go_at_call 179; refine HBO.out.mono ?_; rintro e w1 ⟨rfl, hw1⟩; have HW1 := Lib.hid hw1; clear hw1)
 go_loopw [5, 16] (fun v i ww => ∃ (k : Nat) (out : RunL), k ≤ n ∧ out.length ≤ k * (m + 1) ∧ i = .int .i64 k ∧ OwnAt w ww 194 2 v out.length (ruC out) ∧ minusL a b = out ++ minusL (a.drop k) b) (fun _ i _ => n - (intOf i).toNat)
 case atStart => exact ⟨0, [], Nat.zero_le _, by simp, rfl, OwnAt.nil HW1.out _ _, rfl⟩
 case round =>
  obtain ⟨wo, rfl⟩ : ∃ wo : World, wo = wr := ⟨_, rfl⟩
  obtain ⟨k, out, hk, hok, rfl, ho, he⟩ := hrel
  have HO := Lib.hid ho; clear ho
  have HE := Lib.hid he; clear he
  obtain ⟨av, cv, hv⟩ := HO.out.shape
  subst hv
  by_cases hlt : k < n
  · rcases Rd.shape HA.out with ⟨ad, he, h0⟩ | ⟨bb, off, cc, he, hmax⟩
    · exfalso; have := HN.out; omega
    · injection he with e1 e2 e3
      subst e1 e3
      clear e2
      rw [HN.out] at hmax
      have hlk : k < a.length := by rw [HN.out]; exact hlt
      obtain ⟨p0, p1⟩ := run_at HA.out HN.out.symm k hlk
      have q0 := HO.out.frm.cell' p0 id
      have q1 := HO.out.frm.cell' p1 id
      clear p0 p1
      have hbr := RA.out _ (getD_mem (0, 0) hlk)
      have HD := Lib.hid (minusL_drop (b := b) hlk)
      have hkm : k * (m + 1) ≤ 20000 * 20001 := Nat.mul_le_mul (Nat.le_trans hk LA.out) (Nat.succ_le_succ LB.out)
      generalize a.getD k (0, 0) = r at *
      generalize hkk : k * (m + 1) = km at *
      have HKK := Lib.hid hkk; clear hkk
      have HOK := Lib.hid hok; clear hok
      have HKM := Lib.hid hkm; clear hkm
      obtain ⟨r1, r2, r3⟩ := hbr
      go_wp2
      go_loopw [5, 22] (fun v i ww => MinIn w wo.heap.size b r.2 m (out ++ minusIn r.1 r.2 b) out.length v i ww) (fun _ i _ => m - (intOf i).toNat)
      case atStart => exact ⟨0, out, r.1, Nat.zero_le _, rfl, HO.out.away (Frm.alloc _ _ _) (fun k hk => by rw [hk]; exact Nat.le_refl _), heap_alloc_new wo _, rfl, Nat.le_refl _, r1, by omega⟩
      case round =>
       obtain ⟨j, out2, lo, hj, rfl, ho2, hbk, he2, hl2, l1, l2⟩ := hrel
       obtain ⟨av2, cv2, rfl⟩ := ho2.at_.shape
       have HO2 := Lib.hid ho2; clear ho2
       have HE2 := Lib.hid he2; clear he2
       have HL2 := Lib.hid hl2; clear hl2
       have HBK := Lib.hid hbk; clear hbk
       have z0 := cell_at' HBK.out 0 rfl
       have z1 := cell_at' HBK.out 1 rfl
       have zf := free_at' HBK.out 0
       have hgl : wo.heap.size < wr.heap.size := World.block_lt_of_cell? _ _ z0
       by_cases hjl : j < m
       · rcases Rd.shape HB.out with ⟨ad, he, h0⟩ | ⟨b2, off2, cc2, he, hmax2⟩
         · exfalso; have := HM.out; omega
         · injection he with e1 e2 e3
           subst e1 e3
           clear e2
           rw [HM.out] at hmax2
           have hjb : j < b.length := by rw [HM.out]; exact hjl
           obtain ⟨p0, p1⟩ := run_at HB.out HM.out.symm j hjb
           have x0 := HO2.out.at_.frm.cell' p0 id
           have x1 := HO2.out.at_.frm.cell' p1 id
           clear p0 p1
           have hbx := RB.out _ (getD_mem (0, 0) hjb)
           have HDJ := Lib.hid (fun lo hi => minusIn_drop hjb lo hi)
           generalize b.getD j (0, 0) = x at *
           obtain ⟨y1, y2, y3⟩ := hbx
           have hgw : w.heap.size ≤ wo.heap.size := HO.out.frm.size
           by_cases c1 : x.2 < lo
           · have HX := Lib.hid (HDJ.out lo r.2)
             rw [if_pos (.inl c1)] at HX
             go_wp2
             go_roundw
             case rel => exact ⟨j + 1, out2, lo, by omega, by go_num, HO2.out.keep (Frm.alloc _ _ _), (Frm.alloc NoS _ _).blk HBK.out id, by rw [HE2.out, HX.out], Nat.le_trans HL2.out (by omega), l1, l2⟩
             case measure => simp [intOf]; omega
           · by_cases c2 : r.2 < x.1
             · have HX := Lib.hid (HDJ.out lo r.2)
               rw [if_pos (.inr c2)] at HX
               go_wp2
               go_roundw
               case rel => exact ⟨j + 1, out2, lo, by omega, by go_num, HO2.out.keep (Frm.alloc _ _ _), (Frm.alloc NoS _ _).blk HBK.out id, by rw [HE2.out, HX.out], Nat.le_trans HL2.out (by omega), l1, l2⟩
               case measure => simp [intOf]; omega
             · have HX := Lib.hid (HDJ.out lo r.2)
               rw [if_neg (by omega)] at HX
               by_cases c3 : lo < x.1
               · rw [if_pos c3] at HX
                 have hx0 := cell_at' (heap_alloc_new wr (.cells #[.int .i64 x.1, .int .i64 x.2] 194)) 0 rfl
                 have hx1 := cell_at' (heap_alloc_new wr (.cells #[.int .i64 x.1, .int .i64 x.2] 194)) 1 rfl
                 have HXX := Lib.hid hx1; clear hx0 hx1
                 go_wp2_with (at_builtin; refine wpList_appB (fun k => k = wo.heap.size ∨ k = wr.heap.size) w _ [.int .i64 lo, .int .i64 (x.1 - 1)] rfl (.tmp 43) (.tmp 50) 188 rfl 194 i0 _ 2 16 Tryz.underlying188 hi hz0 hz1 hz2 (by decide) (by decide) _ _ _ (HO2.out.box _) (fun k hk => by simp; omega) 1 1 rfl (by simp [Act.eval]) rfl (by simp [Value.oneCell']) (by have := HL2.out; have := HOK.out; have := HKM.out; have := LB.out; simp only [maxLen]; omega) (by have := HL2.out; have := HOK.out; have := HKM.out; have := LB.out; omega) ?_; intro ad cc3 w2 own2 kp2; have OW := Lib.hid own2; clear own2; have b2 := kp2.blk (.inl rfl) ((Frm.alloc NoS _ _).blk HBK.out id); have B2 := Lib.hid b2; clear b2; have k0 := cell_at' B2.out 0 rfl; have kf := free_at' B2.out 0; have kx := kp2.cell (p := ⟨wr.heap.size, 1, none⟩) (.inr rfl) HXX.out)
                 go_roundw
                 case rel =>
                  refine ⟨j + 1, out2 ++ [(lo, x.1 - 1)], x.2 + 1, by omega, by go_num, ?_, set_at' B2.out 0 _, by rw [HE2.out, HX.out]; simp, by rw [List.length_append]; have := HL2.out; simp; omega, by omega, by omega⟩
                  rw [List.length_append, ruC_append]
                  exact (OW.out.mono (fun k hk => .inl hk)).set rfl hgw _
                 case measure => simp [intOf]; omega
               · rw [if_neg c3, List.nil_append] at HX
                 go_wp2
                 go_roundw
                 case rel => exact ⟨j + 1, out2, x.2 + 1, by omega, by go_num, (HO2.out.set (p := ⟨wo.heap.size, 0, none⟩) rfl hgw _).keep (Frm.alloc _ _ _), (Frm.alloc NoS _ _).blk (set_at' HBK.out 0 _) id, by rw [HE2.out, HX.out], Nat.le_trans HL2.out (by omega), by omega, by omega⟩
                 case measure => simp [intOf]; omega
       · obtain rfl : m = j := by omega
         have he3 := HE2.out
         rw [List.drop_of_length_le (by rw [HM.out]; exact Nat.le_refl _)] at he3
         rw [show minusIn lo r.2 [] = if lo ≤ r.2 then [(lo, r.2)] else [] from rfl] at he3
         by_cases c1 : lo ≤ r.2
         · rw [if_pos c1] at he3
           have HE3 := Lib.hid he3; clear he3
           go_wp2_with (at_builtin; refine wpList_appO w _ [.int .i64 lo, .int .i64 r.2] rfl (.tmp 62) (.tmp 64) 188 rfl 194 i0 _ 2 16 Tryz.underlying188 hi hz0 hz1 hz2 (by decide) (by decide) _ _ _ HO2.out.at_ 1 1 rfl (by simp [Act.eval]) rfl (by simp [Value.oneCell']) (by have := HL2.out; have := HOK.out; have := HKM.out; have := LB.out; simp only [maxLen]; omega) (by have := HL2.out; have := HOK.out; have := HKM.out; have := LB.out; omega) ?_; intro ad cc3 w2 own2; have OW := Lib.hid own2; clear own2)
           go_roundw
           case rel =>
            refine ⟨k + 1, out2 ++ [(lo, r.2)], by omega, ?_, by go_num, by rw [List.length_append, ruC_append]; exact OW.out, by rw [HE.out, HD.out, ← List.append_assoc, HE3.out]⟩
            have h1 := HL2.out
            have h2 := HOK.out
            have h3 : (k + 1) * (m + 1) = km + (m + 1) := by rw [Nat.succ_mul, HKK.out]
            rw [List.length_append]
            simp only [List.length_singleton]
            omega
           case measure => simp [intOf]; omega
         · rw [if_neg c1, List.append_nil] at he3
           have HE3 := Lib.hid he3; clear he3
           go_wp2
           go_roundw
           case rel =>
            refine ⟨k + 1, out2, by omega, ?_, by go_num, HO2.out.at_, by rw [HE.out, HD.out, ← List.append_assoc, HE3.out]⟩
            have h1 := HL2.out
            have h2 := HOK.out
            have h3 : (k + 1) * (m + 1) = km + (m + 1) := by rw [Nat.succ_mul, HKK.out]
            omega
           case measure => simp [intOf]; omega
  · obtain rfl : n = k := by omega
    go_wp2
    go_ret
    have := HE.out
    rw [List.drop_of_length_le (by rw [HN.out]; exact Nat.le_refl _)] at this
    have : out = minusL a b := by rw [this]; simp [minusL]
    subst this
    exact ⟨_, rfl, HO.out⟩
end Go.Proofs.YtcahemkomfaabaaGreat
namespace Go.Proofs.YtcahemkomfaabaaGreat
open Go.RowKit Go.Sort
def encR (r : Int × Int) : List Value := [.int .i64 r.1, .int .i64 r.2]
theorem getD_bang (d : Array (Int × Int)) {k : Nat} (h : k < d.size) : d.toList.getD k (0, 0) = d[k]! := by
 rw [getD_at (0, 0) (by simpa using h), getElem!_pos d k h]; simp
theorem flat_get (d : Array (Int × Int)) {t : Nat} (ht : t < d.size * 2) : (ruC d.toList)[t]? = some ((flatK encR 2 d)[t]!) := by
 rw [get_flatK _ _ _ _ ht]
 have hk : t / 2 < d.size := by omega
 obtain ⟨h1, h2⟩ := ruC_at d.toList (t / 2) (by simpa using hk)
 rw [getD_bang d hk] at h1 h2
 rcases Nat.mod_two_eq_zero_or_one t with h | h
 · rw [h]
   have e : t / 2 * 2 = t := by omega
   rw [e] at h1
   rw [h1]; rfl
 · rw [h]
   have e : t / 2 * 2 + 1 = t := by omega
   rw [e] at h2
   rw [h2]; rfl
theorem OwnAt.holdsK {w0 w : World} {e : TypeId} {n c g : Nat} {l : RunL} (h : OwnAt w0 w e 2 (.slice (some ⟨g, 0, none⟩) n c) n (ruC l)) (hn : 0 < n) (hl : l.length = n) : HoldsK encR 2 w g 0 l.toArray := by
 obtain ⟨g', c', he, _, _, _, h1, h2, _⟩ := h.row hn
 injection he with e1 e2 e3
 injection e1 with e1
 injection e1 with e4 e5
 subst e4
 intro j hj
 rw [size_flatK] at hj
 have hf := flat_get l.toArray hj
 rw [Nat.zero_add]
 exact ⟨h1 j _ hf, h2 j⟩
theorem putCells_take (F cur : Array Value) (h : F.size ≤ cur.size) : (putCells id 0 F cur).toList.take F.size = F.toList := by
 apply List.ext_getElem?
 intro k
 rw [List.getElem?_take]
 by_cases hk : k < F.size
 · rw [if_pos hk]
   have hc : k < cur.size := by omega
   simp [putCells, hc, hk]
 · rw [if_neg hk]
   simp [Nat.le_of_not_lt hk]
theorem flat_list (d : Array (Int × Int)) : (flatK encR 2 d).toList = ruC d.toList := by
 apply List.ext_getElem?
 intro t
 by_cases ht : t < d.size * 2
 · rw [flat_get d ht]
   simp [ht]
 · rw [List.getElem?_eq_none (by simp; omega), List.getElem?_eq_none (by rw [ruC_length]; simp; omega)]
theorem OwnAt.sorted {w0 w : World} {e : TypeId} {n c g : Nat} {l : RunL} (h : OwnAt w0 w e 2 (.slice (some ⟨g, 0, none⟩) n c) n (ruC l)) (d' : Array (Int × Int)) (hd : d'.size = n) (hn : 0 < n) (m : Nat) (os : Array Obj) :
 OwnAt w0 (sortWorldK encR 2 w g 0 m d' os) e 2 (.slice (some ⟨g, 0, none⟩) n c) n (ruC d'.toList) := by
 rcases h.own.2 with ⟨_, h0⟩ | ⟨g', cap, cur, he, hb, hg, hnc, hcm, hcs, htake⟩
 · omega
 · injection he with e1 e2 e3
   injection e1 with e1
   injection e1 with e4 e5
   subst e4 e3
   have hlt : g < w.heap.size := lt_of_block hg
   have hnew : w0.heap.size ≤ g := h.new g rfl
   have hF : (flatK encR 2 d').size = n * 2 := by rw [size_flatK, hd]
   have hblk : (sortWorldK encR 2 w g 0 m d' os).heap[g]? = some (.cells (putCells id 0 (flatK encR 2 d') cur) e (0, 0)) := by
    unfold sortWorldK putRowK
    rw [heap_grow_old _ _ (by unfold putRow mapBlock; simpa [Sort.ahead] using hlt)]
    show ((Sort.ahead w m).heap.modify g (onCells _))[g]? = _
    rw [Array.getElem?_modify, if_pos rfl]
    show Option.map _ (w.heap[g]?) = _
    rw [hg]
    rfl
   have hcur : (flatK encR 2 d').size ≤ cur.size := by rw [hF, hcs]; exact Nat.mul_le_mul_right _ hnc
   refine ⟨⟨by rw [ruC_length]; simp [hd], .inr ⟨g, c, _, rfl, hb, hblk, hnc, hcm, by simp [putCells, hcs], ?_⟩⟩, h.new, ?_⟩
   · rw [← hF, putCells_take _ _ hcur, flat_list]
   · refine h.frm.trans (T := fun k => k = g) ⟨rfl, rfl, rfl, ?_, fun k hk hn => ?_⟩ (fun i hi he => by have he : i = g := he; omega)
     · unfold sortWorldK putRowK
       rw [size_grow]
       show w.heap.size ≤ (w.heap.modify g _).size + _
       rw [Array.size_modify]; omega
     · unfold sortWorldK putRowK
       rw [heap_grow_old _ _ (by unfold putRow mapBlock; simpa [Sort.ahead] using hk)]
       show (w.heap.modify g (onCells _))[k]? = _
       rw [Array.getElem?_modify, if_neg (fun e => hn e.symm)]
theorem perm_list {d d' : Array (Int × Int)} (h : PermIn 0 d.size d d') : d'.toList.Perm d.toList := by
 have h1 := h.2.2
 have hs := h.1
 have e1 : (d'.extract 0 d.size).toList = d'.toList := by rw [← hs]; simp
 have e2 : (d.extract 0 d.size).toList = d.toList := by simp
 rw [e1, e2] at h1
 exact h1
theorem Rising.of_pairwise : ∀ {l : RunL} {lo : Int}, l.Pairwise (fun a b => a.1 ≤ b.1) → (∀ r ∈ l, lo ≤ r.1 ∧ r.1 ≤ r.2) → Rising lo l
 | [], _, _, _ => trivial
 | r :: l, lo, hp, h => ⟨(h r List.mem_cons_self).1, (h r List.mem_cons_self).2, Rising.of_pairwise (List.pairwise_cons.1 hp).2 fun x hx => ⟨(List.pairwise_cons.1 hp).1 x hx, (h x (List.mem_cons_of_mem _ hx)).2⟩⟩
def cmpR (x y : Int × Int) : Int := cmpI x.1 y.1
theorem lt_cmpR (x y : Int × Int) : ltOf cmpR x y = decide (x.1 < y.1) := by
 unfold ltOf cmpR cmpI
 by_cases h1 : x.1 < y.1
 · simp [h1]
 · by_cases h2 : y.1 < x.1 <;> simp [h1, h2]
theorem swoR : SWO (ltOf cmpR) where
 irrefl x := by rw [lt_cmpR]; simp
 trans x y z h1 h2 := by rw [lt_cmpR] at *; simp at *; omega
 ntrans x y z h1 h2 := by rw [lt_cmpR] at *; simp at *; omega
theorem sorted_list {d : Array (Int × Int)} (h : SortedIn (ltOf cmpR) 0 d.size d) : d.toList.Pairwise (fun a b => a.1 ≤ b.1) := by
 rw [List.pairwise_iff_getElem]
 intro i j hi hj hij
 have hi' : i < d.size := by simpa using hi
 have hj' : j < d.size := by simpa using hj
 have := h i j (Nat.zero_le _) hij hj'
 rw [lt_cmpR, getElem!_pos d i hi', getElem!_pos d j hj'] at this
 simp at this ⊢
 omega
end Go.Proofs.YtcahemkomfaabaaGreat
