/- Words for the law MsgSet: R25Same. -/
import Derived.Test.YtcahemkomfaabaaGreatMsgSetG37
set_option linter.unusedSimpArgs false
set_option linter.unusedVariables false
set_option maxHeartbeats 32000000
set_option maxRecDepth 1000000
namespace Go.Proofs.YtcahemkomfaabaaGreat
open Go.RowKit
theorem pair11r (w : World) (u0 u1 u2 u3 u4 u5 u6 u7 u8 u9 u10 x0 x1 x2 x3 x4 x5 x6 x7 x8 x9 x10 : Value) (T : TypeId) (W : World) (f : Frm NoS ((w.alloc (.cells #[u0, u1, u2, u3, u4, u5, u6, u7, u8, u9, u10] T)).alloc (.cells #[x0, x1, x2, x3, x4, x5, x6, x7, x8, x9, x10] T)) W) :
 (W.cell? ⟨w.heap.size, 0, none⟩ = some u0 ∧ W.cell? ⟨w.heap.size, 1, none⟩ = some u1 ∧ W.cell? ⟨w.heap.size, 2, none⟩ = some u2 ∧ W.cell? ⟨w.heap.size, 3, none⟩ = some u3 ∧ W.cell? ⟨w.heap.size, 4, none⟩ = some u4 ∧ W.cell? ⟨w.heap.size, 5, none⟩ = some u5 ∧ W.cell? ⟨w.heap.size, 6, none⟩ = some u6 ∧ W.cell? ⟨w.heap.size, 7, none⟩ = some u7 ∧ W.cell? ⟨w.heap.size, 8, none⟩ = some u8 ∧ W.cell? ⟨w.heap.size, 9, none⟩ = some u9 ∧ W.cell? ⟨w.heap.size, 10, none⟩ = some u10) ∧ W.cell? ⟨w.heap.size + 1, 0, none⟩ = some x0 ∧ W.cell? ⟨w.heap.size + 1, 1, none⟩ = some x1 ∧ W.cell? ⟨w.heap.size + 1, 2, none⟩ = some x2 ∧ W.cell? ⟨w.heap.size + 1, 3, none⟩ = some x3 ∧ W.cell? ⟨w.heap.size + 1, 4, none⟩ = some x4 ∧ W.cell? ⟨w.heap.size + 1, 5, none⟩ = some x5 ∧ W.cell? ⟨w.heap.size + 1, 6, none⟩ = some x6 ∧ W.cell? ⟨w.heap.size + 1, 7, none⟩ = some x7 ∧ W.cell? ⟨w.heap.size + 1, 8, none⟩ = some x8 ∧ W.cell? ⟨w.heap.size + 1, 9, none⟩ = some x9 ∧ W.cell? ⟨w.heap.size + 1, 10, none⟩ = some x10 := by
 have h0 : ((w.alloc (.cells #[u0, u1, u2, u3, u4, u5, u6, u7, u8, u9, u10] T)).alloc (.cells #[x0, x1, x2, x3, x4, x5, x6, x7, x8, x9, x10] T)).heap[w.heap.size]? = some (.cells #[u0, u1, u2, u3, u4, u5, u6, u7, u8, u9, u10] T (0, 0)) := by rw [Below.heap_alloc _ _ _ (by simp)]; exact heap_alloc_new w _
 have h1 : ((w.alloc (.cells #[u0, u1, u2, u3, u4, u5, u6, u7, u8, u9, u10] T)).alloc (.cells #[x0, x1, x2, x3, x4, x5, x6, x7, x8, x9, x10] T)).heap[w.heap.size + 1]? = some (.cells #[x0, x1, x2, x3, x4, x5, x6, x7, x8, x9, x10] T (0, 0)) := by
  have := heap_alloc_new (w.alloc (.cells #[u0, u1, u2, u3, u4, u5, u6, u7, u8, u9, u10] T)) (.cells #[x0, x1, x2, x3, x4, x5, x6, x7, x8, x9, x10] T)
  simpa using this
 exact ⟨⟨f.cell' (cell_at' h0 0 rfl) id, f.cell' (cell_at' h0 1 rfl) id, f.cell' (cell_at' h0 2 rfl) id, f.cell' (cell_at' h0 3 rfl) id, f.cell' (cell_at' h0 4 rfl) id, f.cell' (cell_at' h0 5 rfl) id, f.cell' (cell_at' h0 6 rfl) id, f.cell' (cell_at' h0 7 rfl) id, f.cell' (cell_at' h0 8 rfl) id, f.cell' (cell_at' h0 9 rfl) id, f.cell' (cell_at' h0 10 rfl) id⟩, f.cell' (cell_at' h1 0 rfl) id, f.cell' (cell_at' h1 1 rfl) id, f.cell' (cell_at' h1 2 rfl) id, f.cell' (cell_at' h1 3 rfl) id, f.cell' (cell_at' h1 4 rfl) id, f.cell' (cell_at' h1 5 rfl) id, f.cell' (cell_at' h1 6 rfl) id, f.cell' (cell_at' h1 7 rfl) id, f.cell' (cell_at' h1 8 rfl) id, f.cell' (cell_at' h1 9 rfl) id, f.cell' (cell_at' h1 10 rfl) id⟩
theorem vec_ne_true {a0 a1 a2 a3 b0 b1 b2 b3 : Int} (h : ¬ (a0 = b0 ∧ a1 = b1 ∧ a2 = b2 ∧ a3 = b3)) (W : World) : (binOp .neq 23 (.agg #[.int .i64 a0, .int .i64 a1, .int .i64 a2, .int .i64 a3]) (.agg #[.int .i64 b0, .int .i64 b1, .int .i64 b2, .int .i64 b3])).run Tryz.prog W = .ok (.bool true) W := by
 have h1 : ((a0 == b0) && ((a1 == b1) && ((a2 == b2) && (a3 == b3)))) = false := by
  rw [Bool.eq_false_iff]
  intro hh
  simp only [Bool.and_eq_true, beq_iff_eq] at hh
  exact h hh
 simp [binOp, vec_equal, h1]
theorem vec_ne_false (a0 a1 a2 a3 : Int) (W : World) : (binOp .neq 23 (.agg #[.int .i64 a0, .int .i64 a1, .int .i64 a2, .int .i64 a3]) (.agg #[.int .i64 a0, .int .i64 a1, .int .i64 a2, .int .i64 a3])).run Tryz.prog W = .ok (.bool false) W := by
 simp [binOp, vec_equal]
theorem r25Same_any (Q Q' : Nat → Prop) (a b : MsgD) (ps qs : List BunP) (w : World) (lv ev kv cv lv' ev' kv' cv' : Value) (h : MsgAt Q w a ps lv ev kv cv) (g : MsgAt Q' w b qs lv' ev' kv' cv') (hok : MsgOkS a) (gok : MsgOkS b) :
 Calls Tryz.prog 17 #[a.ag lv ev kv cv, b.ag lv' ev' kv' cv'] w fun e w' => e = .returned (.bool (tf (a = b))) ∧ Frm NoS w w' := by
 have hoe : ∀ p ∈ ps, CauOk p.b.es p.b.ks p.b.c := fun p hp => hok.each p.b (h.eq ▸ List.mem_map.2 ⟨p, hp, rfl⟩)
 have goe : ∀ p ∈ qs, CauOk p.b.es p.b.ks p.b.c := fun p hp => gok.each p.b (g.eq ▸ List.mem_map.2 ⟨p, hp, rfl⟩)
 have HB := Lib.hid (fun p hp q hq W (f : Frm NoS w W) => (show Calls Tryz.prog 59 #[.agg #[.int .i64 p.b.dc, .int .i64 p.b.af, .int .i64 p.b.la, .int .i64 p.b.v0, .int .i64 p.b.v1, .int .i64 p.b.v2, .int .i64 p.b.v3, p.ev, p.kv, p.cv], .agg #[.int .i64 q.b.dc, .int .i64 q.b.af, .int .i64 q.b.la, .int .i64 q.b.v0, .int .i64 q.b.v1, .int .i64 q.b.v2, .int .i64 q.b.v3, q.ev, q.kv, q.cv]] W fun e w' => e = .returned (.bool (eqf p q)) ∧ Frm NoS W w' from r22Same_any Q Q' p.b.es p.b.ks p.b.c q.b.es q.b.ks q.b.c W p.b.dc p.b.af p.b.la p.b.v0 p.b.v1 p.b.v2 p.b.v3 q.b.dc q.b.af q.b.la q.b.v0 q.b.v1 q.b.v2 q.b.v3 p.ev p.kv p.cv q.ev q.kv q.cv ((h.bs.cau p hp).keep0 f) (hoe p hp) ((g.bs.cau q hq).keep0 f) (goe q hq)))
 have HSH := Lib.hid (fun p hp => (h.bs.cau p hp).shape)
 have GSH := Lib.hid (fun p hp => (g.bs.cau p hp).shape)
 have HCS := Lib.hid (fun W (f : Frm NoS w W) => r9Same_any Q Q' a.es a.ks a.c b.es b.ks b.c W ev kv cv ev' kv' cv' (h.cau.keep0 f) hok.st (g.cau.keep0 f) gok.st)
 have HD := Lib.hid (show (a = b) ↔ a.kind = b.kind ∧ a.fr = b.fr ∧ a.tt = b.tt ∧ (a.v0 = b.v0 ∧ a.v1 = b.v1 ∧ a.v2 = b.v2 ∧ a.v3 = b.v3) ∧ ps.length = qs.length ∧ ((a.es = b.es ∧ a.ks = b.ks) ∧ a.c = b.c) ∧ allF eqf ps qs = true by
  have hh := h.eq
  have gg := g.eq
  constructor
  · rintro rfl
    have hl : ps.length = qs.length := by rw [h.len, g.len]
    exact ⟨rfl, rfl, rfl, ⟨rfl, rfl, rfl, rfl⟩, hl, ⟨⟨rfl, rfl⟩, rfl⟩, (allF_eqf hl).2 (by rw [hh, gg])⟩
  · rintro ⟨k1, k2, k3, ⟨k4, k5, k6, k7⟩, hl, ⟨⟨k9, k10⟩, k11⟩, hb⟩
    rw [allF_eqf hl, hh, gg] at hb
    cases a
    cases b
    simp only at k1 k2 k3 k4 k5 k6 k7 k9 k10 k11 hb
    subst k1 k2 k3 k4 k5 k6 k7 k9 k10 k11 hb
    rfl)
 have hlp : ps.length ≤ 100 := by rw [h.len]; exact hok.len
 generalize (a = b) = P at *
 generalize ((a.es = b.es ∧ a.ks = b.ks) ∧ a.c = b.c) = PC at *
 obtain ⟨kind, fr, tt, v0, v1, v2, v3, bs, es, ks, c⟩ := a
 obtain ⟨kind', fr', tt', v0', v1', v2', v3', bs', es', ks', c'⟩ := b
 dsimp only at HD
 dsimp only [MsgD.ag]
 obtain ⟨a0, c0, a1, c1, a2, c2, rfl, rfl, rfl⟩ := h.cau.shape
 obtain ⟨b0, d0, b1, d1, b2, d2, rfl, rfl, rfl⟩ := g.cau.shape
 have hrd := h.bs.rd
 have grd := g.bs.rd
 obtain ⟨al, cl, rfl⟩ := h.bs.rd.sl
 obtain ⟨bl, dl, rfl⟩ := g.bs.rd.sl
 have HH := Lib.hid hrd; clear hrd
 have GG := Lib.hid grd; clear grd
 clear h g hok gok hoe goe
 (try dsimp only at HCS)
 have HBX := Lib.hid (fun W f => pair11r w (.int .i64 kind) (.int .i64 fr) (.int .i64 tt) (.int .i64 v0) (.int .i64 v1) (.int .i64 v2) (.int .i64 v3) (.slice al ps.length cl) (.slice a0 es.length c0) (.slice a1 ks.len c1) (.slice a2 c.length c2) (.int .i64 kind') (.int .i64 fr') (.int .i64 tt') (.int .i64 v0') (.int .i64 v1') (.int .i64 v2') (.int .i64 v3') (.slice bl qs.length dl) (.slice b0 es'.length d0) (.slice b1 ks'.len d1) (.slice b2 c'.length d2) 34 W f)
 (try dsimp only at HBX)
 have HAT := Lib.hid (fun j (hj : j < ps.length) => allF_here (f := eqf) (ps := ps) (qs := qs) hj)
 have HAL := Lib.hid (fun (hj : ∀ j, j < ps.length → eqf (ps.getD j BunP.zero) (qs.getD j BunP.zero) = true) => allF_true.2 hj)
 generalize allF eqf ps qs = R at *
 generalize hn : ps.length = ln at *
 have HN := Lib.hid hn; clear hn
 generalize hn2 : qs.length = ln' at *
 have HN2 := Lib.hid hn2; clear hn2
 generalize es.length = n at *
 generalize ks.len = m at *
 generalize c.length = k at *
 generalize es'.length = n' at *
 generalize ks'.len = m' at *
 generalize c'.length = k' at *
 have HFA := Lib.hid (show Frm NoS w ((w.alloc (.cells #[.int .i64 kind, .int .i64 fr, .int .i64 tt, .int .i64 v0, .int .i64 v1, .int .i64 v2, .int .i64 v3, .slice al ln cl, .slice a0 n c0, .slice a1 m c1, .slice a2 k c2] 34)).alloc (.cells #[.int .i64 kind', .int .i64 fr', .int .i64 tt', .int .i64 v0', .int .i64 v1', .int .i64 v2', .int .i64 v3', .slice bl ln' dl, .slice b0 n' d0, .slice b1 m' d1, .slice b2 k' d2] 34)) from (Frm.alloc _ _ _).then1 (Frm.alloc _ _ _))
 by_cases h1 : kind = kind'
 rotate_left 1
 · rw [tf_false (show ¬ P from fun h => h1 (HD.out.1 h).1)]
   have h1' : ((kind : Int) == kind') = false := beq_false_of_ne h1
   have h1'' : ((kind : Int) != kind') = true := by rw [bne, h1']; rfl
   clear HD h1
   go_enter Tryz.func17, Tryz.ntmps17
   go_wp2
   go_ret
   exact ⟨rfl, HFA.out⟩
 subst h1
 by_cases h2 : fr = fr'
 rotate_left 1
 · rw [tf_false (show ¬ P from fun h => h2 (HD.out.1 h).2.1)]
   have h1' : ((fr : Int) == fr') = false := beq_false_of_ne h2
   have h1'' : ((fr : Int) != fr') = true := by rw [bne, h1']; rfl
   clear HD h2
   go_enter Tryz.func17, Tryz.ntmps17
   go_wp2
   go_ret
   exact ⟨rfl, HFA.out⟩
 subst h2
 by_cases h3 : tt = tt'
 rotate_left 1
 · rw [tf_false (show ¬ P from fun h => h3 (HD.out.1 h).2.2.1)]
   have h1' : ((tt : Int) == tt') = false := beq_false_of_ne h3
   have h1'' : ((tt : Int) != tt') = true := by rw [bne, h1']; rfl
   clear HD h3
   go_enter Tryz.func17, Tryz.ntmps17
   go_wp2
   go_ret
   exact ⟨rfl, HFA.out⟩
 subst h3
 by_cases h4 : v0 = v0' ∧ v1 = v1' ∧ v2 = v2' ∧ v3 = v3'
 rotate_left 1
 · rw [tf_false (show ¬ P from fun h => h4 (HD.out.1 h).2.2.2.1)]
   have hve := vec_ne_true h4
   clear HD h4
   go_enter Tryz.func17, Tryz.ntmps17
   go_wp2
   go_ret
   exact ⟨rfl, HFA.out⟩
 obtain ⟨rfl, rfl, rfl, rfl⟩ := h4
 have hve := vec_ne_false v0 v1 v2 v3
 by_cases h5 : ln = ln'
 rotate_left 1
 · rw [tf_false (show ¬ P from fun h => h5 (HD.out.1 h).2.2.2.2.1)]
   have h5'' : ¬ ((ln : Int) = (ln' : Int)) := by omega
   have h5' : ((ln : Int) == (ln' : Int)) = false := beq_false_of_ne h5''
   have h5a : ((ln : Int) != (ln' : Int)) = true := by rw [bne, h5']; rfl
   clear HD h5 h5''
   go_enter Tryz.func17, Tryz.ntmps17
   go_wp2
   go_ret
   exact ⟨rfl, HFA.out⟩
 subst h5
 by_cases h6 : PC
 rotate_left 1
 · rw [tf_false (show ¬ P from fun h => h6 (HD.out.1 h).2.2.2.2.2.1)]
   rw [tf_false h6] at HCS
   clear HD h6
   go_enter Tryz.func17, Tryz.ntmps17
   go_wp2_with (first
    | (go_at_call 39; refine (HCS.out _ HFA.out).mono ?_; rintro e w1 ⟨rfl, hw1⟩; obtain ⟨⟨y0, y1, y2, y3, y4, y5, y6, y7, y8, y9, y10⟩, z0, z1, z2, z3, z4, z5, z6, z7, z8, z9, z10⟩ := HBX.out w1 hw1; have hlb := World.block_lt_of_cell? _ _ y0; have hlc := World.block_lt_of_cell? _ _ z0; have HW1 := Lib.hid hw1; clear hw1))
   go_ret
   exact ⟨rfl, HFA.out.then1 HW1.out⟩
 rw [tf_true h6] at HCS
 rw [show tf P = R from by
  cases R with
  | true => exact tf_true (HD.out.2 ⟨rfl, rfl, rfl, ⟨rfl, rfl, rfl, rfl⟩, rfl, h6, rfl⟩)
  | false => exact tf_false fun h => by have := (HD.out.1 h).2.2.2.2.2.2; cases this]
 clear HD h6
 go_enter Tryz.func17, Tryz.ntmps17
 go_wp2_with (go_at_call 39; refine (HCS.out _ HFA.out).mono ?_; rintro e w1 ⟨rfl, hw1⟩; obtain ⟨⟨y0, y1, y2, y3, y4, y5, y6, y7, y8, y9, y10⟩, z0, z1, z2, z3, z4, z5, z6, z7, z8, z9, z10⟩ := HBX.out w1 hw1; have hlb := World.block_lt_of_cell? _ _ y0; have hlc := World.block_lt_of_cell? _ _ z0; have HW1 := Lib.hid hw1; clear hw1)
 clear y0 y1 y2 y3 y4 y5 y6 y7 y8 y9 y10 z0 z1 z2 z3 z4 z5 z6 z7 z8 z9 z10 hlb hlc
 go_loopw [52] (fun i W => ∃ q : Nat, q ≤ ln ∧ i = .int .i64 q ∧ (∀ j, j < q → eqf (ps.getD j BunP.zero) (qs.getD j BunP.zero) = true) ∧ Frm NoS ((w.alloc (.cells #[.int .i64 kind, .int .i64 fr, .int .i64 tt, .int .i64 v0, .int .i64 v1, .int .i64 v2, .int .i64 v3, .slice al ln cl, .slice a0 n c0, .slice a1 m c1, .slice a2 k c2] 34)).alloc (.cells #[.int .i64 kind, .int .i64 fr, .int .i64 tt, .int .i64 v0, .int .i64 v1, .int .i64 v2, .int .i64 v3, .slice bl ln dl, .slice b0 n' d0, .slice b1 m' d1, .slice b2 k' d2] 34)) W) (fun i _ => ln - (intOf i).toNat)
 case atStart => exact ⟨0, Nat.zero_le _, rfl, fun j hj => absurd hj (Nat.not_lt_zero _), HW1.out⟩
 case round =>
  obtain ⟨q, hq, rfl, ha, hw⟩ := hrel
  have HAN := Lib.hid ha; clear ha
  have HW := Lib.hid hw; clear hw
  clear HW1
  obtain ⟨⟨y0, y1, y2, y3, y4, y5, y6, y7, y8, y9, y10⟩, z0, z1, z2, z3, z4, z5, z6, z7, z8, z9, z10⟩ := HBX.out wr HW.out; have hlb := World.block_lt_of_cell? _ _ y0; have hlc := World.block_lt_of_cell? _ _ z0
  by_cases hlt : q < ln
  · have hlk : q < ps.length := by rw [HN.out]; exact hlt
    have hlq : q < qs.length := by rw [HN2.out]; exact hlt
    have hrd := HH.out.keep0 (HFA.out.then1 HW.out)
    have grd := GG.out.keep0 (HFA.out.then1 HW.out)
    rcases Rd.shape hrd with ⟨ad, he, h0⟩ | ⟨e, off, cc, he, hmax⟩
    · exfalso; omega
    rcases Rd.shape grd with ⟨ad, he', h0⟩ | ⟨e', off', cc', he', hmax'⟩
    · exfalso; omega
    injection he with e1 e2 e3
    subst e1 e3
    clear e2
    injection he' with e1 e2 e3
    subst e1 e3
    clear e2
    obtain ⟨q0, q1, q2, q3, q4, q5, q6, q7, q8, q9⟩ := bun_at hrd q hlk
    obtain ⟨r0, r1, r2, r3, r4, r5, r6, r7, r8, r9⟩ := bun_at grd q hlq
    clear hrd grd
    have hm := getD_mem BunP.zero hlk
    have gm := getD_mem BunP.zero hlq
    have hbc := HB.out _ hm _ gm
    have hsh := HSH.out _ hm
    have gsh := GSH.out _ gm
    have hat := HAT.out q hlt
    have HST := Lib.hid (fun (he : eqf (ps.getD q BunP.zero) (qs.getD q BunP.zero) = true) => (show ∀ j, j < q + 1 → eqf (ps.getD j BunP.zero) (qs.getD j BunP.zero) = true from fun j hj => by
     rcases Nat.lt_or_ge j q with h | h
     · exact HAN.out j h
     · rw [show j = q by omega]; exact he))
    clear hm gm
    generalize eqf (ps.getD q BunP.zero) (qs.getD q BunP.zero) = y at *
    obtain ⟨p, hgd⟩ : ∃ p, p = ps.getD q BunP.zero := ⟨_, rfl⟩
    obtain ⟨o, ggd⟩ : ∃ o, o = qs.getD q BunP.zero := ⟨_, rfl⟩
    rw [← hgd] at q0 q1 q2 q3 q4 q5 q6 q7 q8 q9 hsh
    rw [← ggd] at r0 r1 r2 r3 r4 r5 r6 r7 r8 r9 gsh
    rw [← hgd, ← ggd] at hbc
    clear hgd ggd
    obtain ⟨⟨dc, af, la, u0, u1, u2, u3, e3s, k3s, c3s⟩, ev', kv', cv'⟩ := p
    obtain ⟨⟨dd, ag, lb, x0, x1, x2, x3, ep, kp, cp⟩, ew, kw, cw⟩ := o
    dsimp only at q0 q1 q2 q3 q4 q5 q6 q7 q8 q9 r0 r1 r2 r3 r4 r5 r6 r7 r8 r9 hbc hsh gsh
    obtain ⟨a3, c3, a4, c4, a5, c5, rfl, rfl, rfl⟩ := hsh
    obtain ⟨b3, d3, b4, d4, b5, d5, rfl, rfl, rfl⟩ := gsh
    have HBC := Lib.hid hbc; clear hbc
    have HTN := Lib.hid hat; clear hat
    generalize e3s.length = n1 at *
    generalize k3s.len = n2 at *
    generalize c3s.length = n3 at *
    generalize ep.length = n4 at *
    generalize kp.len = n5 at *
    generalize cp.length = n6 at *
    cases y with
    | false =>
     have HTF := Lib.hid (HTN.out rfl)
     clear HTN HST
     obtain ⟨α, hne, K, hK1, hK0, hK2⟩ := worlds wr
     have HFK := Lib.hid (fun s => HW.out.then1 (hK1 s))
     go_wp2_with fail
     have kq := fun s => (⟨(hK1 s).cell' y7 id, (hK1 s).cell' z7 id, (hK1 s).cell' q0 id, (hK1 s).cell' q1 id, (hK1 s).cell' q2 id, (hK1 s).cell' q3 id, (hK1 s).cell' q4 id, (hK1 s).cell' q5 id, (hK1 s).cell' q6 id, (hK1 s).cell' q7 id, (hK1 s).cell' q8 id, (hK1 s).cell' q9 id, (hK1 s).cell' r0 id, (hK1 s).cell' r1 id, (hK1 s).cell' r2 id, (hK1 s).cell' r3 id, (hK1 s).cell' r4 id, (hK1 s).cell' r5 id, (hK1 s).cell' r6 id, (hK1 s).cell' r7 id, (hK1 s).cell' r8 id, (hK1 s).cell' r9 id⟩ : (K s).cell? ⟨w.heap.size, 7, none⟩ = some (.slice (some ⟨e, off, none⟩) ln cl) ∧ (K s).cell? ⟨w.heap.size + 1, 7, none⟩ = some (.slice (some ⟨e', off', none⟩) ln dl) ∧ (K s).cell? ⟨e, off + q * 10, none⟩ = some (.int .i64 dc) ∧ (K s).cell? ⟨e, off + q * 10 + 1, none⟩ = some (.int .i64 af) ∧ (K s).cell? ⟨e, off + q * 10 + 2, none⟩ = some (.int .i64 la) ∧ (K s).cell? ⟨e, off + q * 10 + 3, none⟩ = some (.int .i64 u0) ∧ (K s).cell? ⟨e, off + q * 10 + 4, none⟩ = some (.int .i64 u1) ∧ (K s).cell? ⟨e, off + q * 10 + 5, none⟩ = some (.int .i64 u2) ∧ (K s).cell? ⟨e, off + q * 10 + 6, none⟩ = some (.int .i64 u3) ∧ (K s).cell? ⟨e, off + q * 10 + 7, none⟩ = some (.slice a3 n1 c3) ∧ (K s).cell? ⟨e, off + q * 10 + 8, none⟩ = some (.slice a4 n2 c4) ∧ (K s).cell? ⟨e, off + q * 10 + 9, none⟩ = some (.slice a5 n3 c5) ∧ (K s).cell? ⟨e', off' + q * 10, none⟩ = some (.int .i64 dd) ∧ (K s).cell? ⟨e', off' + q * 10 + 1, none⟩ = some (.int .i64 ag) ∧ (K s).cell? ⟨e', off' + q * 10 + 2, none⟩ = some (.int .i64 lb) ∧ (K s).cell? ⟨e', off' + q * 10 + 3, none⟩ = some (.int .i64 x0) ∧ (K s).cell? ⟨e', off' + q * 10 + 4, none⟩ = some (.int .i64 x1) ∧ (K s).cell? ⟨e', off' + q * 10 + 5, none⟩ = some (.int .i64 x2) ∧ (K s).cell? ⟨e', off' + q * 10 + 6, none⟩ = some (.int .i64 x3) ∧ (K s).cell? ⟨e', off' + q * 10 + 7, none⟩ = some (.slice b3 n4 d3) ∧ (K s).cell? ⟨e', off' + q * 10 + 8, none⟩ = some (.slice b4 n5 d4) ∧ (K s).cell? ⟨e', off' + q * 10 + 9, none⟩ = some (.slice b5 n6 d5))
     have k0 := fun s => (kq s).1
     have k1 := fun s => (kq s).2.1
     have k2 := fun s => (kq s).2.2.1
     have k3 := fun s => (kq s).2.2.2.1
     have k4 := fun s => (kq s).2.2.2.2.1
     have k5 := fun s => (kq s).2.2.2.2.2.1
     have k6 := fun s => (kq s).2.2.2.2.2.2.1
     have k7 := fun s => (kq s).2.2.2.2.2.2.2.1
     have k8 := fun s => (kq s).2.2.2.2.2.2.2.2.1
     have k9 := fun s => (kq s).2.2.2.2.2.2.2.2.2.1
     have k10 := fun s => (kq s).2.2.2.2.2.2.2.2.2.2.1
     have k11 := fun s => (kq s).2.2.2.2.2.2.2.2.2.2.2.1
     have k12 := fun s => (kq s).2.2.2.2.2.2.2.2.2.2.2.2.1
     have k13 := fun s => (kq s).2.2.2.2.2.2.2.2.2.2.2.2.2.1
     have k14 := fun s => (kq s).2.2.2.2.2.2.2.2.2.2.2.2.2.2.1
     have k15 := fun s => (kq s).2.2.2.2.2.2.2.2.2.2.2.2.2.2.2.1
     have k16 := fun s => (kq s).2.2.2.2.2.2.2.2.2.2.2.2.2.2.2.2.1
     have k17 := fun s => (kq s).2.2.2.2.2.2.2.2.2.2.2.2.2.2.2.2.2.1
     have k18 := fun s => (kq s).2.2.2.2.2.2.2.2.2.2.2.2.2.2.2.2.2.2.1
     have k19 := fun s => (kq s).2.2.2.2.2.2.2.2.2.2.2.2.2.2.2.2.2.2.2.1
     have k20 := fun s => (kq s).2.2.2.2.2.2.2.2.2.2.2.2.2.2.2.2.2.2.2.2.1
     have k21 := fun s => (kq s).2.2.2.2.2.2.2.2.2.2.2.2.2.2.2.2.2.2.2.2.2
     clear kq hK1 y0 y1 y2 y3 y4 y5 y6 y7 y8 y9 y10 z0 z1 z2 z3 z4 z5 z6 z7 z8 z9 z10 hlb hlc q0 q1 q2 q3 q4 q5 q6 q7 q8 q9 r0 r1 r2 r3 r4 r5 r6 r7 r8 r9
     refine wp_region_new K (by kernel_rfl) (by kernel_rfl) hK0 ?_
     repeat (go_big_quiet_step ((go_at_call 59; exact Calls.in_class hK2 (HBC.out _ (HFA.out.then1 (HFK.out _))))))
     refine wpQuiet_nil ?_
     intro w' hw'
     obtain ⟨s, rfl⟩ := hw'
     have HF1 := Lib.hid (HFK.out s)
     go_wp2
     go_ret
     exact ⟨by rw [HTF.out]; rfl, HFA.out.then1 HF1.out⟩
    | true =>
     have HSX := Lib.hid (HST.out rfl)
     clear HTN HST
     obtain ⟨α, hne, K, hK1, hK0, hK2⟩ := worlds wr
     have HFK := Lib.hid (fun s => HW.out.then1 (hK1 s))
     go_wp2_with fail
     have kq := fun s => (⟨(hK1 s).cell' y7 id, (hK1 s).cell' z7 id, (hK1 s).cell' q0 id, (hK1 s).cell' q1 id, (hK1 s).cell' q2 id, (hK1 s).cell' q3 id, (hK1 s).cell' q4 id, (hK1 s).cell' q5 id, (hK1 s).cell' q6 id, (hK1 s).cell' q7 id, (hK1 s).cell' q8 id, (hK1 s).cell' q9 id, (hK1 s).cell' r0 id, (hK1 s).cell' r1 id, (hK1 s).cell' r2 id, (hK1 s).cell' r3 id, (hK1 s).cell' r4 id, (hK1 s).cell' r5 id, (hK1 s).cell' r6 id, (hK1 s).cell' r7 id, (hK1 s).cell' r8 id, (hK1 s).cell' r9 id⟩ : (K s).cell? ⟨w.heap.size, 7, none⟩ = some (.slice (some ⟨e, off, none⟩) ln cl) ∧ (K s).cell? ⟨w.heap.size + 1, 7, none⟩ = some (.slice (some ⟨e', off', none⟩) ln dl) ∧ (K s).cell? ⟨e, off + q * 10, none⟩ = some (.int .i64 dc) ∧ (K s).cell? ⟨e, off + q * 10 + 1, none⟩ = some (.int .i64 af) ∧ (K s).cell? ⟨e, off + q * 10 + 2, none⟩ = some (.int .i64 la) ∧ (K s).cell? ⟨e, off + q * 10 + 3, none⟩ = some (.int .i64 u0) ∧ (K s).cell? ⟨e, off + q * 10 + 4, none⟩ = some (.int .i64 u1) ∧ (K s).cell? ⟨e, off + q * 10 + 5, none⟩ = some (.int .i64 u2) ∧ (K s).cell? ⟨e, off + q * 10 + 6, none⟩ = some (.int .i64 u3) ∧ (K s).cell? ⟨e, off + q * 10 + 7, none⟩ = some (.slice a3 n1 c3) ∧ (K s).cell? ⟨e, off + q * 10 + 8, none⟩ = some (.slice a4 n2 c4) ∧ (K s).cell? ⟨e, off + q * 10 + 9, none⟩ = some (.slice a5 n3 c5) ∧ (K s).cell? ⟨e', off' + q * 10, none⟩ = some (.int .i64 dd) ∧ (K s).cell? ⟨e', off' + q * 10 + 1, none⟩ = some (.int .i64 ag) ∧ (K s).cell? ⟨e', off' + q * 10 + 2, none⟩ = some (.int .i64 lb) ∧ (K s).cell? ⟨e', off' + q * 10 + 3, none⟩ = some (.int .i64 x0) ∧ (K s).cell? ⟨e', off' + q * 10 + 4, none⟩ = some (.int .i64 x1) ∧ (K s).cell? ⟨e', off' + q * 10 + 5, none⟩ = some (.int .i64 x2) ∧ (K s).cell? ⟨e', off' + q * 10 + 6, none⟩ = some (.int .i64 x3) ∧ (K s).cell? ⟨e', off' + q * 10 + 7, none⟩ = some (.slice b3 n4 d3) ∧ (K s).cell? ⟨e', off' + q * 10 + 8, none⟩ = some (.slice b4 n5 d4) ∧ (K s).cell? ⟨e', off' + q * 10 + 9, none⟩ = some (.slice b5 n6 d5))
     have k0 := fun s => (kq s).1
     have k1 := fun s => (kq s).2.1
     have k2 := fun s => (kq s).2.2.1
     have k3 := fun s => (kq s).2.2.2.1
     have k4 := fun s => (kq s).2.2.2.2.1
     have k5 := fun s => (kq s).2.2.2.2.2.1
     have k6 := fun s => (kq s).2.2.2.2.2.2.1
     have k7 := fun s => (kq s).2.2.2.2.2.2.2.1
     have k8 := fun s => (kq s).2.2.2.2.2.2.2.2.1
     have k9 := fun s => (kq s).2.2.2.2.2.2.2.2.2.1
     have k10 := fun s => (kq s).2.2.2.2.2.2.2.2.2.2.1
     have k11 := fun s => (kq s).2.2.2.2.2.2.2.2.2.2.2.1
     have k12 := fun s => (kq s).2.2.2.2.2.2.2.2.2.2.2.2.1
     have k13 := fun s => (kq s).2.2.2.2.2.2.2.2.2.2.2.2.2.1
     have k14 := fun s => (kq s).2.2.2.2.2.2.2.2.2.2.2.2.2.2.1
     have k15 := fun s => (kq s).2.2.2.2.2.2.2.2.2.2.2.2.2.2.2.1
     have k16 := fun s => (kq s).2.2.2.2.2.2.2.2.2.2.2.2.2.2.2.2.1
     have k17 := fun s => (kq s).2.2.2.2.2.2.2.2.2.2.2.2.2.2.2.2.2.1
     have k18 := fun s => (kq s).2.2.2.2.2.2.2.2.2.2.2.2.2.2.2.2.2.2.1
     have k19 := fun s => (kq s).2.2.2.2.2.2.2.2.2.2.2.2.2.2.2.2.2.2.2.1
     have k20 := fun s => (kq s).2.2.2.2.2.2.2.2.2.2.2.2.2.2.2.2.2.2.2.2.1
     have k21 := fun s => (kq s).2.2.2.2.2.2.2.2.2.2.2.2.2.2.2.2.2.2.2.2.2
     clear kq hK1 y0 y1 y2 y3 y4 y5 y6 y7 y8 y9 y10 z0 z1 z2 z3 z4 z5 z6 z7 z8 z9 z10 hlb hlc q0 q1 q2 q3 q4 q5 q6 q7 q8 q9 r0 r1 r2 r3 r4 r5 r6 r7 r8 r9
     refine wp_region_new K (by kernel_rfl) (by kernel_rfl) hK0 ?_
     repeat (go_big_quiet_step ((go_at_call 59; exact Calls.in_class hK2 (HBC.out _ (HFA.out.then1 (HFK.out _))))))
     refine wpQuiet_nil ?_
     intro w' hw'
     obtain ⟨s, rfl⟩ := hw'
     have HF1 := Lib.hid (HFK.out s)
     go_wp2
     go_roundw
     case rel => exact ⟨q + 1, by omega, by go_num, HSX.out, HF1.out⟩
     case measure => simp [intOf]; omega
  · obtain rfl : ln = q := by omega
    have hall := HAL.out HAN.out
    have HALL := Lib.hid hall
    clear hall hlt hq
    go_wp2
    go_ret
    exact ⟨by rw [HALL.out]; rfl, HFA.out.then1 HW.out⟩
end Go.Proofs.YtcahemkomfaabaaGreat
