/- Words for the law MsgSet: MsgB, MsgC0, CrcP, MsgP, SmallT, MsgS. -/
import Derived.Test.YtcahemkomfaabaaGreatMsgSetG6
import Derived.Test.YtcahemkomfaabaaGreatMsgSetG10
import Derived.Test.YtcahemkomfaabaaGreatMsgSetG12
import Derived.Test.YtcahemkomfaabaaGreatMsgSetG16
import Derived.Test.YtcahemkomfaabaaGreatMsgSetG17
set_option linter.unusedSimpArgs false
set_option linter.unusedVariables false
set_option maxHeartbeats 32000000
set_option maxRecDepth 1000000
namespace Go.Proofs.YtcahemkomfaabaaGreat
open Go.RowKit
theorem box11 (w : World) (u0 u1 u2 u3 u4 u5 u6 u7 u8 u9 u10 : Value) (T : TypeId) (W : World) (f : Frm NoS (w.alloc (.cells #[u0, u1, u2, u3, u4, u5, u6, u7, u8, u9, u10] T)) W) : W.cell? ⟨w.heap.size, 0, none⟩ = some u0 ∧ W.cell? ⟨w.heap.size, 1, none⟩ = some u1 ∧ W.cell? ⟨w.heap.size, 2, none⟩ = some u2 ∧ W.cell? ⟨w.heap.size, 3, none⟩ = some u3 ∧ W.cell? ⟨w.heap.size, 4, none⟩ = some u4 ∧ W.cell? ⟨w.heap.size, 5, none⟩ = some u5 ∧ W.cell? ⟨w.heap.size, 6, none⟩ = some u6 ∧ W.cell? ⟨w.heap.size, 7, none⟩ = some u7 ∧ W.cell? ⟨w.heap.size, 8, none⟩ = some u8 ∧ W.cell? ⟨w.heap.size, 9, none⟩ = some u9 ∧ W.cell? ⟨w.heap.size, 10, none⟩ = some u10 :=
 ⟨f.cell' (cell_at' (heap_alloc_new w _) 0 rfl) id, f.cell' (cell_at' (heap_alloc_new w _) 1 rfl) id, f.cell' (cell_at' (heap_alloc_new w _) 2 rfl) id, f.cell' (cell_at' (heap_alloc_new w _) 3 rfl) id, f.cell' (cell_at' (heap_alloc_new w _) 4 rfl) id, f.cell' (cell_at' (heap_alloc_new w _) 5 rfl) id, f.cell' (cell_at' (heap_alloc_new w _) 6 rfl) id, f.cell' (cell_at' (heap_alloc_new w _) 7 rfl) id, f.cell' (cell_at' (heap_alloc_new w _) 8 rfl) id, f.cell' (cell_at' (heap_alloc_new w _) 9 rfl) id, f.cell' (cell_at' (heap_alloc_new w _) 10 rfl) id⟩
def StOk (v0 v1 v2 v3 : Int) (es : List Ent) (ks : KidsL) (c : CtxL) : Prop := CauRight es ks c ∧ solK c 4 = true ∧ (frV c 0 = v0 ∧ frV c 1 = v1 ∧ frV c 2 = v2 ∧ frV c 3 = v3) ∧ es = []
theorem mstate_any (Q : Nat → Prop) (es : List Ent) (ks : KidsL) (c : CtxL) (w : World) (kind fr to' v0 v1 v2 v3 : Int) (lv ev kv cv : Value) (hlv : ∃ a n c, lv = .slice a n c) (h : CauAt Q w ev kv cv es ks c) (hok : CauOk es ks c) :
 Calls Tryz.prog 35 #[.agg #[.int .i64 kind, .int .i64 fr, .int .i64 to', .int .i64 v0, .int .i64 v1, .int .i64 v2, .int .i64 v3, lv, ev, kv, cv]] w fun e w' => e = .returned (.bool (tf (StOk v0 v1 v2 v3 es ks c))) ∧ Frm NoS w w' := by
 obtain ⟨a0, c0, a1, c1, a2, c2, rfl, rfl, rfl⟩ := h.shape
 obtain ⟨al, nl, cl, rfl⟩ := hlv
 have HT := Lib.hid (fun W (f : Frm NoS w W) => caRight_any Q es ks c W _ _ _ (h.keep0 f) hok)
 have HBX := Lib.hid (show ∀ W, Frm NoS (w.alloc (.cells #[.int .i64 kind, .int .i64 fr, .int .i64 to', .int .i64 v0, .int .i64 v1, .int .i64 v2, .int .i64 v3, .slice al nl cl, .slice a0 es.length c0, .slice a1 ks.len c1, .slice a2 c.length c2] 40)) W → W.cell? ⟨w.heap.size, 3, none⟩ = some (.int .i64 v0) ∧ W.cell? ⟨w.heap.size, 4, none⟩ = some (.int .i64 v1) ∧ W.cell? ⟨w.heap.size, 5, none⟩ = some (.int .i64 v2) ∧ W.cell? ⟨w.heap.size, 6, none⟩ = some (.int .i64 v3) ∧ W.cell? ⟨w.heap.size, 8, none⟩ = some (.slice a0 es.length c0) ∧ W.cell? ⟨w.heap.size, 9, none⟩ = some (.slice a1 ks.len c1) ∧ W.cell? ⟨w.heap.size, 10, none⟩ = some (.slice a2 c.length c2) from fun W f => by
  obtain ⟨_, _, _, y3, y4, y5, y6, _, y8, y9, y10⟩ := box11 w _ _ _ _ _ _ _ _ _ _ _ _ W f
  exact ⟨y3, y4, y5, y6, y8, y9, y10⟩)
 by_cases hr : CauRight es ks c
 rotate_left 1
 · rw [tf_false hr] at HT
   rw [tf_false (show ¬ StOk v0 v1 v2 v3 es ks c from fun h => hr h.1)]
   clear hr h hok
   generalize es.length = n at *
   generalize ks.len = m at *
   generalize c.length = k at *
   obtain ⟨α, hne, K, hK1, hK0, hK2⟩ := worlds (w.alloc (.cells #[.int .i64 kind, .int .i64 fr, .int .i64 to', .int .i64 v0, .int .i64 v1, .int .i64 v2, .int .i64 v3, .slice al nl cl, .slice a0 n c0, .slice a1 m c1, .slice a2 k c2] 40))
   have HFK := Lib.hid (fun s => (Frm.alloc NoS w _).then1 (hK1 s))
   have kb := fun s => HBX.out (K s) (hK1 s)
   have k0 := fun s => (kb s).1
   have k1 := fun s => (kb s).2.1
   have k2 := fun s => (kb s).2.2.1
   have k3 := fun s => (kb s).2.2.2.1
   have k4 := fun s => (kb s).2.2.2.2.1
   have k5 := fun s => (kb s).2.2.2.2.2.1
   have k6 := fun s => (kb s).2.2.2.2.2.2
   clear kb hK1
   go_enter Tryz.func35, Tryz.ntmps35
   go_wp2_with fail
   refine wp_region_new K (by kernel_rfl) (by kernel_rfl) hK0 ?_
   repeat (go_big_quiet_step ((first | (go_at_call 79; exact Calls.in_class hK2 (HT.out _ (HFK.out _))))))
   refine wpQuiet_nil ?_
   intro w' hw'
   obtain ⟨s, rfl⟩ := hw'
   go_wp2
   go_ret
   exact ⟨rfl, HFK.out s⟩
 rw [tf_true hr] at HT
 have HSO := Lib.hid (fun W (f : Frm NoS w W) => cSolid_any W _ c (Rd.keep0 h.ctx f) hr.ctx (by have := hok.len; omega))
 cases hs : solK c 4
 · rw [hs] at HSO
   rw [tf_false (show ¬ StOk v0 v1 v2 v3 es ks c from fun h => by rw [h.2.1] at hs; cases hs)]
   clear hr h hok hs
   generalize es.length = n at *
   generalize ks.len = m at *
   generalize c.length = k at *
   obtain ⟨α, hne, K, hK1, hK0, hK2⟩ := worlds (w.alloc (.cells #[.int .i64 kind, .int .i64 fr, .int .i64 to', .int .i64 v0, .int .i64 v1, .int .i64 v2, .int .i64 v3, .slice al nl cl, .slice a0 n c0, .slice a1 m c1, .slice a2 k c2] 40))
   have HFK := Lib.hid (fun s => (Frm.alloc NoS w _).then1 (hK1 s))
   have kb := fun s => HBX.out (K s) (hK1 s)
   have k0 := fun s => (kb s).1
   have k1 := fun s => (kb s).2.1
   have k2 := fun s => (kb s).2.2.1
   have k3 := fun s => (kb s).2.2.2.1
   have k4 := fun s => (kb s).2.2.2.2.1
   have k5 := fun s => (kb s).2.2.2.2.2.1
   have k6 := fun s => (kb s).2.2.2.2.2.2
   clear kb hK1
   go_enter Tryz.func35, Tryz.ntmps35
   go_wp2_with fail
   refine wp_region_new K (by kernel_rfl) (by kernel_rfl) hK0 ?_
   repeat (go_big_quiet_step ((first | (go_at_call 79; exact Calls.in_class hK2 (HT.out _ (HFK.out _))) | (go_at_call 90; exact Calls.in_class hK2 (HSO.out _ (HFK.out _))))))
   refine wpQuiet_nil ?_
   intro w' hw'
   obtain ⟨s, rfl⟩ := hw'
   go_wp2
   go_ret
   exact ⟨rfl, HFK.out s⟩
 rw [hs] at HSO
 have HV := Lib.hid (fun W (f : Frm NoS w W) => cVector_any W _ c (Rd.keep0 h.ctx f) hr.ctx (by have := hok.len; omega))
 have hvc : vecC (fun d => frontL (partL c d)) = #[.int .i64 (frV c 0), .int .i64 (frV c 1), .int .i64 (frV c 2), .int .i64 (frV c 3)] := rfl
 rw [hvc] at HV
 clear hvc
 have hve := vec_eql (frV c 0) (frV c 1) (frV c 2) (frV c 3) v0 v1 v2 v3
 by_cases hv : frV c 0 = v0 ∧ frV c 1 = v1 ∧ frV c 2 = v2 ∧ frV c 3 = v3
 rotate_left 1
 · rw [show ((frV c 0 == v0) && ((frV c 1 == v1) && ((frV c 2 == v2) && (frV c 3 == v3)))) = false by
    rw [Bool.eq_false_iff]
    intro hh
    simp only [Bool.and_eq_true, beq_iff_eq] at hh
    exact hv hh] at hve
   rw [tf_false (show ¬ StOk v0 v1 v2 v3 es ks c from fun h => hv h.2.2.1)]
   clear hr h hok hs hv
   generalize frV c 0 = f0 at *
   generalize frV c 1 = f1 at *
   generalize frV c 2 = f2 at *
   generalize frV c 3 = f3 at *
   generalize es.length = n at *
   generalize ks.len = m at *
   generalize c.length = k at *
   obtain ⟨α, hne, K, hK1, hK0, hK2⟩ := worlds (w.alloc (.cells #[.int .i64 kind, .int .i64 fr, .int .i64 to', .int .i64 v0, .int .i64 v1, .int .i64 v2, .int .i64 v3, .slice al nl cl, .slice a0 n c0, .slice a1 m c1, .slice a2 k c2] 40))
   have HFK := Lib.hid (fun s => (Frm.alloc NoS w _).then1 (hK1 s))
   have kb := fun s => HBX.out (K s) (hK1 s)
   have k0 := fun s => (kb s).1
   have k1 := fun s => (kb s).2.1
   have k2 := fun s => (kb s).2.2.1
   have k3 := fun s => (kb s).2.2.2.1
   have k4 := fun s => (kb s).2.2.2.2.1
   have k5 := fun s => (kb s).2.2.2.2.2.1
   have k6 := fun s => (kb s).2.2.2.2.2.2
   clear kb hK1
   go_enter Tryz.func35, Tryz.ntmps35
   go_wp2_with fail
   refine wp_region_new K (by kernel_rfl) (by kernel_rfl) hK0 ?_
   repeat (go_big_quiet_step ((first | (go_at_call 79; exact Calls.in_class hK2 (HT.out _ (HFK.out _))) | (go_at_call 90; exact Calls.in_class hK2 (HSO.out _ (HFK.out _))) | (go_at_call 91; exact Calls.in_class hK2 (HV.out _ (HFK.out _))))))
   refine wpQuiet_nil ?_
   intro w' hw'
   obtain ⟨s, rfl⟩ := hw'
   go_wp2
   go_ret
   exact ⟨rfl, HFK.out s⟩
 rw [show ((frV c 0 == v0) && ((frV c 1 == v1) && ((frV c 2 == v2) && (frV c 3 == v3)))) = true by
  simp only [Bool.and_eq_true, beq_iff_eq]
  exact hv] at hve
 have HY := Lib.hid (show tf (StOk v0 v1 v2 v3 es ks c) = ((es.length : Int) == 0) by
  by_cases he : es = []
  · rw [tf_true (show StOk v0 v1 v2 v3 es ks c from ⟨hr, hs, hv, he⟩), he]; rfl
  · rw [tf_false (show ¬ StOk v0 v1 v2 v3 es ks c from fun h => he h.2.2.2)]
    exact (beq_false_of_ne (by
     have : 0 < es.length := List.length_pos_iff.2 he
     omega)).symm)
 clear hr h hok hs hv
 generalize tf (StOk v0 v1 v2 v3 es ks c) = y at *
 generalize frV c 0 = f0 at *
 generalize frV c 1 = f1 at *
 generalize frV c 2 = f2 at *
 generalize frV c 3 = f3 at *
 generalize es.length = n at *
 generalize ks.len = m at *
 generalize c.length = k at *
 obtain ⟨α, hne, K, hK1, hK0, hK2⟩ := worlds (w.alloc (.cells #[.int .i64 kind, .int .i64 fr, .int .i64 to', .int .i64 v0, .int .i64 v1, .int .i64 v2, .int .i64 v3, .slice al nl cl, .slice a0 n c0, .slice a1 m c1, .slice a2 k c2] 40))
 have HFK := Lib.hid (fun s => (Frm.alloc NoS w _).then1 (hK1 s))
 have kb := fun s => HBX.out (K s) (hK1 s)
 have k0 := fun s => (kb s).1
 have k1 := fun s => (kb s).2.1
 have k2 := fun s => (kb s).2.2.1
 have k3 := fun s => (kb s).2.2.2.1
 have k4 := fun s => (kb s).2.2.2.2.1
 have k5 := fun s => (kb s).2.2.2.2.2.1
 have k6 := fun s => (kb s).2.2.2.2.2.2
 clear kb hK1
 go_enter Tryz.func35, Tryz.ntmps35
 go_wp2_with fail
 refine wp_region_new K (by kernel_rfl) (by kernel_rfl) hK0 ?_
 repeat (go_big_quiet_step ((first | (go_at_call 79; exact Calls.in_class hK2 (HT.out _ (HFK.out _))) | (go_at_call 90; exact Calls.in_class hK2 (HSO.out _ (HFK.out _))) | (go_at_call 91; exact Calls.in_class hK2 (HV.out _ (HFK.out _))))))
 refine wpQuiet_nil ?_
 intro w' hw'
 obtain ⟨s, rfl⟩ := hw'
 go_wp2
 go_ret
 exact ⟨by rw [HY.out]; first | rfl | simp, HFK.out s⟩
def BareM (es : List Ent) (ks : KidsL) (c : CtxL) : Prop := c.length = 0 ∧ es.length = 0 ∧ ks.len = 0
def MsgBody (kind v0 v1 v2 v3 : Int) (bs : List BunP) (es : List Ent) (ks : KidsL) (c : CtxL) : Prop :=
 (kind = 1 ∧ BareM es ks c ∧ 1 ≤ bs.length ∧ bs.length ≤ 16 ∧ bs.any pW = false) ∨ (kind = 2 ∧ bs.length = 0 ∧ StOk v0 v1 v2 v3 es ks c) ∨ ((kind = 3 ∨ kind = 4) ∧ BareM es ks c ∧ bs.length = 0)
def MsgOk (kind fr tt v0 v1 v2 v3 : Int) (bs : List BunP) (es : List Ent) (ks : KidsL) (c : CtxL) : Prop :=
 MayV (vecF v0 v1 v2 v3) ∧ (0 ≤ fr ∧ fr < 4) ∧ (0 ≤ tt ∧ tt < 4) ∧ fr ≠ tt ∧ MsgBody kind v0 v1 v2 v3 bs es ks c
structure MCtx (P SP : Prop) (hv : Bool) (ln n m k : Nat) (kind fr tt v0 v1 v2 v3 : Int) (al a0 a1 a2 : Option Addr) (cl c0 c1 c2 : Nat) (w : World) : Prop where
 bh : ∀ W, Frm NoS w W → Calls Tryz.prog 32 #[.slice al ln cl, .func (.func 33) #[] #[]] W fun e w' => e = .returned (.bool hv) ∧ Frm NoS W w'
 st : ∀ W, Frm NoS w W → Calls Tryz.prog 35 #[.agg #[.int .i64 kind, .int .i64 fr, .int .i64 tt, .int .i64 v0, .int .i64 v1, .int .i64 v2, .int .i64 v3, .slice al ln cl, .slice a0 n c0, .slice a1 m c1, .slice a2 k c2]] W fun e w' => e = .returned (.bool (tf SP)) ∧ Frm NoS W w'
 fu : ∀ W, Calls Tryz.prog 30 #[.agg #[.int .i64 v0, .int .i64 v1, .int .i64 v2, .int .i64 v3]] W fun e w1 => Frm NoS W w1 ∧ ∃ av nv cv, e = .returned (.tuple #[.slice av nv cv, .int .i64 0])
 cn1 : ∀ W, Calls Tryz.prog 31 #[.int .i64 fr] W fun e w' => e = .returned (.bool true) ∧ w' = W
 cn2 : ∀ W, Calls Tryz.prog 31 #[.int .i64 tt] W fun e w' => e = .returned (.bool true) ∧ w' = W
 bx : ∀ W, Frm NoS (w.alloc (.cells #[.int .i64 kind, .int .i64 fr, .int .i64 tt, .int .i64 v0, .int .i64 v1, .int .i64 v2, .int .i64 v3, .slice al ln cl, .slice a0 n c0, .slice a1 m c1, .slice a2 k c2] 40)) W → W.cell? ⟨w.heap.size, 0, none⟩ = some (.int .i64 kind) ∧ W.cell? ⟨w.heap.size, 1, none⟩ = some (.int .i64 fr) ∧ W.cell? ⟨w.heap.size, 2, none⟩ = some (.int .i64 tt) ∧ W.cell? ⟨w.heap.size, 3, none⟩ = some (.int .i64 v0) ∧ W.cell? ⟨w.heap.size, 4, none⟩ = some (.int .i64 v1) ∧ W.cell? ⟨w.heap.size, 5, none⟩ = some (.int .i64 v2) ∧ W.cell? ⟨w.heap.size, 6, none⟩ = some (.int .i64 v3) ∧ W.cell? ⟨w.heap.size, 7, none⟩ = some (.slice al ln cl) ∧ W.cell? ⟨w.heap.size, 8, none⟩ = some (.slice a0 n c0) ∧ W.cell? ⟨w.heap.size, 9, none⟩ = some (.slice a1 m c1) ∧ W.cell? ⟨w.heap.size, 10, none⟩ = some (.slice a2 k c2)
 ne : fr ≠ tt
 hd : P ↔ ((kind = 1 ∧ (k = 0 ∧ n = 0 ∧ m = 0) ∧ 1 ≤ ln ∧ ln ≤ 16 ∧ hv = false) ∨ (kind = 2 ∧ ln = 0 ∧ SP) ∨ ((kind = 3 ∨ kind = 4) ∧ (k = 0 ∧ n = 0 ∧ m = 0) ∧ ln = 0))
end Go.Proofs.YtcahemkomfaabaaGreat
namespace Go.Proofs.YtcahemkomfaabaaGreat
open Go.RowKit
namespace Crc
def P : BitVec 32 := 0x82f63b78#32
def Q : BitVec 32 := 0x1edc6f41#32
def st (c : BitVec 32) : BitVec 32 := if c.getLsbD 0 = true then (c >>> 1) ^^^ P else c >>> 1
def stN : Nat → BitVec 32 → BitVec 32
 | 0, c => c
 | n + 1, c => st (stN n c)
def add (c : BitVec 32) (b : UInt8) : BitVec 32 := stN 8 (c ^^^ BitVec.ofNat 32 b.toNat)
def all (c : BitVec 32) (l : List UInt8) : BitVec 32 := l.foldl add c
def crc (l : List UInt8) : BitVec 32 := all (BitVec.allOnes 32) l ^^^ BitVec.allOnes 32
def rst (r : BitVec 32) (x : Bool) : BitVec 32 := if r.msb = x then r <<< 1 else (r <<< 1) ^^^ Q
def rstN : Nat → BitVec 32 → Nat → BitVec 32
 | 0, r, _ => r
 | n + 1, r, x => rst (rstN n r x) (x.testBit n)
def radd (r : BitVec 32) (b : UInt8) : BitVec 32 := rstN 8 r b.toNat
def rall (r : BitVec 32) (l : List UInt8) : BitVec 32 := l.foldl radd r
def rcrc (l : List UInt8) : BitVec 32 := (rall (BitVec.allOnes 32) l ^^^ BitVec.allOnes 32).reverse
theorem rev_xor (a b : BitVec 32) : (a ^^^ b).reverse = a.reverse ^^^ b.reverse := by
 ext i h
 simp only [BitVec.getElem_reverse, BitVec.getElem_xor, BitVec.getMsbD_xor]
theorem rev_rev (a : BitVec 32) : a.reverse.reverse = a := by
 ext i h
 rw [BitVec.getElem_reverse, BitVec.getMsbD_reverse, BitVec.getLsbD_eq_getElem]
theorem rev_shr (a : BitVec 32) : (a >>> 1).reverse = a.reverse <<< 1 := by
 ext i h
 rw [BitVec.getElem_reverse, BitVec.getElem_shiftLeft, BitVec.getMsbD_eq_getLsbD, BitVec.getLsbD_ushiftRight]
 by_cases h0 : i = 0
 · subst h0
   simp
 · have h1 : ¬ i < 1 := by omega
   simp only [h, decide_true, Bool.true_and, h1, decide_false, Bool.not_false]
   rw [BitVec.getElem_reverse, BitVec.getMsbD_eq_getLsbD]
   have : 32 - 1 - (i - 1) = 1 + (32 - 1 - i) := by omega
   rw [this]
   simp; omega
theorem P_rev : P.reverse = Q := by decide
theorem stN_rstN (c : BitVec 32) (b : Nat) : ∀ n, n ≤ 32 → stN n (c ^^^ BitVec.ofNat 32 b) = (rstN n c.reverse b).reverse ^^^ (BitVec.ofNat 32 b >>> n)
 | 0, _ => by
  show c ^^^ BitVec.ofNat 32 b = c.reverse.reverse ^^^ _
  rw [rev_rev, BitVec.ushiftRight_zero]
 | n + 1, hn => by
  show st (stN n _) = (rst (rstN n c.reverse b) (b.testBit n)).reverse ^^^ _
  rw [stN_rstN c b n (by omega)]
  generalize rstN n c.reverse b = r
  have hb : (r.reverse ^^^ (BitVec.ofNat 32 b >>> n)).getLsbD 0 = (r.msb ^^ b.testBit n) := by
   rw [BitVec.getLsbD_xor, BitVec.getLsbD_ushiftRight, BitVec.getLsbD_reverse, BitVec.getLsbD_ofNat, decide_eq_true (by omega : n + 0 < 32)]
   rfl
  have hs : (r.reverse ^^^ (BitVec.ofNat 32 b >>> n)) >>> 1 = r.reverse >>> 1 ^^^ BitVec.ofNat 32 b >>> (n + 1) := by
   rw [BitVec.ushiftRight_xor_distrib, ← BitVec.shiftRight_add]
  have hr : r.reverse >>> 1 = (r <<< 1).reverse := by
   have := rev_shr r.reverse
   rw [rev_rev] at this
   rw [← this, rev_rev]
  unfold st rst
  rw [hb, hs, hr]
  generalize BitVec.ofNat 32 b >>> (n + 1) = B
  cases hm : r.msb <;> cases ht : b.testBit n <;> simp only [Bool.false_xor, Bool.true_xor, Bool.not_true, Bool.not_false, if_true, if_false, reduceCtorEq]
  all_goals
   rw [rev_xor, ← P_rev, rev_rev, BitVec.xor_assoc, BitVec.xor_comm B, ← BitVec.xor_assoc]
theorem add_radd (c : BitVec 32) (b : UInt8) : add c b = (radd c.reverse b).reverse := by
 unfold add radd
 rw [stN_rstN c b.toNat 8 (by omega)]
 have h : BitVec.ofNat 32 b.toNat >>> 8 = 0#32 := by
  apply BitVec.eq_of_toNat_eq
  rw [BitVec.toNat_ushiftRight, BitVec.toNat_ofNat, Nat.shiftRight_eq_div_pow]
  have := b.toNat_lt
  show b.toNat % 2 ^ 32 / 2 ^ 8 = 0
  omega
 rw [h, BitVec.xor_zero]
theorem all_rall (c : BitVec 32) (l : List UInt8) : all c l = (rall c.reverse l).reverse := by
 induction l generalizing c with
 | nil => exact (rev_rev c).symm
 | cons b l ih =>
  show all (add c b) l = (rall (radd c.reverse b) l).reverse
  rw [ih, add_radd, rev_rev]
theorem ones_rev : (BitVec.allOnes 32).reverse = BitVec.allOnes 32 := by
 ext i h
 rw [BitVec.getElem_reverse, BitVec.getMsbD_eq_getLsbD, BitVec.getLsbD_allOnes, BitVec.getElem_allOnes, decide_eq_true h, Bool.true_and]
 exact decide_eq_true (by omega)
theorem crc_rcrc (l : List UInt8) : crc l = rcrc l := by
 unfold crc rcrc
 rw [rev_xor, ones_rev, all_rall, ones_rev]
theorem st_inj {a b : BitVec 32} (h : st a = st b) : a = b := by
 have key : ∀ c : BitVec 32, (st c).msb = c.getLsbD 0 := fun c => by
  unfold st
  cases hc : c.getLsbD 0
  · rw [if_neg (by decide), BitVec.msb_ushiftRight]; simp
  · rw [if_pos rfl, BitVec.msb_xor, BitVec.msb_ushiftRight]; simp [show P.msb = true by decide]
 have h0 : a.getLsbD 0 = b.getLsbD 0 := by rw [← key a, ← key b, h]
 have h1 : a >>> 1 = b >>> 1 := by
  unfold st at h
  rw [h0] at h
  cases hb : b.getLsbD 0
  · rw [hb] at h; simpa using h
  · rw [hb, if_pos rfl, if_pos rfl] at h
    exact (BitVec.xor_left_inj _).1 h
 apply BitVec.eq_of_getLsbD_eq
 intro i hi
 cases i with
 | zero => exact h0
 | succ i =>
  have := congrArg (fun x => x.getLsbD i) h1
  simp only [BitVec.getLsbD_ushiftRight] at this
  rw [Nat.add_comm i 1]
  exact this
theorem stN_inj : ∀ {n : Nat} {a b : BitVec 32}, stN n a = stN n b → a = b
 | 0, _, _, h => h
 | _ + 1, _, _, h => stN_inj (st_inj h)
theorem add_inj_left {c d : BitVec 32} {b : UInt8} (h : add c b = add d b) : c = d := (BitVec.xor_left_inj _).1 (stN_inj h)
theorem add_inj_right {c : BitVec 32} {a b : UInt8} (h : add c a = add c b) : a = b := by
 have h := (BitVec.xor_right_inj _).1 (stN_inj h)
 have h := congrArg BitVec.toNat h
 rw [BitVec.toNat_ofNat, BitVec.toNat_ofNat] at h
 have h1 := a.toNat_lt
 have h2 := b.toNat_lt
 exact UInt8.toNat_inj.1 (by omega)
theorem all_inj {l : List UInt8} : ∀ {c d : BitVec 32}, all c l = all d l → c = d := by
 induction l with
 | nil => intro c d h; exact h
 | cons b l ih => intro c d h; exact add_inj_left (ih h)
theorem crc_turned {x y : List UInt8} {a b : UInt8} (h : crc (x ++ a :: y) = crc (x ++ b :: y)) : a = b := by
 have h := (BitVec.xor_left_inj _).1 h
 unfold all at h
 rw [List.foldl_append, List.foldl_append] at h
 exact add_inj_right (all_inj h)
def four (n : Nat) : List UInt8 := [UInt8.ofNat n, UInt8.ofNat (n / 256), UInt8.ofNat (n / 65536), UInt8.ofNat (n / 16777216)]
def numb (l : List UInt8) : Nat := (l.getD 0 0).toNat + 256 * (l.getD 1 0).toNat + 65536 * (l.getD 2 0).toNat + 16777216 * (l.getD 3 0).toNat
def sum (l : List UInt8) : Nat := (crc l).toNat
def frameB (bs : List UInt8) : List UInt8 := (four bs.length ++ bs) ++ four (sum (four bs.length ++ bs))
def oneE (b : List UInt8) : Int := if b.length < 8 ∨ 60000 < numb b ∨ numb b + 8 ≠ b.length then 2 else if sum (b.take (4 + numb b)) = numb (b.drop (4 + numb b)) then 0 else 11
def oneB (b : List UInt8) : List UInt8 := if oneE b = 0 then (b.drop 4).take (numb b) else []
theorem four_len (n : Nat) : (four n).length = 4 := rfl
theorem sum_lt (l : List UInt8) : sum l < 4294967296 := (crc l).isLt
theorem numb_four {n : Nat} (h : n < 4294967296) (r : List UInt8) : numb (four n ++ r) = n := by
 show (UInt8.ofNat n).toNat + 256 * (UInt8.ofNat (n / 256)).toNat + 65536 * (UInt8.ofNat (n / 65536)).toNat + 16777216 * (UInt8.ofNat (n / 16777216)).toNat = n
 simp only [UInt8.toNat_ofNat']
 omega
theorem numb_lt (l : List UInt8) : numb l < 4294967296 := by
 unfold numb
 have h0 := (l.getD 0 0).toNat_lt
 have h1 := (l.getD 1 0).toNat_lt
 have h2 := (l.getD 2 0).toNat_lt
 have h3 := (l.getD 3 0).toNat_lt
 omega
theorem frameB_len (bs : List UInt8) : (frameB bs).length = bs.length + 8 := by
 unfold frameB
 simp only [List.length_append, four_len]
 omega
theorem frame_parts {bs : List UInt8} (h : bs.length ≤ 60000) : numb (frameB bs) = bs.length ∧ (frameB bs).take (4 + bs.length) = four bs.length ++ bs ∧ (frameB bs).drop (4 + bs.length) = four (sum (four bs.length ++ bs)) := by
 have hl : (four bs.length ++ bs).length = 4 + bs.length := by rw [List.length_append, four_len]
 refine ⟨?_, ?_, ?_⟩
 · unfold frameB
   rw [List.append_assoc]
   exact numb_four (by omega) _
 · unfold frameB
   rw [← hl, List.take_left]
 · unfold frameB
   rw [← hl, List.drop_left]
theorem one_frame {bs : List UInt8} (h : bs.length ≤ 60000) : oneE (frameB bs) = 0 ∧ oneB (frameB bs) = bs := by
 obtain ⟨h1, h2, h3⟩ := frame_parts h
 have he : oneE (frameB bs) = 0 := by
  unfold oneE
  rw [if_neg, h1, h2, h3, if_pos]
  · have := numb_four (sum_lt (four bs.length ++ bs)) []
    rw [List.append_nil] at this
    exact this.symm
  · rw [h1, frameB_len]; omega
 refine ⟨he, ?_⟩
 unfold oneB
 rw [if_pos he, h1]
 unfold frameB
 rw [List.append_assoc]
 show (List.drop (four bs.length).length _).take _ = _
 rw [List.drop_left, List.take_left]
theorem one_le {b : List UInt8} (h : oneE b = 0) : (numb b ≤ 60000 ∧ numb b + 8 = b.length) ∧ sum (b.take (4 + numb b)) = numb (b.drop (4 + numb b)) := by
 unfold oneE at h
 by_cases h1 : b.length < 8 ∨ 60000 < numb b ∨ numb b + 8 ≠ b.length
 · rw [if_pos h1] at h; cases h
 · rw [if_neg h1] at h
   by_cases h2 : sum (b.take (4 + numb b)) = numb (b.drop (4 + numb b))
   · exact ⟨⟨by omega, by omega⟩, h2⟩
   · rw [if_neg h2] at h; cases h
theorem set_eq {l : List UInt8} {k : Nat} (h : k < l.length) (x : UInt8) : l.set k x = l.take k ++ x :: l.drop (k + 1) := List.set_eq_take_append_cons_drop.trans (if_pos h)
theorem numb_set {l : List UInt8} {k : Nat} (hl : 4 ≤ l.length) (hk : k < 4) {x : UInt8} (hx : x ≠ l.getD k 0) : numb (l.set k x) ≠ numb l := by
 obtain ⟨a, b, c, d, r, rfl⟩ : ∃ a b c d r, l = a :: b :: c :: d :: r := by
  match l, hl with
  | a :: b :: c :: d :: r, _ => exact ⟨a, b, c, d, r, rfl⟩
 have h0 := a.toNat_lt
 have h1 := b.toNat_lt
 have h2 := c.toNat_lt
 have h3 := d.toNat_lt
 have h4 := x.toNat_lt
 match k, hk with
 | 0, _ =>
  have hx : x ≠ a := hx
  show x.toNat + 256 * b.toNat + 65536 * c.toNat + 16777216 * d.toNat ≠ a.toNat + 256 * b.toNat + 65536 * c.toNat + 16777216 * d.toNat
  intro e; exact hx (UInt8.toNat_inj.1 (by omega))
 | 1, _ =>
  have hx : x ≠ b := hx
  show a.toNat + 256 * x.toNat + 65536 * c.toNat + 16777216 * d.toNat ≠ a.toNat + 256 * b.toNat + 65536 * c.toNat + 16777216 * d.toNat
  intro e; exact hx (UInt8.toNat_inj.1 (by omega))
 | 2, _ =>
  have hx : x ≠ c := hx
  show a.toNat + 256 * b.toNat + 65536 * x.toNat + 16777216 * d.toNat ≠ a.toNat + 256 * b.toNat + 65536 * c.toNat + 16777216 * d.toNat
  intro e; exact hx (UInt8.toNat_inj.1 (by omega))
 | 3, _ =>
  have hx : x ≠ d := hx
  show a.toNat + 256 * b.toNat + 65536 * c.toNat + 16777216 * x.toNat ≠ a.toNat + 256 * b.toNat + 65536 * c.toNat + 16777216 * d.toNat
  intro e; exact hx (UInt8.toNat_inj.1 (by omega))
theorem numb_set_far {l : List UInt8} {k : Nat} (hk : 4 ≤ k) (x : UInt8) : numb (l.set k x) = numb l := by
 unfold numb
 have g : ∀ j, j < 4 → (l.set k x).getD j 0 = l.getD j 0 := fun j hj => by
  rw [List.getD_eq_getElem?_getD, List.getElem?_set_ne (by omega), ← List.getD_eq_getElem?_getD]
 rw [g 0 (by omega), g 1 (by omega), g 2 (by omega), g 3 (by omega)]
theorem one_turned {b : List UInt8} (h : oneE b = 0) {k : Nat} (hk : k < b.length) {x : UInt8} (hx : x ≠ b.getD k 0) : oneE (b.set k x) ≠ 0 := by
 intro he
 obtain ⟨⟨h1, h2⟩, h3⟩ := one_le h
 obtain ⟨⟨k1, k2⟩, k3⟩ := one_le he
 rw [List.length_set] at k2
 by_cases hk4 : k < 4
 · exact numb_set (by omega) hk4 hx (by omega)
 · have hn := numb_set_far (l := b) (by omega : 4 ≤ k) x
   rw [hn] at k3
   by_cases hd : k < 4 + numb b
   · rw [List.drop_set_of_lt hd, ← h3, List.take_set] at k3
     have hkl : k < (b.take (4 + numb b)).length := by rw [List.length_take]; omega
     have k3 : crc ((b.take (4 + numb b)).set k x) = crc (b.take (4 + numb b)) := BitVec.eq_of_toNat_eq k3
     rw [set_eq hkl] at k3
     have e : b.take (4 + numb b) = (b.take (4 + numb b)).take k ++ b.getD k 0 :: (b.take (4 + numb b)).drop (k + 1) := by
      have e2 : b.getD k 0 = (b.take (4 + numb b)).getD k 0 := by
       rw [List.getD_eq_getElem?_getD, List.getD_eq_getElem?_getD, List.getElem?_take_of_lt hd]
      have e3 := set_eq hkl ((b.take (4 + numb b)).getD k 0)
      rw [e2, ← e3, List.getD_eq_getElem?_getD, List.getElem?_eq_getElem hkl, Option.getD_some, List.set_getElem_self]
     exact hx (crc_turned (k3.trans (congrArg crc e)))
   · rw [List.take_set_of_le (by omega), h3, List.drop_set, if_neg hd] at k3
     have hlen : (b.drop (4 + numb b)).length = 4 := by rw [List.length_drop]; omega
     refine numb_set (l := b.drop (4 + numb b)) (k := k - (4 + numb b)) (by omega) (by omega) (x := x) ?_ k3.symm
     rw [List.getD_eq_getElem?_getD, List.getElem?_drop, show 4 + numb b + (k - (4 + numb b)) = k by omega, ← List.getD_eq_getElem?_getD]
     exact hx
theorem numb_take' {l : List UInt8} {c : Nat} (h : 4 ≤ c) : numb (l.take c) = numb l := by
 unfold numb
 have g : ∀ j, j < 4 → (l.take c).getD j 0 = l.getD j 0 := fun j hj => by
  rw [List.getD_eq_getElem?_getD, List.getElem?_take_of_lt (by omega), ← List.getD_eq_getElem?_getD]
 rw [g 0 (by omega), g 1 (by omega), g 2 (by omega), g 3 (by omega)]
theorem one_cut {b : List UInt8} (h : oneE b = 0) {c : Nat} (hc : c < b.length) : oneE (b.take c) = 2 := by
 obtain ⟨⟨h1, h2⟩, h3⟩ := one_le h
 have hl : (b.take c).length = c := by rw [List.length_take]; omega
 unfold oneE
 refine if_pos ?_
 rw [hl]
 by_cases h8 : c < 8
 · exact .inl h8
 · rw [numb_take' (by omega)]
   omega
end Crc
structure MsgD where
 kind : Int
 fr : Int
 tt : Int
 v0 : Int
 v1 : Int
 v2 : Int
 v3 : Int
 bs : List BunD
 es : List Ent
 ks : KidsL
 c : CtxL
structure MsgAt (Q : Nat → Prop) (w : World) (m : MsgD) (ps : List BunP) (lv ev kv cv : Value) : Prop where
 bs : BunsP Q w lv ps
 eq : ps.map (·.b) = m.bs
 cau : CauAt Q w ev kv cv m.es m.ks m.c
theorem MsgAt.keep0 {Q : Nat → Prop} {w w' : World} {m : MsgD} {ps : List BunP} {lv ev kv cv : Value} (h : MsgAt Q w m ps lv ev kv cv) (f : Frm NoS w w') : MsgAt Q w' m ps lv ev kv cv := ⟨h.bs.keep0 f, h.eq, h.cau.keep0 f⟩
theorem MsgAt.len {Q : Nat → Prop} {w : World} {m : MsgD} {ps : List BunP} {lv ev kv cv : Value} (h : MsgAt Q w m ps lv ev kv cv) : ps.length = m.bs.length := by rw [← h.eq, List.length_map]
abbrev MsgD.ag (m : MsgD) (lv ev kv cv : Value) : Value := .agg #[.int .i64 m.kind, .int .i64 m.fr, .int .i64 m.tt, .int .i64 m.v0, .int .i64 m.v1, .int .i64 m.v2, .int .i64 m.v3, lv, ev, kv, cv]
structure MsgOkS (m : MsgD) : Prop where
 each : ∀ b ∈ m.bs, CauOk b.es b.ks b.c
 len : m.bs.length ≤ 100
 st : CauOk m.es m.ks m.c
def BunFits (b : BunD) : Prop := TrOk b.es b.ks ∧ FitsC b.c ∧ b.c.length ≤ 140737488351232
structure MsgFit (m : MsgD) : Prop where
 each : ∀ b ∈ m.bs, BunFits b
 st : TrOk m.es m.ks ∧ FitsC m.c ∧ m.c.length ≤ 140737488351232
 len : m.bs.length ≤ 140737488351232
def MsgD.zero : MsgD := ⟨0, 0, 0, 0, 0, 0, 0, [], [], .nil, []⟩
def MsgD.right (m : MsgD) : Prop :=
 MayV (vecF m.v0 m.v1 m.v2 m.v3) ∧ (0 ≤ m.fr ∧ m.fr < 4) ∧ (0 ≤ m.tt ∧ m.tt < 4) ∧ m.fr ≠ m.tt ∧
  ((m.kind = 1 ∧ BareM m.es m.ks m.c ∧ 1 ≤ m.bs.length ∧ m.bs.length ≤ 16 ∧ ∀ b ∈ m.bs, b.right) ∨ (m.kind = 2 ∧ m.bs.length = 0 ∧ StOk m.v0 m.v1 m.v2 m.v3 m.es m.ks m.c) ∨ ((m.kind = 3 ∨ m.kind = 4) ∧ BareM m.es m.ks m.c ∧ m.bs.length = 0))
theorem anyW_false {ps : List BunP} : ps.any pW = false ↔ ∀ b ∈ ps.map (·.b), b.right := by
 rw [List.any_eq_false]
 constructor
 · intro h b hb
   obtain ⟨p, hp, rfl⟩ := List.mem_map.1 hb
   have := h p hp
   unfold pW at this
   simp only [Bool.not_eq_true', Bool.not_eq_false] at this
   by_cases hr : p.b.right
   · exact hr
   · rw [tf_false hr] at this; cases this
 · intro h p hp
   unfold pW
   rw [tf_true (h p.b (List.mem_map.2 ⟨p, hp, rfl⟩))]
   simp
theorem msgOk_iff {kind fr tt v0 v1 v2 v3 : Int} {ps : List BunP} {es : List Ent} {ks : KidsL} {c : CtxL} : MsgOk kind fr tt v0 v1 v2 v3 ps es ks c ↔ MsgD.right ⟨kind, fr, tt, v0, v1, v2, v3, ps.map (·.b), es, ks, c⟩ := by
 unfold MsgOk MsgBody MsgD.right
 simp only [anyW_false, List.length_map]
theorem bare_nil {es : List Ent} {ks : KidsL} {c : CtxL} (h : BareM es ks c) : es = [] ∧ ks = .nil ∧ c = [] := by
 obtain ⟨h1, h2, h3⟩ := h
 refine ⟨List.eq_nil_of_length_eq_zero h2, ?_, List.eq_nil_of_length_eq_zero h1⟩
 cases ks with
 | nil => rfl
 | cons _ _ _ r => exact absurd h3 (by show r.len + 1 ≠ 0; omega)
def MsgD.tail (m : MsgD) : List UInt8 := if m.kind = 2 then encX m.es m.ks m.c else []
def MsgD.enc (m : MsgD) : List UInt8 := numB m.kind ++ (numB m.fr ++ (numB m.tt ++ (encV m.v0 m.v1 m.v2 m.v3 ++ (numB (m.bs.length : Int) ++ (m.bs.flatMap BunD.enc ++ m.tail)))))
theorem MsgD.right.kind {m : MsgD} (h : m.right) : 1 ≤ m.kind ∧ m.kind ≤ 4 := by
 obtain ⟨-, -, -, -, h⟩ := h
 rcases h with ⟨h, -⟩ | ⟨h, -⟩ | ⟨h, -⟩ <;> omega
theorem MsgD.right.len {m : MsgD} (h : m.right) : m.bs.length ≤ 16 := by
 obtain ⟨-, -, -, -, h⟩ := h
 rcases h with ⟨-, -, -, h, -⟩ | ⟨-, h, -⟩ | ⟨-, -, h⟩ <;> omega
theorem MsgD.right.each {m : MsgD} (h : m.right) : ∀ b ∈ m.bs, b.right := by
 obtain ⟨-, -, -, -, h⟩ := h
 rcases h with ⟨-, -, -, -, h⟩ | ⟨-, h, -⟩ | ⟨-, -, h⟩
 · exact h
 · rw [List.eq_nil_of_length_eq_zero h]; exact fun b hb => by cases hb
 · rw [List.eq_nil_of_length_eq_zero h]; exact fun b hb => by cases hb
theorem MsgD.right.bare {m : MsgD} (h : m.right) (hk : m.kind ≠ 2) : m.es = [] ∧ m.ks = .nil ∧ m.c = [] := by
 obtain ⟨-, -, -, -, h⟩ := h
 rcases h with ⟨-, h, -⟩ | ⟨h, -⟩ | ⟨-, h, -⟩
 · exact bare_nil h
 · exact absurd h hk
 · exact bare_nil h
theorem MsgD.right.cau {m : MsgD} (h : m.right) (hk : m.kind = 2) : CauRight m.es m.ks m.c := by
 obtain ⟨-, -, -, -, h⟩ := h
 rcases h with ⟨h, -⟩ | ⟨-, -, h⟩ | ⟨h, -⟩
 · omega
 · exact h.1
 · omega
theorem enc_inj {a b : MsgD} (ha : a.right) (hb : b.right) (h : a.enc = b.enc) : a = b := by
 unfold MsgD.enc at h
 replace h := numB_prefix h
 obtain ⟨h1, h⟩ := h
 replace h := numB_prefix h
 obtain ⟨h2, h⟩ := h
 replace h := numB_prefix h
 obtain ⟨h3, h⟩ := h
 replace h := encV_pfx h
 obtain ⟨⟨h4, h5, h6, h7⟩, h⟩ := h
 replace h := numB_prefix h
 obtain ⟨h8, h⟩ := h
 have hl : a.bs.length = b.bs.length := by omega
 replace h := flat_pfx (f := BunD.enc) encB_pfx hl h
 obtain ⟨h9, h⟩ := h
 have hx : (a.es = b.es ∧ a.ks = b.ks) ∧ a.c = b.c := by
  by_cases hk : a.kind = 2
  · have hk' : b.kind = 2 := h1 ▸ hk
    unfold MsgD.tail at h
    rw [if_pos hk, if_pos hk'] at h
    exact encX_inj h
  · have hk' : ¬ b.kind = 2 := h1 ▸ hk
    obtain ⟨a1, a2, a3⟩ := ha.bare hk
    obtain ⟨b1, b2, b3⟩ := hb.bare hk'
    exact ⟨⟨a1.trans b1.symm, a2.trans b2.symm⟩, a3.trans b3.symm⟩
 obtain ⟨⟨h10, h11⟩, h12⟩ := hx
 cases a
 cases b
 simp only at h1 h2 h3 h4 h5 h6 h7 h9 h10 h11 h12
 subst h1 h2 h3 h4 h5 h6 h7 h9 h10 h11 h12
 rfl
def DecRes (x : List UInt8) (r : Option MsgD) : Prop := (∃ m, r = some m ∧ m.right ∧ x = m.enc) ∨ (r = none ∧ ∀ m : MsgD, m.right → x ≠ m.enc)
theorem DecRes.det {x : List UInt8} {r s : Option MsgD} (h : DecRes x r) (k : DecRes x s) : r = s := by
 rcases h with ⟨m, rfl, h1, h2⟩ | ⟨rfl, h⟩ <;> rcases k with ⟨m', rfl, k1, k2⟩ | ⟨rfl, k⟩
 · rw [enc_inj h1 k1 (h2.symm.trans k2)]
 · exact absurd h2 (k m h1)
 · exact absurd k2 (h m' k1)
 · rfl
theorem DecRes.make {m : MsgD} (h : m.right) : DecRes m.enc (some m) := .inl ⟨m, rfl, h, rfl⟩
structure DecSteps (mk m2 : Int) (x : List UInt8) (m : MsgD) (n : Int) (k : Nat) (s4 s5 s6 s7 : Option (List UInt8)) : Prop where
 hd : ∃ s1 s2 s3, NumStep (some x) mk m.kind s1 ∧ NumStep s1 m2 m.fr s2 ∧ NumStep s2 m2 m.tt s3 ∧ VecRes s3 m.v0 m.v1 m.v2 m.v3 s4
 num : NumStep s4 16 n s5
 run : Run BunRes s5 k m.bs s6
 lim : k = n.toNat ∨ s6 = none
 le : k ≤ n.toNat
 st : if m.kind = 2 then CauRes s6 m.es m.ks m.c s7 else (m.es = [] ∧ m.ks = .nil ∧ m.c = []) ∧ s7 = s6
theorem bunRun_good {st t : Option (List UInt8)} {k : Nat} {l : List BunD} (h : Run BunRes st k l t) {r : List UInt8} (ht : t = some r) : st = some (l.flatMap BunD.enc ++ r) ∧ ∀ b ∈ l, b.right :=
 Run.good (f := BunD.enc) (P := BunD.right) (fun {s e r} h => by
  rcases h with ⟨r', h1, h2, h3⟩ | ⟨h1, -⟩
  · injection h3 with h3; subst h3; exact ⟨h1, h2⟩
  · cases h1) h ht
theorem bunRun_make {l : List BunD} (r : List UInt8) (h : ∀ b ∈ l, b.right) : Run BunRes (some (l.flatMap BunD.enc ++ r)) l.length l (some r) :=
 Run.make (f := BunD.enc) (P := BunD.right) (fun {e} r he => .inl ⟨r, rfl, he, rfl⟩) r h
theorem DecSteps.good {mk m2 n : Int} {x : List UInt8} {m : MsgD} {k : Nat} {s4 s5 s6 : Option (List UInt8)} (h : DecSteps mk m2 x m n k s4 s5 s6 (some [])) (h0 : 0 ≤ n) (hr : m.right) : DecRes x (some m) := by
 obtain ⟨⟨s1, s2, s3, g1, g2, g3, g4⟩, g5, g6, g7, -, g9⟩ := h
 have h6 : s6 = some m.tail := by
  unfold MsgD.tail
  by_cases hk : m.kind = 2
  · rw [if_pos hk] at g9 ⊢
    rcases g9 with ⟨r, e1, -, e2⟩ | ⟨e1, -⟩
    · injection e2 with e2; subst e2; rw [e1, List.append_nil]
    · cases e1
  · rw [if_neg hk] at g9 ⊢
    exact g9.2.symm
 subst h6
 have hk : k = n.toNat := g7.resolve_right fun h => by cases h
 obtain ⟨rfl, -⟩ := bunRun_good g6 rfl
 obtain ⟨rfl, -, -⟩ := num_good g5
 rcases g4 with ⟨r2, rfl, _, e⟩ | ⟨e, _⟩
 · injection e with e; subst e
   obtain ⟨rfl, -⟩ := num_good g3
   obtain ⟨rfl, -⟩ := num_good g2
   obtain ⟨e, -⟩ := num_good g1
   injection e with e
   have hn : (m.bs.length : Int) = n := by rw [g6.len, hk]; omega
   exact .inl ⟨m, rfl, hr, by unfold MsgD.enc; rw [e, hn]⟩
 · cases e
theorem run_take {l : List BunD} (r : List UInt8) (h : ∀ b ∈ l, b.right) (k : Nat) (hk : k ≤ l.length) : Run BunRes (some (l.flatMap BunD.enc ++ r)) k (l.take k) (some ((l.drop k).flatMap BunD.enc ++ r)) := by
 have := bunRun_make (l := l.take k) ((l.drop k).flatMap BunD.enc ++ r) fun b hb => h b (List.mem_of_mem_take hb)
 rw [← List.append_assoc, ← List.flatMap_append, List.take_append_drop, List.length_take, Nat.min_eq_left hk] at this
 exact this
theorem DecSteps.bad {mk m2 n : Int} (hmk : 4 ≤ mk) (hmk' : mk ≤ 9223372036854775807) (hm2 : 4 ≤ m2) (hm2' : m2 ≤ 9223372036854775807) {x : List UInt8} {m : MsgD} {k : Nat} {s4 s5 s6 s7 : Option (List UInt8)} (h : DecSteps mk m2 x m n k s4 s5 s6 s7) (hb : n < 0 ∨ s7 ≠ some [] ∨ ¬ m.right) : DecRes x none := by
 refine .inr ⟨rfl, fun m' hr hx => ?_⟩
 subst hx
 obtain ⟨⟨s1, s2, s3, g1, g2, g3, g4⟩, g5, g6, g7, g8, g9⟩ := h
 have hkd := hr.kind
 have hln := hr.len
 have hea := hr.each
 obtain ⟨q1, q2, q3, -, -⟩ := id hr
 unfold MsgD.enc at g1
 obtain ⟨e1, rfl⟩ := g1.det (num_make _ ⟨by omega, by omega⟩ hmk')
 obtain ⟨e2, rfl⟩ := g2.det (num_make _ ⟨by omega, by omega⟩ hm2')
 obtain ⟨e3, rfl⟩ := g3.det (num_make _ ⟨by omega, by omega⟩ hm2')
 obtain ⟨⟨e4, e5, e6, e7⟩, rfl⟩ := g4.det (VecRes.make _ q1)
 obtain ⟨e8, rfl⟩ := g5.det (num_make _ ⟨by omega, by omega⟩ (by decide))
 have hkl : k ≤ m'.bs.length := by omega
 obtain ⟨e9, e10⟩ := Run.det (R := BunRes) (fun h k => h.det k) g6 (run_take m'.tail hea k hkl)
 have hk : k = m'.bs.length := by
  rcases g7 with h | h
  · omega
  · rw [e10] at h; cases h
 subst hk
 rw [List.take_length] at e9
 rw [List.drop_length] at e10
 subst e10
 have hfin : ((m.es = m'.es ∧ m.ks = m'.ks) ∧ m.c = m'.c) ∧ s7 = some [] := by
  by_cases hk : m'.kind = 2
  · rw [if_pos (e1.trans hk)] at g9
    have ht : m'.tail = encX m'.es m'.ks m'.c ++ [] := by unfold MsgD.tail; rw [if_pos hk, List.append_nil]
    rw [List.flatMap_nil, List.nil_append, ht] at g9
    exact g9.det (CauRes.make _ (hr.cau hk))
  · rw [if_neg (fun h => hk (e1.symm.trans h))] at g9
    obtain ⟨a1, a2, a3⟩ := g9.1
    obtain ⟨b1, b2, b3⟩ := hr.bare hk
    have ht : m'.tail = [] := by unfold MsgD.tail; rw [if_neg hk]
    refine ⟨⟨⟨a1.trans b1.symm, a2.trans b2.symm⟩, a3.trans b3.symm⟩, ?_⟩
    rw [g9.2, ht]; rfl
 obtain ⟨⟨⟨e11, e12⟩, e13⟩, e14⟩ := hfin
 rcases hb with hb | hb | hb
 · omega
 · exact hb e14
 · cases m
   cases m'
   simp only at e1 e2 e3 e4 e5 e6 e7 e9 e11 e12 e13
   subst e1 e2 e3 e4 e5 e6 e7 e9 e11 e12 e13
   exact hb hr
def DecTop (b : List UInt8) (k : Int) (m : MsgD) : Prop :=
 (Crc.oneE b ≠ 0 ∧ k = Crc.oneE b ∧ m = MsgD.zero) ∨ (Crc.oneE b = 0 ∧ ((k = 0 ∧ DecRes (Crc.oneB b) (some m)) ∨ (k = 2 ∧ m = MsgD.zero ∧ DecRes (Crc.oneB b) none)))
theorem DecTop.det {b : List UInt8} {k k' : Int} {m m' : MsgD} (h : DecTop b k m) (g : DecTop b k' m') : k = k' ∧ m = m' := by
 rcases h with ⟨h0, h1, h2⟩ | ⟨h0, ⟨h1, h2⟩ | ⟨h1, h2, h3⟩⟩ <;> rcases g with ⟨g0, g1, g2⟩ | ⟨g0, ⟨g1, g2⟩ | ⟨g1, g2, g3⟩⟩
 · exact ⟨h1.trans g1.symm, h2.trans g2.symm⟩
 · exact absurd g0 h0
 · exact absurd g0 h0
 · exact absurd h0 g0
 · have := h2.det g2; injection this with this; exact ⟨h1.trans g1.symm, this⟩
 · cases h2.det g3
 · exact absurd h0 g0
 · cases h3.det g2
 · exact ⟨h1.trans g1.symm, h2.trans g2.symm⟩
end Go.Proofs.YtcahemkomfaabaaGreat
namespace Go.Proofs.YtcahemkomfaabaaGreat
open Go.RowKit
def roomK : KidsL → Int → Nat → Int
 | .nil, left, _ => left
 | .cons _ es sub rest, left, d => if left < 0 ∨ d = 0 then -1 else roomK rest (roomK sub (left - es.length - sub.len) (d - 1)) d
def roomT (es : List Ent) (ks : KidsL) (left : Int) (d : Nat) : Int := roomK ks (left - es.length - ks.len) d
theorem roomK_cons (key : ByteArray) (es : List Ent) (sub rest : KidsL) (left : Int) (d : Nat) : roomK (.cons key es sub rest) left d = if left < 0 ∨ d = 0 then -1 else roomK rest (roomT es sub left (d - 1)) d := rfl
theorem roomK_ge : ∀ {ks : KidsL} {left : Int} {d : Nat}, 0 ≤ roomK ks left d → 0 ≤ left
 | .nil, _, _, h => h
 | .cons _ es sub rest, left, d, h => by
  rw [roomK_cons] at h
  split at h
  · omega
  · omega
theorem roomK_size : ∀ {ks : KidsL} {left : Int} {d : Nat}, 0 ≤ roomK ks left d → roomK ks left d + sizeK ks = left + ks.len
 | .nil, _, _, _ => by simp [roomK, sizeK, KidsL.len]
 | .cons _ es sub rest, left, d, h => by
  rw [roomK_cons] at h ⊢
  split at h
  · omega
  · rename_i hc
    rw [if_neg hc]
    have h1 := roomK_ge h
    have h2 := roomK_size h
    have h3 := roomK_size (ks := sub) h1
    unfold roomT at h2 h3 ⊢
    simp only [sizeK, KidsL.len]
    omega
theorem roomT_size {es : List Ent} {ks : KidsL} {left : Int} {d : Nat} (h : 0 ≤ roomT es ks left d) : (sizeT es ks : Int) ≤ left := by
 have := roomK_size h
 unfold roomT at h
 unfold sizeT
 omega
theorem roomK_bd : ∀ {ks : KidsL} {left : Int} {d : Nat}, ks.Ok → left ≤ 1000 → -300000000000000 ≤ left → roomK ks left d ≤ 1000 ∧ -300000000000000 ≤ roomK ks left d
 | .nil, _, _, _, h1, h2 => ⟨h1, h2⟩
 | .cons _ es sub rest, left, d, hk, h1, h2 => by
  rw [roomK_cons]
  split
  · omega
  · obtain ⟨_, he, hs, hok, hr⟩ := hk
    have := he.len
    have h3 := roomK_bd (ks := sub) (left := left - es.length - sub.len) (d := d - 1) hok (by omega) (by omega)
    exact roomK_bd hr h3.1 h3.2
theorem roomK_drop {ks : KidsL} {n : Nat} {key : ByteArray} {es : List Ent} {sub rest : KidsL} (h : ks.drop n = .cons key es sub rest) (left : Int) (d : Nat) :
 roomK (ks.drop n) left d = if left < 0 ∨ d = 0 then -1 else roomK (ks.drop (n + 1)) (roomT es sub left (d - 1)) d := by
 rw [h, KidsL.drop_succ n ks h, roomK_cons]
def lilB (es : List Ent) (ks : KidsL) (c : CtxL) : Bool := decide (0 ≤ roomT es ks 30 8) && decide ((c.length : Int) ≤ 30)
def MsgD.small (m : MsgD) : Bool := decide (m.bs.length ≤ 20) && (lilB m.es m.ks m.c && m.bs.all fun b => lilB b.es b.ks b.c)
theorem lil_le {es : List Ent} {ks : KidsL} {c : CtxL} (h : lilB es ks c = true) : sizeT es ks ≤ 30 ∧ c.length ≤ 30 := by
 unfold lilB at h
 simp only [Bool.and_eq_true, decide_eq_true_iff] at h
 have := roomT_size h.1
 exact ⟨by omega, by omega⟩
theorem lil_ok {es : List Ent} {ks : KidsL} {c : CtxL} (hok : TrOk es ks) (hf : FitsC c) (h : lilB es ks c = true) : CauOk es ks c := by
 obtain ⟨h1, h2⟩ := lil_le h
 exact ⟨hok, by omega, hf, by omega⟩
theorem MsgD.small.parts {m : MsgD} (h : m.small = true) : m.bs.length ≤ 20 ∧ lilB m.es m.ks m.c = true ∧ ∀ b ∈ m.bs, lilB b.es b.ks b.c = true := by
 unfold MsgD.small at h
 simp only [Bool.and_eq_true, decide_eq_true_iff, List.all_eq_true] at h
 exact ⟨h.1, h.2.1, h.2.2⟩
theorem MsgD.small.ok {m : MsgD} (h : m.small = true) (hf : MsgFit m) : MsgOkS m := by
 obtain ⟨h1, h2, h3⟩ := MsgD.small.parts h
 exact ⟨fun b hb => lil_ok (hf.each b hb).1 (hf.each b hb).2.1 (h3 b hb), by omega, lil_ok hf.st.1 hf.st.2.1 h2⟩
theorem lilX_le {es : List Ent} {ks : KidsL} {c : CtxL} (h : CauRight es ks c) (hl : lilB es ks c = true) : (encX es ks c).length ≤ 3180 := by
 obtain ⟨h1, h2⟩ := lil_le hl
 have g1 := encT_le h.tree (by omega)
 have g2 := encC_le h.ctx (by omega)
 unfold encX
 rw [List.length_append]
 omega
theorem encV_le {v0 v1 v2 v3 : Int} (h : MayV (vecF v0 v1 v2 v3)) : (encV v0 v1 v2 v3).length ≤ 40 := by
 obtain ⟨h0, h1, h2, h3⟩ := mayV4 h
 have l0 := numB_le10 (v := v0) (by omega) (by omega)
 have l1 := numB_le10 (v := v1) (by omega) (by omega)
 have l2 := numB_le10 (v := v2) (by omega) (by omega)
 have l3 := numB_le10 (v := v3) (by omega) (by omega)
 unfold encV
 simp only [List.length_append]
 omega
theorem bun_le {b : BunD} (h : b.right) (hl : lilB b.es b.ks b.c = true) : b.enc.length ≤ 3250 := by
 have h' : BunRight b.dc b.af b.la (vecF b.v0 b.v1 b.v2 b.v3) b.es b.ks b.c := h
 obtain ⟨n1, n2, n3, n4, n5, n6, n7⟩ := BunRight.nums h'
 have g1 := lilX_le (BunRight.cau h') hl
 have g2 := encV_le n7
 have l1 := numB_le10 (v := b.dc) (by omega) (by omega)
 have l2 := numB_le10 (v := b.af) (by omega) (by omega)
 have l3 := numB_le10 (v := b.la) (by omega) (by omega)
 unfold BunD.enc encB
 simp only [List.length_append]
 omega
theorem MsgD.right.nums {m : MsgD} (h : m.right) : MayV (vecF m.v0 m.v1 m.v2 m.v3) ∧ (0 ≤ m.fr ∧ m.fr < 4) ∧ (0 ≤ m.tt ∧ m.tt < 4) ∧ m.fr ≠ m.tt := ⟨h.1, h.2.1, h.2.2.1, h.2.2.2.1⟩
theorem MsgD.right.lens {m : MsgD} (h : m.right) : (numB m.kind).length ≤ 10 ∧ (numB m.fr).length ≤ 10 ∧ (numB m.tt).length ≤ 10 ∧ (encV m.v0 m.v1 m.v2 m.v3).length ≤ 40 ∧ (numB (m.bs.length : Int)).length ≤ 10 := by
 have h1 := h.kind
 obtain ⟨h2, h3, h4, -⟩ := h.nums
 have h5 := h.len
 exact ⟨numB_le10 (by omega) (by omega), numB_le10 (by omega) (by omega), numB_le10 (by omega) (by omega), encV_le h2, numB_le10 (by omega) (by omega)⟩
theorem msg_le {m : MsgD} (h : m.right) (hl : m.small = true) : m.enc.length ≤ 60000 := by
 obtain ⟨h1, h2, h3⟩ := MsgD.small.parts hl
 obtain ⟨l1, l2, l3, l4, l5⟩ := h.lens
 have l6 := flat_le (f := BunD.enc) (m := 3250) (l := m.bs) fun b hb => bun_le (h.each b hb) (h3 b hb)
 have h5 := h.len
 have l7 : m.tail.length ≤ 3180 := by
  unfold MsgD.tail
  split
  · rename_i hk; exact lilX_le (h.cau hk) h2
  · simp
 have l8 : 3250 * m.bs.length ≤ 52000 := by omega
 unfold MsgD.enc
 simp only [List.length_append]
 omega
end Go.Proofs.YtcahemkomfaabaaGreat
