/- Words for the law MsgRight: Awake16, PackBytes, Put16, BunPut, Crc, Frame1, Frame2, Frame3. -/
import Derived.Test.YtcahemkomfaabaaGreatMsgRightG1
import Derived.Test.YtcahemkomfaabaaGreatMsgRightG12
import Derived.Test.YtcahemkomfaabaaGreatMsgRightG14
import Derived.Test.YtcahemkomfaabaaGreatMsgRightG16
import Derived.Test.YtcahemkomfaabaaGreatMsgRightG18
import Derived.Test.YtcahemkomfaabaaGreatMsgRightG24
import Derived.Test.YtcahemkomfaabaaGreatMsgRightG28
import Derived.Test.YtcahemkomfaabaaGreatMsgRightG29
set_option linter.unusedSimpArgs false
set_option linter.unusedVariables false
/- tributarylaw16: awake: the walk. -/
namespace Go.Proofs.YtcahemkomfaabaaGreat
open Go.RowKit
end Go.Proofs.YtcahemkomfaabaaGreat
/- The law PackBytes: its walk. -/
namespace Go.Proofs.YtcahemkomfaabaaGreat
open Go.RowKit
theorem cauB_right {es : List Ent} {ks : KidsL} {c : CtxL} (hr : CauRight es ks c) : cauB es ks c = encX es ks c := by unfold cauB; rw [tf_true hr, if_pos rfl]
end Go.Proofs.YtcahemkomfaabaaGreat
/- tributarylaw16: put: the walk. Printed by wip/put16gen.py. -/
namespace Go.Proofs.YtcahemkomfaabaaGreat
open Go.RowKit
theorem RdQ.old {w : World} {v : Value} {n : Nat} {xs : List Value} (h : Rd w v n xs) : RdQ (fun b => b < w.heap.size) w v n xs := ⟨h, fun hx k hk => by
 rcases h with ⟨ad, h1, h2, h3⟩ | ⟨b, off, c, rfl, h2, h3, h4⟩
 · exact absurd h3 hx
 · simp [Value.ownBlock] at hk
   subst hk
   cases xs with
   | nil => exact absurd rfl hx
   | cons x xs => exact World.block_lt_of_cell? _ _ (h4 0 x rfl)⟩
theorem pPutVec_all (ob : Nat) (w : World) (v : Value) (bs : List UInt8) (v0 v1 v2 v3 : Int) (ho : OutAt w ob v bs) (hb : bs.length ≤ 80000000) :
 Calls Tryz.prog 41 #[.pointer (some ⟨ob, 0, none⟩), .agg #[.int .i64 v0, .int .i64 v1, .int .i64 v2, .int .i64 v3]] w fun e w' => e = .returned (.tuple #[]) ∧ Put1 w ob v bs (vecB v0 v1 v2 v3) w' :=
 (pPutVector_any ob w v bs v0 v1 v2 v3 ho hb).mono fun e w' ⟨he, h1, h2⟩ => ⟨he, by
  unfold vecB
  by_cases hm : MayV (vecF v0 v1 v2 v3)
  · rw [if_pos (tf_true hm)]; exact h1 hm
  · rw [if_neg (by rw [tf_false hm]; decide)]; exact h2 hm⟩
theorem vecB_le {v0 v1 v2 v3 : Int} : (vecB v0 v1 v2 v3).length ≤ 40 := by
 unfold vecB
 have z := numB_le10 (v := 0) (by decide) (by decide)
 by_cases hm : MayV (vecF v0 v1 v2 v3)
 · rw [if_pos (tf_true hm)]
   have g0 : 0 ≤ v0 ∧ v0 ≤ 1099511627776 := hm 0 (by decide) (by decide)
   have g1 : 0 ≤ v1 ∧ v1 ≤ 1099511627776 := hm 1 (by decide) (by decide)
   have g2 : 0 ≤ v2 ∧ v2 ≤ 1099511627776 := hm 2 (by decide) (by decide)
   have g3 : 0 ≤ v3 ∧ v3 ≤ 1099511627776 := hm 3 (by decide) (by decide)
   have h0 := numB_le10 (v := v0) (by omega) (by omega)
   have h1 := numB_le10 (v := v1) (by omega) (by omega)
   have h2 := numB_le10 (v := v2) (by omega) (by omega)
   have h3 := numB_le10 (v := v3) (by omega) (by omega)
   unfold encV
   simp only [List.length_append]
   omega
 · rw [if_neg (by rw [tf_false hm]; decide)]
   unfold encV
   simp only [List.length_append]
   omega
end Go.Proofs.YtcahemkomfaabaaGreat
/- bundle: Put; tributaryref22: Bytes, of a right bundle: the walks. -/
namespace Go.Proofs.YtcahemkomfaabaaGreat
open Go.RowKit
theorem RdQ.keepP {Q : Nat → Prop} {w ww : World} {ob : Nat} {v u : Value} {bs cs : List UInt8} {n : Nat} {xs : List Value} (h : RdQ Q w u n xs) (hq : ∀ b, OutS ob v b → ¬ Q b) (hp : Put1 w ob v bs cs ww) : RdQ Q ww u n xs := by
 obtain ⟨_, _, _, f⟩ := hp
 exact h.keep f fun b _ hs => hq b hs
theorem TreeAt.keepP {Q : Nat → Prop} {w ww : World} {ob : Nat} {v ev kv : Value} {bs cs : List UInt8} {es : List Ent} {ks : KidsL} (h : TreeAt Q w ev kv es ks) (hq : ∀ b, OutS ob v b → ¬ Q b) (hp : Put1 w ob v bs cs ww) : TreeAt Q ww ev kv es ks := by
 obtain ⟨_, _, _, f⟩ := hp
 exact h.keep f fun b _ hs => hq b hs
set_option maxHeartbeats 4000000 in
set_option maxRecDepth 1000000 in
theorem bPut_yes (Q : Nat → Prop) (d : BunD) (hr : d.right) (hok : CauOk d.es d.ks d.c) (w : World) (ev kv cv : Value) (ht : TreeAt Q w ev kv d.es d.ks) (hc : CtxQ Q w cv d.c) (ob : Nat) (v : Value) (bs : List UInt8) (ho : OutAt w ob v bs) (hq : ∀ b, OutS ob v b → ¬ Q b) (hl : bs.length ≤ 70000000) :
 Calls Tryz.prog 42 #[.pointer (some ⟨ob, 0, none⟩), .agg #[.int .i64 d.dc, .int .i64 d.af, .int .i64 d.la, .int .i64 d.v0, .int .i64 d.v1, .int .i64 d.v2, .int .i64 d.v3, ev, kv, cv]] w fun e w' => e = .returned (.tuple #[]) ∧ Put1 w ob v bs d.enc w' := by
 obtain ⟨dc, af, la, v0, v1, v2, v3, es, ks, c⟩ := d
 dsimp only at hok ht hc
 have hr : BunRight dc af la (vecF v0 v1 v2 v3) es ks c := hr
 obtain ⟨n1, n2, n3, n4, n5, n6, n7⟩ := BunRight.nums hr
 have HENC := Lib.hid (show BunD.enc ⟨dc, af, la, v0, v1, v2, v3, es, ks, c⟩ = numB dc ++ numB af ++ numB la ++ encV v0 v1 v2 v3 ++ encX es ks c by unfold BunD.enc encB; simp only [List.append_assoc])
 have HV := Lib.hid (show vecB v0 v1 v2 v3 = encV v0 v1 v2 v3 from if_pos (tf_true n7))
 have HX := Lib.hid (cauB_right hr.cau)
 have l1 := numB_le10 (v := dc) (by omega) (by omega)
 have l2 := numB_le10 (v := af) (by omega) (by omega)
 have l3 := numB_le10 (v := la) (by omega) (by omega)
 have l4 := vecB_le (v0 := v0) (v1 := v1) (v2 := v2) (v3 := v3)
 rw [HV.out] at l4
 have hi1 : inR dc := ⟨by omega, by omega⟩
 have hi2 : inR af := ⟨by omega, by omega⟩
 have hi3 : inR la := ⟨by omega, by omega⟩
 have HBR := Lib.hid (fun W ev kv cv (h : CauAt Q W ev kv cv es ks c) => bRight_any Q es ks c W dc af la v0 v1 v2 v3 ev kv cv h hok)
 rw [tf_true hr] at HBR
 clear hr n1 n2 n3 n4 n5 n6 n7
 have hbx := heap_alloc_new w (.cells #[.int .i64 dc, .int .i64 af, .int .i64 la, .int .i64 v0, .int .i64 v1, .int .i64 v2, .int .i64 v3, ev, kv, cv] 64)
 have hnb : ¬ OutS ob v w.heap.size := fun hs => Nat.lt_irrefl _ (outS_lt ho _ hs)
 have fB := Frm.alloc NoS w (.cells #[.int .i64 dc, .int .i64 af, .int .i64 la, .int .i64 v0, .int .i64 v1, .int .i64 v2, .int .i64 v3, ev, kv, cv] 64)
 have HT := Lib.hid (fun W (f : Frm NoS w W) => ht.keep0 f)
 have HC := Lib.hid (fun W (f : Frm NoS w W) => hc.keep0 f)
 have HO := Lib.hid (fun W (f : Frm NoS w W) => ho.keep0 f)
 have HB := Lib.hid (fun W cs (hp : Put1 w ob v bs cs W) (h0 : ∃ W0, Frm NoS (w.alloc (.cells #[.int .i64 dc, .int .i64 af, .int .i64 la, .int .i64 v0, .int .i64 v1, .int .i64 v2, .int .i64 v3, ev, kv, cv] 64)) W0 ∧ Put1 W0 ob v bs cs W) => (show W.heap[w.heap.size]? = some (.cells #[.int .i64 dc, .int .i64 af, .int .i64 la, .int .i64 v0, .int .i64 v1, .int .i64 v2, .int .i64 v3, ev, kv, cv] 64 (0, 0)) by
  obtain ⟨W0, f0, hp0⟩ := h0
  obtain ⟨_, _, _, f3⟩ := hp0
  exact f3.blk (f0.blk hbx id) hnb))
 have HB0 := Lib.hid (fun W (f : Frm NoS (w.alloc (.cells #[.int .i64 dc, .int .i64 af, .int .i64 la, .int .i64 v0, .int .i64 v1, .int .i64 v2, .int .i64 v3, ev, kv, cv] 64)) W) => f.blk hbx id)
 obtain ⟨a1, c1, rfl⟩ := ht.ents.rd.sl
 obtain ⟨os, hkr, -⟩ := ht.kids
 obtain ⟨a2, c2, rfl⟩ := hkr.rd.sl
 obtain ⟨a3, c3, rfl⟩ := Rd.sl hc.at_
 have HFB := Lib.hid fB
 have HQ := Lib.hid hq
 have HOKC := Lib.hid hok
 clear ht hc ho hbx hnb fB hkr hq hok
 rw [HENC.out]
 generalize hgv : encV v0 v1 v2 v3 = bv at *
 have HGV := Lib.hid hgv; clear hgv
 generalize hgx : encX es ks c = bx at *
 have HGX := Lib.hid hgx; clear hgx
 go_enter Tryz.func42, Tryz.ntmps42
 go_wp2_with (first
  | (go_at_call 34; refine (HBR.out _ _ _ _ ⟨HT.out _ HFB.out, (HC.out _ HFB.out).at_⟩).mono ?_; rintro e w1 ⟨rfl, hf1⟩
     have hbk := HB0.out w1 hf1
     have x0 := cell_at' hbk 0 rfl
     have HF1 := Lib.hid hf1
     have HPS := Lib.hid (Put1.start (HO.out w1 (HFB.out.then1 hf1)))
     have HTW := Lib.hid (HT.out w1 (HFB.out.then1 hf1))
     have HCW := Lib.hid (HC.out w1 (HFB.out.then1 hf1))
     have HBK := Lib.hid (fun W cs (hp : Put1 w1 ob v bs cs W) => HB.out W cs (hp.base (HFB.out.then1 hf1)) ⟨w1, hf1, hp⟩)
     clear hf1 hbk)
  | (go_at_call 40; first
    | (have q9 := HP2; clear q9 x0; refine (putNum HP2.out la hi3 (by first | omega | (simp only [List.length_append]; omega))).mono ?_; rintro e w4 ⟨rfl, hp4⟩
       have hbk := HBK.out _ _ hp4
       have x0 := cell_at' hbk 3 rfl
       have x1 := cell_at' hbk 4 rfl
       have x2 := cell_at' hbk 5 rfl
       have x3 := cell_at' hbk 6 rfl
       have HP3 := Lib.hid hp4
       clear hp4 hbk)
    | (have q9 := HP1; clear q9 x0; refine (putNum HP1.out af hi2 (by first | omega | (simp only [List.length_append]; omega))).mono ?_; rintro e w3 ⟨rfl, hp3⟩
       have hbk := HBK.out _ _ hp3
       have x0 := cell_at' hbk 2 rfl
       have HP2 := Lib.hid hp3
       clear hp3 hbk)
    | (clear x0; refine (putNum HPS.out dc hi1 (by first | omega | (simp only [List.length_nil]; omega))).mono ?_; rintro e w2 ⟨rfl, hp2⟩
       rw [List.nil_append] at hp2
       have hbk := HBK.out _ _ hp2
       have x0 := cell_at' hbk 1 rfl
       have HP1 := Lib.hid hp2
       clear hp2 hbk))
  | (go_at_call 41; clear x0 x1 x2 x3; refine (HP3.out.call (ds := bv) fun v' ho' _ _ => (pPutVec_all ob w4 v' _ v0 v1 v2 v3 ho' (by first | omega | (simp only [List.length_append]; omega))).mono fun e w' h => ⟨h.1, by rw [HV.out] at h; exact h.2⟩).mono ?_; rintro e w5 ⟨rfl, hp5⟩
     have hbk := HBK.out _ _ hp5
     have x0 := cell_at' hbk 7 rfl
     have x1 := cell_at' hbk 8 rfl
     have x2 := cell_at' hbk 9 rfl
     have HP4 := Lib.hid hp5
     have HT5 := Lib.hid (HTW.out.keepP HQ.out hp5)
     have HC5 := Lib.hid (show CtxQ Q w5 (.slice a3 c.length c3) c from RdQ.keepP HCW.out HQ.out hp5)
     clear hp5 hbk)
  | (go_at_call 43; refine (HP4.out.call (ds := bx) fun v' ho' _ _ => (pPutCausal_any Q ob w5 v' _ es ks c _ _ _ ho' ⟨HT5.out, HC5.out.at_⟩ HOKC.out (by first | omega | (simp only [List.length_append]; omega))).mono fun e w' h => ⟨h.1, by rw [HX.out] at h; exact h.2⟩).mono ?_; rintro e w6 ⟨rfl, hp6⟩; have HP5 := Lib.hid hp6; clear hp6))
 go_end0
 exact ⟨rfl, HP5.out.base (HFB.out.then1 HF1.out)⟩
end Go.Proofs.YtcahemkomfaabaaGreat
/- crc; tributaryref03: the walks. -/
namespace Go.Proofs.YtcahemkomfaabaaGreat
open Go.RowKit
theorem ofInt_nat32 (a : BitVec 32) : BitVec.ofInt 32 (a.toNat : Int) = a := by
 rw [BitVec.ofInt_natCast, BitVec.ofNat_toNat]
 rfl
theorem wrap_nat32 (a : BitVec 32) : IntKind.u32.wrap (a.toNat : Int) = (a.toNat : Int) := by
 have := a.isLt
 rw [IntKind.wrap_u32]
 omega
theorem bits_xor_u32 (a b : BitVec 32) : bits BinOp.xor IntKind.u32 (a.toNat : Int) (b.toNat : Int) = ((a ^^^ b).toNat : Int) := by
 show IntKind.u32.wrap ((BitVec.ofInt 32 (a.toNat : Int) ^^^ BitVec.ofInt 32 (b.toNat : Int)).toNat : Int) = _
 rw [ofInt_nat32, ofInt_nat32, wrap_nat32]
theorem bits_and_u32 (a b : BitVec 32) : bits BinOp.and IntKind.u32 (a.toNat : Int) (b.toNat : Int) = ((a &&& b).toNat : Int) := by
 show IntKind.u32.wrap ((BitVec.ofInt 32 (a.toNat : Int) &&& BitVec.ofInt 32 (b.toNat : Int)).toNat : Int) = _
 rw [ofInt_nat32, ofInt_nat32, wrap_nat32]
theorem and_one (c : BitVec 32) : bits BinOp.and IntKind.u32 (c.toNat : Int) 1 = if c.getLsbD 0 = true then 1 else 0 := by
 have h := bits_and_u32 c 1#32
 rw [show ((1#32).toNat : Int) = 1 from rfl] at h
 rw [h, BitVec.toNat_and]
 have e : c.toNat &&& (1#32).toNat = c.toNat % 2 := Nat.and_one_is_mod _
 have g : c.getLsbD 0 = decide (c.toNat % 2 = 1) := by
  rw [BitVec.getLsbD, Nat.testBit_zero]
 rw [e, g]
 have := Nat.mod_two_eq_zero_or_one c.toNat
 rcases this with h | h <;> rw [h] <;> simp
theorem xor_P (c : BitVec 32) : bits BinOp.xor IntKind.u32 (c.toNat : Int) 2197175160 = ((c ^^^ Crc.P).toNat : Int) := bits_xor_u32 c Crc.P
theorem xor_ones32 (c : BitVec 32) : bits BinOp.xor IntKind.u32 (c.toNat : Int) 4294967295 = ((c ^^^ BitVec.allOnes 32).toNat : Int) := bits_xor_u32 c (BitVec.allOnes 32)
theorem xor_byte (c : BitVec 32) (b : UInt8) : bits BinOp.xor IntKind.u32 (c.toNat : Int) (b.toNat : Int) = ((c ^^^ BitVec.ofNat 32 b.toNat).toNat : Int) := by
 have h := bits_xor_u32 c (BitVec.ofNat 32 b.toNat)
 have e : (BitVec.ofNat 32 b.toNat).toNat = b.toNat := by
  rw [BitVec.toNat_ofNat]
  have := b.toNat_lt
  omega
 rw [e] at h
 exact h
theorem shr_one (c : BitVec 32) : ((c >>> 1).toNat : Int) = (c.toNat : Int) / 2 := by
 rw [BitVec.toNat_ushiftRight, Nat.shiftRight_eq_div_pow]
 omega
set_option maxHeartbeats 1000000 in
set_option maxRecDepth 1000000 in
theorem crcAdd_any (c0 : BitVec 32) (b : UInt8) (w : World) : Calls Tryz.prog 140 #[.int .u32 c0.toNat, .int .u8 b.toNat] w fun e w' => e = .returned (.int .u32 (Crc.add c0 b).toNat) ∧ w = w' := by
 have hb := b.toNat_lt
 have hw : IntKind.u32.wrap (b.toNat : Int) = (b.toNat : Int) := by rw [IntKind.wrap_u32]; omega
 go_enter Tryz.func140, Tryz.ntmps140
 go_wp2
 clear hw
 go_loopw [0, 10] (fun c i W => ∃ k : Nat, k ≤ 8 ∧ i = .int .i64 k ∧ c = .int .u32 (Crc.stN k (c0 ^^^ BitVec.ofNat 32 b.toNat)).toNat ∧ W = w) (fun _ i _ => 8 - (intOf i).toNat)
 case atStart => exact ⟨0, by omega, rfl, by rw [xor_byte]; rfl, rfl⟩
 case round =>
  obtain ⟨k, hk, rfl, rfl, rfl⟩ := hrel
  by_cases hlt : k < 8
  · have hst : Crc.stN (k + 1) (c0 ^^^ BitVec.ofNat 32 b.toNat) = Crc.st (Crc.stN k (c0 ^^^ BitVec.ofNat 32 b.toNat)) := rfl
    have HST := Lib.hid hst; clear hst
    generalize hc : Crc.stN k (c0 ^^^ BitVec.ofNat 32 b.toNat) = c at *
    have HC := Lib.hid hc; clear hc
    have h1 := and_one c
    have h2 := shr_one c
    have h3 := xor_P (c >>> 1)
    have hcl := c.isLt
    cases hbit : c.getLsbD 0 with
    | true =>
     rw [hbit, if_pos rfl] at h1
     have HE := Lib.hid (show Crc.st c = (c >>> 1) ^^^ Crc.P from if_pos hbit)
     go_wp2
     go_roundw
     case rel => exact ⟨k + 1, by omega, by go_num, by rw [HST.out, HE.out, ← h3, h2], trivial⟩
     case measure => simp [intOf]; omega
    | false =>
     rw [hbit, if_neg (by decide)] at h1
     have HE := Lib.hid (show Crc.st c = c >>> 1 from if_neg (by rw [hbit]; decide))
     go_wp2
     go_roundw
     case rel => exact ⟨k + 1, by omega, by go_num, by rw [HST.out, HE.out, h2], trivial⟩
     case measure => simp [intOf]; omega
  · obtain rfl : k = 8 := by omega
    go_wp2
    go_ret
    exact ⟨rfl, rfl⟩
theorem u8_get {w : World} {b off c n : Nat} {l : List UInt8} (h : Rd w (.slice (some ⟨b, off, none⟩) n c) n (bV l)) (k : Nat) (hk : k < l.length) : w.cell? ⟨b, off + k, none⟩ = some (.int .u8 (l.getD k 0).toNat) := by
 rcases h with ⟨ad, h1, h2, h3⟩ | ⟨b', off', c', h1, h2, h3, h4⟩
 · have h0 : l = [] := by simpa [bV] using h3
   subst h0
   cases hk
 · injection h1 with e1 e2 e3
   injection e1 with e1
   injection e1 with e1 e4
   subst e1 e4
   refine h4 k _ ?_
   unfold bV
   rw [List.getElem?_map, List.getElem?_eq_getElem hk, List.getD_eq_getElem?_getD, List.getElem?_eq_getElem hk]
   rfl
theorem foldl_take {α : Type} (f : α → UInt8 → α) (c : α) {l : List UInt8} {k : Nat} (h : k < l.length) : (l.take (k + 1)).foldl f c = f ((l.take k).foldl f c) (l.getD k 0) := by
 rw [List.take_add_one, List.getElem?_eq_getElem h, List.foldl_append, List.getD_eq_getElem?_getD, List.getElem?_eq_getElem h]
 rfl
set_option maxHeartbeats 1000000 in
set_option maxRecDepth 1000000 in
theorem crcCRC_any (bs : List UInt8) (v : Value) (w : World) (h : Rd w v bs.length (bV bs)) : Calls Tryz.prog 100 #[v] w fun e w' => e = .returned (.int .u32 (Crc.sum bs)) ∧ w = w' := by
 obtain ⟨a0, c0, rfl⟩ : ∃ a c, v = .slice a bs.length c := by
  rcases h with ⟨ad, rfl, h2, h3⟩ | ⟨b, off, c, rfl, _⟩
  · exact ⟨ad, 0, by rw [h2]⟩
  · exact ⟨_, _, rfl⟩
 have HH := Lib.hid h; clear h
 generalize hn : bs.length = n at *
 have HN := Lib.hid hn; clear hn
 have H0 := Lib.hid (show (4294967295 : Int) = ((Crc.all (BitVec.allOnes 32) (bs.take 0)).toNat : Int) from rfl)
 go_enter Tryz.func100, Tryz.ntmps100
 go_wp2
 go_loopw [3, 8] (fun c i W => ∃ k : Nat, k ≤ n ∧ i = .int .i64 k ∧ c = .int .u32 (Crc.all (BitVec.allOnes 32) (bs.take k)).toNat ∧ W = w) (fun _ i _ => n - (intOf i).toNat)
 case atStart => exact ⟨0, Nat.zero_le _, rfl, by rw [← H0.out], rfl⟩
 case round =>
  obtain ⟨k, hk, rfl, rfl, rfl⟩ := hrel
  by_cases hlt : k < n
  · have hkl : k < bs.length := by rw [HN.out]; exact hlt
    have hrd := HH.out
    rcases hrd with ⟨ad, he, hz, -⟩ | ⟨b, off, cc, he, hm1, hm2, -⟩
    · exfalso; omega
    injection he with e1 e2 e3
    subst e1 e3
    clear e2
    have hmx : (n : Int) ≤ 9223372036854775807 := by simp only [maxLen] at hm2; omega
    clear hm1 hm2
    have q0 := u8_get HH.out k hkl
    have HST := Lib.hid (show Crc.all (BitVec.allOnes 32) (bs.take (k + 1)) = Crc.add (Crc.all (BitVec.allOnes 32) (bs.take k)) (bs.getD k 0) from foldl_take Crc.add _ hkl)
    generalize bs.getD k 0 = x at *
    generalize Crc.all (BitVec.allOnes 32) (bs.take k) = c at *
    have HA := Lib.hid (crcAdd_any c x wr)
    go_wp2_with (go_at_call 140; refine HA.out.mono ?_; rintro e w1 ⟨rfl, rfl⟩)
    go_roundw
    case rel => exact ⟨k + 1, by omega, by go_num, by rw [HST.out], trivial⟩
    case measure => simp [intOf]; omega
  · obtain rfl : n = k := by omega
    have HT := Lib.hid (show Crc.sum bs = (Crc.all (BitVec.allOnes 32) (bs.take bs.length) ^^^ BitVec.allOnes 32).toNat by rw [List.take_length]; rfl)
    rw [HN.out] at HT
    generalize Crc.all (BitVec.allOnes 32) (bs.take n) = c at *
    have hx := xor_ones32 c
    go_wp2
    go_ret
    exact ⟨by rw [HT.out, BitVec.toNat_xor]; rfl, rfl⟩
end Go.Proofs.YtcahemkomfaabaaGreat
/- frame; tributaryref04: the small walks. -/
namespace Go.Proofs.YtcahemkomfaabaaGreat
open Go.RowKit
theorem copy_alloc (w : World) (bs : List UInt8) (hl : bs.length ≤ 1000) : Copy w (.slice (some ⟨w.heap.size, 0, none⟩) bs.length bs.length) bs (w.alloc (.cells (bV bs).toArray 5)) := by
 have hn : (bV bs).length = bs.length := by simp [bV]
 refine ⟨⟨by simp [hn], .inr ⟨w.heap.size, bs.length, _, rfl, Nat.zero_le _, heap_alloc_new w _, Nat.le_refl _, by simp only [maxLen]; omega, by simp [hn], ?_⟩⟩, fun k hk => ?_, Frm.alloc _ _ _, _, _, rfl⟩
 · rw [List.toList_toArray, Nat.mul_one]
   exact List.take_of_length_le (by rw [hn]; exact Nat.le_refl _)
 · simp [Value.ownBlock] at hk
   omega
theorem four_cells' (n : Nat) : (bV (Crc.four n)).toArray = #[.int .u8 ((n : Int) % 256), .int .u8 ((n : Int) / 256 % 256), .int .u8 ((n : Int) / 65536 % 256), .int .u8 ((n : Int) / 16777216 % 256)] := by
 unfold bV Crc.four
 simp only [List.map_cons, List.map_nil, UInt8.toNat_ofNat']
 rfl
set_option maxRecDepth 100000 in
theorem frFour_any (n : Nat) (hn : n < 4294967296) (w : World) : Calls Tryz.prog 99 #[.int .u32 n] w (Ret w (Crc.four n)) := by
 have h := copy_alloc w (Crc.four n) (by rw [Crc.four_len]; decide)
 go_enter Tryz.func99, Tryz.ntmps99
 go_wp2
 go_ret
 rw [four_cells', show (n : Int) / 16777216 % 256 = n / 16777216 by omega] at h
 exact ⟨_, _, Crc.four n, rfl, rfl, h⟩
theorem or_shift (x y i m : Nat) (hm : 2 ^ i = m) (hx : x < m) (hl : y * m + x < 4294967296) : bits BinOp.or IntKind.u32 (x : Int) ((y : Int) * (m : Int)) = ((y * m + x : Nat) : Int) := by
 subst hm
 have h := Nat.shiftLeft_add_eq_or_of_lt hx y
 rw [Nat.shiftLeft_eq] at h
 have e : (y : Int) * ((2 ^ i : Nat) : Int) = ((y * 2 ^ i : Nat) : Int) := by rw [Int.natCast_mul]
 rw [e]
 generalize y * 2 ^ i = z at *
 show IntKind.u32.wrap ((BitVec.ofInt 32 (x : Int) ||| BitVec.ofInt 32 (z : Int)).toNat : Int) = _
 rw [BitVec.ofInt_natCast, BitVec.ofInt_natCast, BitVec.toNat_or, BitVec.toNat_ofNat, BitVec.toNat_ofNat, Nat.mod_eq_of_lt (by show x < 4294967296; omega), Nat.mod_eq_of_lt (by show z < 4294967296; omega), Nat.or_comm, ← h, IntKind.wrap_u32]
 omega
set_option maxHeartbeats 1000000 in
set_option maxRecDepth 100000 in
theorem frNumber_any (l : List UInt8) (hl : 4 ≤ l.length) (b off c n : Nat) (w : World) (h : Rd w (.slice (some ⟨b, off, none⟩) n c) n (bV l)) (hnl : l.length = n) : Calls Tryz.prog 143 #[.slice (some ⟨b, off, none⟩) n c] w fun e w' => e = .returned (.int .u32 (Crc.numb l)) ∧ Frm NoS w w' := by
 have q0 := u8_get h 0 (by omega)
 have q1 := u8_get h 1 (by omega)
 have q2 := u8_get h 2 (by omega)
 have q3 := u8_get h 3 (by omega)
 rw [Nat.add_zero] at q0
 have h4 : (4 : Int) ≤ n := by omega
 have HNB := Lib.hid (show Crc.numb l = (l.getD 0 0).toNat + 256 * (l.getD 1 0).toNat + 65536 * (l.getD 2 0).toNat + 16777216 * (l.getD 3 0).toNat from rfl)
 have b0 := (l.getD 0 0).toNat_lt
 have b1 := (l.getD 1 0).toNat_lt
 have b2 := (l.getD 2 0).toNat_lt
 have b3 := (l.getD 3 0).toNat_lt
 generalize (l.getD 0 0).toNat = x0 at *
 generalize (l.getD 1 0).toNat = x1 at *
 generalize (l.getD 2 0).toNat = x2 at *
 generalize (l.getD 3 0).toNat = x3 at *
 have w0 : IntKind.u32.wrap (x0 : Int) = x0 := by rw [IntKind.wrap_u32]; omega
 have w1 : IntKind.u32.wrap (x1 : Int) = x1 := by rw [IntKind.wrap_u32]; omega
 have w2 : IntKind.u32.wrap (x2 : Int) = x2 := by rw [IntKind.wrap_u32]; omega
 have w3 : IntKind.u32.wrap (x3 : Int) = x3 := by rw [IntKind.wrap_u32]; omega
 clear h hnl hl
 go_enter Tryz.func143, Tryz.ntmps143
 go_wp2_with (fail)
 go_big_quiet (fail)
 go_wp2
 go_ret
 refine ⟨?_, Frm.drewN NoS w _⟩
 have e1 := or_shift x0 x1 8 256 (by decide) (by omega) (by omega)
 have e2 := or_shift (x1 * 256 + x0) x2 16 65536 (by decide) (by omega) (by omega)
 have e3 := or_shift (x2 * 65536 + (x1 * 256 + x0)) x3 24 16777216 (by decide) (by omega) (by omega)
 rw [HNB.out]
 have e4 : bits BinOp.or IntKind.u32 (bits BinOp.or IntKind.u32 (bits BinOp.or IntKind.u32 (x0 : Int) ((x1 : Int) * 256)) ((x2 : Int) * 65536)) ((x3 : Int) * 16777216) = ((x0 + 256 * x1 + 65536 * x2 + 16777216 * x3 : Nat) : Int) := by
  refine ((congrArg (fun z => bits BinOp.or IntKind.u32 (bits BinOp.or IntKind.u32 z ((x2 : Int) * 65536)) ((x3 : Int) * 16777216)) e1).trans ((congrArg (fun z => bits BinOp.or IntKind.u32 z ((x3 : Int) * 16777216)) e2).trans (e3.trans ?_)))
  omega
 rw [← e4]
 rfl
end Go.Proofs.YtcahemkomfaabaaGreat
/- frame: Frame, long; tributaryref04: Frame: the walks. -/
namespace Go.Proofs.YtcahemkomfaabaaGreat
open Go.RowKit
theorem rd_sl {w : World} {v : Value} {n : Nat} {xs : List Value} (h : Rd w v n xs) : ∃ a c, v = .slice a n c := by
 rcases h with ⟨ad, rfl, h2, h3⟩ | ⟨b, off, c, rfl, _⟩
 · exact ⟨ad, 0, by rw [h2]⟩
 · exact ⟨_, _, rfl⟩
theorem rd_keep0 {w w' : World} {v : Value} {n : Nat} {xs : List Value} (h : Rd w v n xs) (f : Frm NoS w w') : Rd w' v n xs := h.keep f fun _ _ h => h
set_option maxHeartbeats 1000000 in
set_option maxRecDepth 1000000 in
theorem frFrame_ok (bs : List UInt8) (v : Value) (w : World) (h : Rd w v bs.length (bV bs)) (hl : bs.length ≤ 60000) :
 Calls Tryz.prog 45 #[v] w fun e w' => ∃ a c, e = .returned (.tuple #[.slice a (Crc.frameB bs).length c, .int .i64 0]) ∧ Copy w (.slice a (Crc.frameB bs).length c) (Crc.frameB bs) w' := by
 obtain ⟨a0, c0, rfl⟩ := rd_sl h
 have HH := Lib.hid (fun W (f : Frm NoS w W) => rd_keep0 h f); clear h
 have HFL := Lib.hid (Crc.four_len bs.length)
 have HFB := Lib.hid (show Crc.frameB bs = (Crc.four bs.length ++ bs) ++ Crc.four (Crc.sum (Crc.four bs.length ++ bs)) from rfl)
 have h6 : (bs.length : Int) ≤ 60000 := by omega
 have HF := Lib.hid (fun W => frFour_any bs.length (by omega) W)
 have hcv : IntKind.u32.wrap (bs.length : Int) = (bs.length : Int) := by rw [IntKind.wrap_u32]; omega
 generalize Crc.four bs.length = hd at *
 generalize hn : bs.length = n at *
 have HN := Lib.hid hn; clear hn
 go_enter Tryz.func45, Tryz.ntmps45
 go_wp2_with (first
  | (go_at_call 99; refine (HF.out _).mono ?_; rintro e w1 ⟨a1, c1, t1, ht1, rfl, cp1⟩; have HT1 := Lib.hid ht1; clear ht1; have HC1 := Lib.hid cp1; clear cp1)
  | (at_builtin; refine app_cp w w1 rfl (.tmp 11) (.tmp 12) rfl _ t1 HC1.out _ bs rfl rfl (by rw [HN.out]; exact HH.out _ HC1.out.frm) ?c1 ?_))
 case c1 => rw [HT1.out, HFL.out, HN.out]; omega
 intro a2 c2 w2 t2 HT2 hc2 _ _
 have HC2 := Lib.hid hc2; clear hc2
 have HL2 := Lib.hid (show t2.length ≤ 70000 by rw [HT2.out, List.length_append, HT1.out, HFL.out, HN.out]; omega)
 have HCR := Lib.hid (crcCRC_any t2 _ w2 HC2.out.rd)
 have hsl := Crc.sum_lt t2
 have HS := Lib.hid (fun W => frFour_any (Crc.sum t2) hsl W)
 generalize hsm : Crc.sum t2 = sm at *
 have HSM := Lib.hid hsm; clear hsm
 go_wp2_with (first
  | (go_at_call 100; refine HCR.out.mono ?_; rintro e w3 ⟨rfl, rfl⟩)
  | (go_at_call 99; refine (HS.out _).mono ?_; rintro e w4 ⟨a4, c4, t4, ht4, rfl, cp4⟩; have HT4 := Lib.hid ht4; clear ht4; have HP4 := Lib.hid (HC2.out.step cp4.frm); have HC4 := Lib.hid cp4; clear cp4)
  | (at_builtin; refine app_cp w w4 rfl (.tmp 14) (.tmp 17) rfl _ t2 HP4.out _ t4 rfl rfl HC4.out.rd ?c2 ?_))
 case c2 => have := HL2.out; rw [HT4.out, Crc.four_len]; omega
 intro a5 c5 w5 t5 HT5 hc5 _ _
 have HC5 := Lib.hid hc5; clear hc5
 have HE := Lib.hid (show t5 = Crc.frameB bs by rw [HT5.out, HFB.out, HT4.out, ← HSM.out, HT2.out, HT1.out])
 go_wp2
 go_ret2
 rw [← HE.out]
 exact ⟨a5, c5, rfl, HC5.out⟩
set_option maxHeartbeats 1000000 in
set_option maxRecDepth 1000000 in
theorem frLong_any (l : List UInt8) (v : Value) (w : World) (h : Rd w v l.length (bV l)) :
 Calls Tryz.prog 106 #[v] w fun e w' => e = .returned (.tuple #[.int .i64 (if l.length < 8 then 0 else (Crc.numb l : Int)), .bool (if l.length < 8 then false else (decide ((Crc.numb l : Int) ≤ 60000) && decide ((Crc.numb l : Int) ≤ (l.length : Int) - 8)))]) ∧ Frm NoS w w' := by
 by_cases hl : l.length < 8
 · rw [if_pos hl, if_pos hl]
   obtain ⟨a0, c0, rfl⟩ := rd_sl h
   clear h
   have h4 : (l.length : Int) < 8 := by omega
   generalize l.length = n at *
   go_enter Tryz.func106, Tryz.ntmps106
   go_wp2
   go_ret2
   exact ⟨rfl, Frm.refl _ _⟩
 · rw [if_neg hl, if_neg hl]
   have h' := h
   rcases h with ⟨ad, rfl, h2, h3⟩ | ⟨b, off, c, rfl, hm1, hm2, -⟩
   · omega
   have HNU := Lib.hid (frNumber_any l (by omega) b off c l.length w h' rfl)
   have hnl := Crc.numb_lt l
   have h4 : ¬ (l.length : Int) < 8 := by omega
   have hmx : (l.length : Int) ≤ 9223372036854775807 := by simp only [maxLen] at hm2; omega
   have hwr : IntKind.i64.wrap ((l.length : Int) - 8) = (l.length : Int) - 8 := by rw [IntKind.wrap_i64]; omega
   have hcv : IntKind.i64.wrap (Crc.numb l : Int) = (Crc.numb l : Int) := by rw [IntKind.wrap_i64]; omega
   generalize Crc.numb l = m at *
   clear h' hl hm1 hm2
   generalize l.length = n at *
   by_cases h6 : m ≤ 60000
   · have h7 : (m : Int) ≤ 60000 := by omega
     by_cases h8 : (m : Int) ≤ (n : Int) - 8
     · rw [decide_eq_true h7, decide_eq_true h8]
       go_enter Tryz.func106, Tryz.ntmps106
       go_wp2_with (go_at_call 143; refine HNU.out.mono ?_; rintro e w1 ⟨rfl, hf1⟩; have HF1 := Lib.hid hf1; clear hf1)
       go_ret2
       exact ⟨by first | rfl | (simp; done) | (simp; omega), HF1.out⟩
     · rw [decide_eq_true h7, decide_eq_false h8]
       go_enter Tryz.func106, Tryz.ntmps106
       go_wp2_with (go_at_call 143; refine HNU.out.mono ?_; rintro e w1 ⟨rfl, hf1⟩; have HF1 := Lib.hid hf1; clear hf1)
       go_ret2
       exact ⟨by first | rfl | (simp; done) | (simp; omega), HF1.out⟩
   · have h7 : ¬ (m : Int) ≤ 60000 := by omega
     rw [decide_eq_false h7]
     go_enter Tryz.func106, Tryz.ntmps106
     go_wp2_with (go_at_call 143; refine HNU.out.mono ?_; rintro e w1 ⟨rfl, hf1⟩; have HF1 := Lib.hid hf1; clear hf1)
     go_ret2
     exact ⟨by first | rfl | (simp; done) | (simp; omega), HF1.out⟩
end Go.Proofs.YtcahemkomfaabaaGreat
/- frame: first, One: the walks. -/
namespace Go.Proofs.YtcahemkomfaabaaGreat
open Go.RowKit
theorem rd_part {w : World} {b off n c : Nat} {l : List UInt8} (h : Rd w (.slice (some ⟨b, off, none⟩) n c) n (bV l)) (hn : l.length = n) (i k c' : Nat) (hik : i + k ≤ n) (hc : k ≤ c') (hm : c' ≤ maxLen) : Rd w (.slice (some ⟨b, off + i, none⟩) k c') k (bV ((l.drop i).take k)) := by
 have hlen : ((l.drop i).take k).length = k := by rw [List.length_take, List.length_drop]; omega
 refine .inr ⟨b, off + i, c', rfl, hc, hm, fun j u hu => ?_⟩
 rcases h with ⟨ad, h1, h2, h3⟩ | ⟨b', off', c'', h1, h2, h3, h4⟩
 · have : l = [] := by simpa [bV] using h3
   subst this
   simp [bV] at hu
 · injection h1 with e1 e2 e3
   injection e1 with e1
   injection e1 with e1 e4
   subst e1 e4
   have hj : j < k := by
    have := (List.getElem?_eq_some_iff.1 hu).1
    rw [bV, List.length_map, hlen] at this
    exact this
   have := h4 (i + j) u (by
    rw [← hu, bV, bV, List.getElem?_map, List.getElem?_map, List.getElem?_take_of_lt hj, List.getElem?_drop])
   rwa [← Nat.add_assoc] at this
def FirstPost (w : World) (ok : Bool) (mid : List UInt8) (e : Ending) (w' : World) : Prop :=
 match ok with
 | true => ∃ a c', e = .returned (.tuple #[.slice a mid.length c', .bool true]) ∧ Copy w (.slice a mid.length c') mid w'
 | false => e = .returned (.tuple #[.slice none 0 0, .bool false]) ∧ Frm NoS w w'
set_option maxHeartbeats 1000000 in
set_option maxRecDepth 1000000 in
theorem frFirst_any (l : List UInt8) (b off c n m : Nat) (w : World) (h : Rd w (.slice (some ⟨b, off, none⟩) n c) n (bV l)) (hn : l.length = n) (hcn : n ≤ c) (hcm : c ≤ maxLen) (hm : Crc.numb l = m) (h6 : m ≤ 60000) (hmn : m + 8 = n) :
 Calls Tryz.prog 107 #[.slice (some ⟨b, off, none⟩) n c] w (FirstPost w (decide (Crc.sum (l.take (4 + m)) = Crc.numb (l.drop (4 + m)))) ((l.drop 4).take m)) := by
 have HL := Lib.hid (frLong_any l (.slice (some ⟨b, off, none⟩) n c) w (by rw [hn]; exact h))
 have hmi : (m : Int) ≤ 60000 := by omega
 have hm8 : (m : Int) ≤ (n : Int) - 8 := by omega
 rw [hn, hm, if_neg (by omega), if_neg (by omega), decide_eq_true hmi, decide_eq_true hm8] at HL
 have hmx : (c : Int) ≤ 9223372036854775807 := by simp only [maxLen] at hcm; omega
 obtain ⟨K, hK⟩ : ∃ K, K = 4 + m := ⟨_, rfl⟩
 have HP1 := Lib.hid (fun W (f : Frm NoS w W) => rd_keep0 (rd_part h hn 0 K c (by omega) (by omega) hcm) f)
 have HP2 := Lib.hid (fun W (f : Frm NoS w W) => rd_keep0 (rd_part h hn K (n - K) (c - K) (by omega) (by omega) (by omega)) f)
 have HP3 := Lib.hid (fun W (f : Frm NoS w W) => rd_keep0 (rd_part h hn 4 m (c - 4) (by omega) (by omega) (by omega)) f)
 have e1 : (l.drop 0).take K = l.take K := rfl
 have e2 : (l.drop K).take (n - K) = l.drop K := List.take_of_length_le (by rw [List.length_drop]; omega)
 rw [e1] at HP1
 rw [e2] at HP2
 have hl2 : (l.drop K).length = n - K := by rw [List.length_drop]; omega
 have hl1 : (l.take K).length = K := by rw [List.length_take]; omega
 have hl3 : ((l.drop 4).take m).length = m := by rw [List.length_take, List.length_drop]; omega
 have HCR := Lib.hid (fun W (f : Frm NoS w W) => Calls.mono (crcCRC_any (l.take K) (.slice (some ⟨b, off + 0, none⟩) K c) W (by rw [hl1]; exact HP1.out W f)) fun e w' h => (⟨h.1, h.2 ▸ Frm.refl _ _⟩ : e = .returned (.int .u32 (Crc.sum (l.take K))) ∧ Frm NoS W w'))
 have HNU := Lib.hid (fun W (f : Frm NoS w W) => frNumber_any (l.drop K) (by omega) b (off + K) (c - K) (n - K) W (HP2.out W f) hl2)
 have HCL := Lib.hid (fun W (f : Frm NoS w W) => clone_any W (.slice (some ⟨b, off + 4, none⟩) (K - 4) (c - 4)) ((l.drop 4).take m) (by rw [hl3, ← show m = K - 4 by omega]; exact HP3.out W f) (by omega))
 rw [Nat.add_zero] at HCR
 have hc4 : ¬ c = 4 := by omega
 rw [← hK]
 generalize (l.drop 4).take m = mid at *
 have HL3 := Lib.hid hl3; clear hl3
 generalize Crc.sum (l.take K) = sm at *
 generalize Crc.numb (l.drop K) = nb at *
 have hwk : IntKind.i64.wrap (4 + (m : Int)) = (K : Int) := by rw [IntKind.wrap_i64]; omega
 have hk1 : (K : Int) ≤ (c : Int) := by omega
 have hk2 : (K : Int) ≤ (n : Int) := by omega
 have hk3 : ¬ c = K := by omega
 have hk4 : (4 : Int) ≤ (K : Int) := by omega
 have HKM := Lib.hid hK
 have hnc : (n : Int) ≤ (c : Int) := by omega
 clear h e1 e2 hl2 hl1 HP1 HP2 HP3 hK hm hn hmn hcm hcn h6
 cases hq : decide (sm = nb) with
 | true =>
  obtain rfl : sm = nb := of_decide_eq_true hq
  clear hq
  unfold FirstPost
  dsimp only
  go_enter Tryz.func107, Tryz.ntmps107
  go_wp2_with (go_at_call 106; refine HL.out.mono ?_; rintro e w1 ⟨rfl, hf1⟩; have HF1 := Lib.hid hf1; clear hf1)
  obtain ⟨α, hne, KK, hK1, hK0, hK2⟩ := worlds w1
  refine wp_region_new KK (by kernel_rfl) (by kernel_rfl) hK0 ?_
  repeat (go_big_quiet_step ((first | (go_at_call 100; exact Calls.in_class hK2 (HCR.out _ (HF1.out.then1 (hK1 _)))) | (go_at_call 143; exact Calls.in_class hK2 (HNU.out _ (HF1.out.then1 (hK1 _)))))))
  refine wpQuiet_nil ?_
  intro w' hw'
  obtain ⟨s1, rfl⟩ := hw'
  have HF2 := Lib.hid (HF1.out.then1 (hK1 s1))
  clear hK0 hK2 hK1
  generalize KK s1 = w2 at *
  go_wp2_with (go_at_call 98; refine (HCL.out _ HF2.out).mono ?_; rintro e w3 ⟨v3, rfl, cp3⟩; obtain ⟨a3, c3, rfl⟩ := cp3.shape; have HC3 := Lib.hid cp3; clear cp3)
  go_ret2
  exact ⟨a3, c3, rfl, HC3.out.weaken HF2.out⟩
 | false =>
  have he : ¬ sm = nb := of_decide_eq_false hq
  have hb : ((sm : Int) != (nb : Int)) = true := by simp [bne]; omega
  clear hq he
  unfold FirstPost
  dsimp only
  go_enter Tryz.func107, Tryz.ntmps107
  go_wp2_with (go_at_call 106; refine HL.out.mono ?_; rintro e w1 ⟨rfl, hf1⟩; have HF1 := Lib.hid hf1; clear hf1)
  obtain ⟨α, hne, KK, hK1, hK0, hK2⟩ := worlds w1
  refine wp_region_new KK (by kernel_rfl) (by kernel_rfl) hK0 ?_
  repeat (go_big_quiet_step ((first | (go_at_call 100; exact Calls.in_class hK2 (HCR.out _ (HF1.out.then1 (hK1 _)))) | (go_at_call 143; exact Calls.in_class hK2 (HNU.out _ (HF1.out.then1 (hK1 _)))))))
  refine wpQuiet_nil ?_
  intro w' hw'
  obtain ⟨s1, rfl⟩ := hw'
  have HF2 := Lib.hid (HF1.out.then1 (hK1 s1))
  clear hK0 hK2 hK1
  generalize KK s1 = w2 at *
  go_wp2
  go_ret2
  exact ⟨rfl, HF2.out⟩
end Go.Proofs.YtcahemkomfaabaaGreat
