/- Words for the law MsgSet: MsgTurnedL. -/
import Derived.Test.YtcahemkomfaabaaGreatMsgSetG19
import Derived.Test.YtcahemkomfaabaaGreatMsgSetG35
import Derived.Test.YtcahemkomfaabaaGreatMsgSetG38
import Derived.Test.YtcahemkomfaabaaGreatMsgSetG40
set_option linter.unusedSimpArgs false
set_option linter.unusedVariables false
set_option maxHeartbeats 32000000
set_option maxRecDepth 1000000
namespace Go.Proofs.YtcahemkomfaabaaGreat
open Go.RowKit
def DecNo (w : World) (k : Int) (e : Ending) (w' : World) : Prop := ∃ (ps : List BunP) (al a0 a1 a2 : Option Addr) (nl cl n0 c0 n1 c1 n2 c2 : Nat), e = .returned (.tuple #[.agg #[.int .i64 0, .int .i64 0, .int .i64 0, .int .i64 0, .int .i64 0, .int .i64 0, .int .i64 0, .slice al nl cl, .slice a0 n0 c0, .slice a1 n1 c1, .slice a2 n2 c2], .int .i64 k]) ∧ (∀ W, MsgAt (fun _ => True) W MsgD.zero ps (.slice al nl cl) (.slice a0 n0 c0) (.slice a1 n1 c1) (.slice a2 n2 c2)) ∧ Frm NoS w w'
theorem rd_none {w w' : World} {v : Value} {n : Nat} (h : Rd w v n []) : Rd w' v n [] := by
 rcases h with h | ⟨b, off, c, h0, h1, h2, _⟩
 · exact .inl h
 · exact .inr ⟨b, off, c, h0, h1, h2, fun j u hu => by cases hu⟩
theorem zero_any {Q : Nat → Prop} {w : World} {ps : List BunP} {lv ev kv cv : Value} (h : MsgAt Q w MsgD.zero ps lv ev kv cv) (w' : World) : MsgAt (fun _ => True) w' MsgD.zero ps lv ev kv cv := by
 have hp : ps = [] := by
  have := h.eq
  cases ps with
  | nil => rfl
  | cons p r => cases this
 subst hp
 obtain ⟨os, hk, hf⟩ := h.cau.tree.kids
 exact ⟨⟨rd_none h.bs.rd, fun p hp => by cases hp⟩, rfl, ⟨⟨⟨rd_none h.cau.tree.ents.rd, fun _ _ _ => trivial⟩, [], ⟨rd_none hk.rd, fun _ _ _ => trivial⟩, rfl⟩, rd_none h.cau.ctx⟩⟩
theorem mDecode_refused (l : List UInt8) (v : Value) (w : World) (h : Rd w v l.length (bV l)) (h0 : Crc.oneE l ≠ 0) : Calls Tryz.prog 16 #[v] w (DecNo w (Crc.oneE l)) :=
 (mDecode_one l v w h h0).mono fun e w' hp => by
  obtain ⟨k, m, ps, lv, ev, kv, cv, hd, he, hat, -, hf⟩ := hp
  obtain ⟨rfl, rfl⟩ := hd.det (decTop_one h0)
  obtain ⟨a0, c0, a1, c1, a2, c2, rfl, rfl, rfl⟩ := hat.cau.shape
  obtain ⟨al, cl, rfl⟩ := hat.bs.rd.sl
  exact ⟨ps, al, a0, a1, a2, _, cl, _, c0, _, c1, _, c2, he, fun W => zero_any hat W, hf⟩
structure RowIs (w : World) (g : Nat) (d : Nat) (bs : List UInt8) : Prop where
 cur : ∃ cs : Array Value, w.heap[g]? = some (.cells cs 5 (0, 0)) ∧ cs.size = d ∧ cs.toList.take bs.length = bV bs
 le : bs.length ≤ d
 mx : d ≤ maxLen
theorem RowIs.keep {w w' : World} {g d : Nat} {bs : List UInt8} (h : RowIs w g d bs) (f : Frm NoS w w') : RowIs w' g d bs := by
 obtain ⟨⟨cs, h1, h2, h3⟩, h4, h5⟩ := h
 exact ⟨⟨cs, f.blk h1 id, h2, h3⟩, h4, h5⟩
theorem RowIs.blk {w : World} {g d : Nat} {bs : List UInt8} (h : RowIs w g d bs) : w.heap[g]? = some (.cells h.cur.choose 5 (0, 0)) := h.cur.choose_spec.1
theorem RowIs.own {w : World} {g d : Nat} {bs : List UInt8} (h : RowIs w g d bs) : w.ownsRow 0 5 1 (.slice (some ⟨g, 0, none⟩) bs.length d) bs.length (bV bs) := by
 obtain ⟨⟨cs, h1, h2, h3⟩, h4, h5⟩ := h
 exact ⟨by simp, .inr ⟨g, d, cs, rfl, Nat.zero_le _, h1, h4, h5, by rw [h2, Nat.mul_one], by rw [Nat.mul_one]; exact h3⟩⟩
theorem RowIs.rd {w : World} {g d : Nat} {bs : List UInt8} (h : RowIs w g d bs) : Rd w (.slice (some ⟨g, 0, none⟩) bs.length d) bs.length (bV bs) := Rd.own h.own
theorem RowIs.set {w : World} {g d : Nat} {bs : List UInt8} (h : RowIs w g d bs) (i : Nat) (b : UInt8) : RowIs (w.setCell ⟨g, i, none⟩ (.int .u8 (b.toNat : Int))) g d (bs.set i b) := by
 obtain ⟨⟨cs, h1, h2, h3⟩, h4, h5⟩ := h
 refine ⟨⟨_, set_at' h1 i _, by simp [h2], ?_⟩, by simpa using h4, h5⟩
 rw [Array.toList_setIfInBounds, List.length_set, List.take_set, h3]
 simp [bV]
theorem RowIs.of {w : World} {a : Option Addr} {c : Nat} {bs : List UInt8} (h : w.ownsRow 0 5 1 (.slice a bs.length c) bs.length (bV bs)) (hp : 0 < bs.length) : ∃ g, a = some ⟨g, 0, none⟩ ∧ RowIs w g c bs := by
 rcases h.2 with ⟨h1, h2⟩ | ⟨g, cap, cs, h1, _, h3, h4, h5, h6, h7⟩
 · omega
 · injection h1 with e1 e2 e3
   subst e1 e3
   exact ⟨g, rfl, ⟨cs, h3, by rw [h6, Nat.mul_one], by rw [← h7, Nat.mul_one]⟩, h4, h5⟩
theorem xor_ne {a x : UInt8} (h : x ≠ 0) : a ^^^ x ≠ a := fun e => h (by
 have : a ^^^ (a ^^^ x) = a ^^^ a := by rw [e]
 rw [← UInt8.xor_assoc, UInt8.xor_self, UInt8.zero_xor] at this
 exact this)
theorem msgTurned_law (w : World) (v : Value) (h : MsgIn w v) (at_ : Int) (hat_ : 0 ≤ at_ ∧ at_ ≤ 4294967295) (cut : Int) (hcut : 0 ≤ cut ∧ cut ≤ 4294967295) (x : UInt8) : Calls Tryz.prog 6 #[v, .int .u32 at_, .int .u32 cut, .int .u8 (x.toNat : Int)] w fun e w' => e = .returned (.bool true) ∧ Frm (fun _ => False) w w' := by
 obtain ⟨m, ps, lv, ev, kv, cv, rfl, hat, hfit⟩ := h.out
 have HA := Lib.hid awake25_any
 have HSM := Lib.hid (fun W (f : Frm NoS w W) => r25Small_any m ps W lv ev kv cv (hat.keep0 f) hfit)
 have HAT := Lib.hid hat
 obtain ⟨a0, c0, a1, c1, a2, c2, rfl, rfl, rfl⟩ := hat.cau.shape
 obtain ⟨al, cl, rfl⟩ := hat.bs.rd.sl
 have HFA := Lib.hid (show Frm NoS w (w.alloc (.cells #[.int .i64 m.kind, .int .i64 m.fr, .int .i64 m.tt, .int .i64 m.v0, .int .i64 m.v1, .int .i64 m.v2, .int .i64 m.v3, .slice al ps.length cl, .slice a0 m.es.length c0, .slice a1 m.ks.len c1, .slice a2 m.c.length c2] 34)) from Frm.alloc _ _ _)
 have HBX := Lib.hid (fun W f => box11 w (.int .i64 m.kind) (.int .i64 m.fr) (.int .i64 m.tt) (.int .i64 m.v0) (.int .i64 m.v1) (.int .i64 m.v2) (.int .i64 m.v3) (.slice al ps.length cl) (.slice a0 m.es.length c0) (.slice a1 m.ks.len c1) (.slice a2 m.c.length c2) 34 W f)
 dsimp only [MsgD.ag] at HSM ⊢
 cases hs : m.small with
 | false =>
  rw [hs] at HSM
  clear hs hat hfit
  go_enter Tryz.func6, Tryz.ntmps6
  go_wp2_with (first
   | (go_at_call 9; first | (have q9 := HW2; clear q9; refine (HA.out _).mono ?_; rintro e w20 ⟨rfl, hw20⟩; have HW20 := Lib.hid (HFA.out.then1 (HW2.out.then1 hw20)); clear hw20) | (refine (HA.out _).mono ?_; rintro e w1 ⟨rfl, hw1⟩; obtain ⟨y0, y1, y2, y3, y4, y5, y6, y7, y8, y9, y10⟩ := HBX.out w1 hw1; have hlb := World.block_lt_of_cell? _ _ y0; have HW1 := Lib.hid hw1; clear hw1))
   | (go_at_call 10; refine (HSM.out _ (HFA.out.then1 HW1.out)).mono ?_; rintro e w2 ⟨rfl, hw2⟩; clear y0 y1 y2 y3 y4 y5 y6 y7 y8 y9 y10 hlb; obtain ⟨y0, y1, y2, y3, y4, y5, y6, y7, y8, y9, y10⟩ := HBX.out w2 (HW1.out.then1 hw2); have hlb := World.block_lt_of_cell? _ _ y0; have HW2 := Lib.hid (HW1.out.then1 hw2); clear hw2))
  go_ret
  exact ⟨rfl, HW20.out⟩
 | true =>
  have hok := MsgD.small.ok hs hfit
  have HRR := Lib.hid (fun W (f : Frm NoS w W) => r25Right_any (fun _ => True) m ps W _ _ _ _ (hat.keep0 f) hok)
  dsimp only [MsgD.ag] at HRR
  rw [hs] at HSM
  by_cases hr : m.right
  rotate_left 1
  · rw [tf_false hr] at HRR
    clear hs hat hfit hok hr
    go_enter Tryz.func6, Tryz.ntmps6
    go_wp2_with (first
     | (go_at_call 9; first | (have q9 := HW3; clear q9; refine (HA.out _).mono ?_; rintro e w20 ⟨rfl, hw20⟩; have HW20 := Lib.hid (HFA.out.then1 (HW3.out.then1 hw20)); clear hw20) | (refine (HA.out _).mono ?_; rintro e w1 ⟨rfl, hw1⟩; obtain ⟨y0, y1, y2, y3, y4, y5, y6, y7, y8, y9, y10⟩ := HBX.out w1 hw1; have hlb := World.block_lt_of_cell? _ _ y0; have HW1 := Lib.hid hw1; clear hw1))
     | (go_at_call 10; refine (HSM.out _ (HFA.out.then1 HW1.out)).mono ?_; rintro e w2 ⟨rfl, hw2⟩; clear y0 y1 y2 y3 y4 y5 y6 y7 y8 y9 y10 hlb; obtain ⟨y0, y1, y2, y3, y4, y5, y6, y7, y8, y9, y10⟩ := HBX.out w2 (HW1.out.then1 hw2); have hlb := World.block_lt_of_cell? _ _ y0; have HW2 := Lib.hid (HW1.out.then1 hw2); clear hw2)
     | (go_at_call 13; refine (HRR.out _ (HFA.out.then1 HW2.out)).mono ?_; rintro e w3 ⟨rfl, hw3⟩; clear y0 y1 y2 y3 y4 y5 y6 y7 y8 y9 y10 hlb; obtain ⟨y0, y1, y2, y3, y4, y5, y6, y7, y8, y9, y10⟩ := HBX.out w3 (HW2.out.then1 hw3); have hlb := World.block_lt_of_cell? _ _ y0; have HW3 := Lib.hid (HW2.out.then1 hw3); clear hw3))
    go_ret
    exact ⟨rfl, HW20.out⟩
  rw [tf_true hr] at HRR
  by_cases hx : x = 0
  · subst hx
    clear hs hat hfit hok hr
    go_enter Tryz.func6, Tryz.ntmps6
    go_wp2_with (first
     | (go_at_call 9; first | (have q9 := HW3; clear q9; refine (HA.out _).mono ?_; rintro e w20 ⟨rfl, hw20⟩; have HW20 := Lib.hid (HFA.out.then1 (HW3.out.then1 hw20)); clear hw20) | (refine (HA.out _).mono ?_; rintro e w1 ⟨rfl, hw1⟩; obtain ⟨y0, y1, y2, y3, y4, y5, y6, y7, y8, y9, y10⟩ := HBX.out w1 hw1; have hlb := World.block_lt_of_cell? _ _ y0; have HW1 := Lib.hid hw1; clear hw1))
     | (go_at_call 10; refine (HSM.out _ (HFA.out.then1 HW1.out)).mono ?_; rintro e w2 ⟨rfl, hw2⟩; clear y0 y1 y2 y3 y4 y5 y6 y7 y8 y9 y10 hlb; obtain ⟨y0, y1, y2, y3, y4, y5, y6, y7, y8, y9, y10⟩ := HBX.out w2 (HW1.out.then1 hw2); have hlb := World.block_lt_of_cell? _ _ y0; have HW2 := Lib.hid (HW1.out.then1 hw2); clear hw2)
     | (go_at_call 13; refine (HRR.out _ (HFA.out.then1 HW2.out)).mono ?_; rintro e w3 ⟨rfl, hw3⟩; clear y0 y1 y2 y3 y4 y5 y6 y7 y8 y9 y10 hlb; obtain ⟨y0, y1, y2, y3, y4, y5, y6, y7, y8, y9, y10⟩ := HBX.out w3 (HW2.out.then1 hw3); have hlb := World.block_lt_of_cell? _ _ y0; have HW3 := Lib.hid (HW2.out.then1 hw3); clear hw3))
    go_ret
    exact ⟨rfl, HW20.out⟩
  have hx0 : (((x.toNat : Nat) : Int) == 0) = false := beq_false_of_ne fun e => hx (UInt8.toNat_inj.1 (by simpa using e))
  have hl := msg_le hr hs
  have HTO := Lib.hid (fun W (f : Frm NoS w W) => To25_any (fun _ => True) m ps W _ _ _ _ (hat.keep0 f) hok.len)
  have HSL := Lib.hid (fun W lv ev kv cv (h : MsgAt (fun _ => True) W m ps lv ev kv cv) => h.bs.rd.sl)
  obtain ⟨X, hX⟩ : ∃ X, X = Crc.frameB m.enc := ⟨_, rfl⟩
  have h1f := (Crc.one_frame hl).1
  rw [← hX] at h1f
  have hxl : 8 ≤ X.length ∧ X.length ≤ 60008 := by rw [hX, Crc.frameB_len]; omega
  have HEN := Lib.hid (fun W lv (h : MsgAt (fun _ => True) W m ps lv (.slice a0 m.es.length c0) (.slice a1 m.ks.len c1) (.slice a2 m.c.length c2)) => (show Calls Tryz.prog 14 #[m.ag lv (.slice a0 m.es.length c0) (.slice a1 m.ks.len c1) (.slice a2 m.c.length c2)] W fun e w' => ∃ g d, e = .returned (.tuple #[.slice (some ⟨g, 0, none⟩) X.length d, .int .i64 0]) ∧ RowIs w' g d X ∧ W.heap.size ≤ g ∧ Frm NoS W w' from (mEncode_yes (fun _ => True) m ps W _ _ _ _ h hok hr hl).mono fun e w' hp => by
   obtain ⟨a, c, t, ht, he, hc⟩ := hp
   obtain rfl : t = X := by rw [ht, hX]
   obtain ⟨g, rfl, hrow⟩ := RowIs.of hc.own (by omega)
   exact ⟨g, c, he, hrow, hc.new g rfl, hc.frm⟩))
  dsimp only [MsgD.ag] at HTO HEN
  clear hs hat hfit hok hr hl hX
  -- the places
  obtain ⟨ci, hci, hcl⟩ : ∃ ci : Nat, cut % (X.length : Int) = ci ∧ ci < X.length := ⟨(cut % (X.length : Int)).toNat, by have := Int.emod_nonneg cut (b := (X.length : Int)) (by omega); omega, by have h1 := Int.emod_nonneg cut (b := (X.length : Int)) (by omega); have h2 := Int.emod_lt_of_pos cut (b := (X.length : Int)) (by omega); omega⟩
  obtain ⟨ai, hai, hal⟩ : ∃ ai : Nat, at_ % (X.length : Int) = ai ∧ ai < X.length := ⟨(at_ % (X.length : Int)).toNat, by have := Int.emod_nonneg at_ (b := (X.length : Int)) (by omega); omega, by have h1 := Int.emod_nonneg at_ (b := (X.length : Int)) (by omega); have h2 := Int.emod_lt_of_pos at_ (b := (X.length : Int)) (by omega); omega⟩
  have h2c : Crc.oneE (X.take ci) = 2 := Crc.one_cut h1f hcl
  have h2t : Crc.oneE (X.set ai (X.getD ai 0 ^^^ x)) ≠ 0 := Crc.one_turned h1f hal (xor_ne hx)
  have HD1 := Lib.hid (fun W v (h : Rd W v (X.take ci).length (bV (X.take ci))) => h2c ▸ mDecode_refused (X.take ci) v W h (by rw [h2c]; decide))
  have HD2 := Lib.hid (fun W v (h : Rd W v (X.set ai (X.getD ai 0 ^^^ x)).length (bV (X.set ai (X.getD ai 0 ^^^ x)))) => mDecode_refused (X.set ai (X.getD ai 0 ^^^ x)) v W h h2t)
  generalize hk2 : Crc.oneE (X.set ai (X.getD ai 0 ^^^ x)) = k2 at *
  have hkn : ((k2 : Int) != 0) = true := by simpa using h2t
  clear hk2 h2c h2t h1f hx
  have HOF := Lib.hid (fun W ps lv ev kv cv (h : ∀ W, MsgAt (fun _ => True) W MsgD.zero ps lv ev kv cv) => (show Calls Tryz.prog 18 #[.agg #[.int .i64 0, .int .i64 0, .int .i64 0, .int .i64 0, .int .i64 0, .int .i64 0, .int .i64 0, lv, ev, kv, cv]] W fun e w' => ∃ b n c, e = .returned (.agg #[.int .i64 0, .int .i64 0, .int .i64 0, .int .i64 0, .int .i64 0, .int .i64 0, .int .i64 0, .slice b n c, ev, kv, cv]) ∧ (∀ W, MsgAt (fun _ => True) W MsgD.zero ps (.slice b n c) ev kv cv) ∧ Frm NoS W w' from (Of25_any (fun _ => True) MsgD.zero ps W lv ev kv cv (h W) (Nat.zero_le _)).mono fun e w' hp => by
   obtain ⟨lv', he, hat', hf'⟩ := hp
   obtain ⟨b, c, rfl⟩ := hat'.bs.rd.sl
   exact ⟨b, _, c, he, fun W => zero_any hat' W, hf'⟩))
  have HSA := Lib.hid (fun W ps lv ev kv cv (h : ∀ W, MsgAt (fun _ => True) W MsgD.zero ps lv ev kv cv) => (show Calls Tryz.prog 17 #[.agg #[.int .i64 0, .int .i64 0, .int .i64 0, .int .i64 0, .int .i64 0, .int .i64 0, .int .i64 0, lv, ev, kv, cv], .agg #[.int .i64 0, .int .i64 0, .int .i64 0, .int .i64 0, .int .i64 0, .int .i64 0, .int .i64 0, .slice none 0 0, .slice none 0 0, .slice none 0 0, .slice none 0 0]] W fun e w' => e = .returned (.bool true) ∧ Frm NoS W w' from tf_true (rfl : MsgD.zero = MsgD.zero) ▸ r25Same_any (fun _ => True) (fun _ => True) MsgD.zero MsgD.zero ps [] W lv ev kv cv _ _ _ _ (h W) (zero_at _ _) zero_okS zero_okS))
  have hxz : ((X.length : Int) == 0) = false := beq_false_of_ne (by omega)
  obtain ⟨hxl1, hxl2⟩ := hxl
  obtain ⟨hat1', hat2'⟩ := hat_
  obtain ⟨hcut1, hcut2⟩ := hcut
  have HXO := Lib.hid (bits_xor_u8' (X.getD ai 0) x)
  have HGA := Lib.hid (fun W g d (h : RowIs W g d X) => (show W.cell? ⟨g, ai, none⟩ = some (.int .u8 ((X.getD ai 0).toNat : Int)) ∧ W.frozen? ⟨g, ai, none⟩ = false ∧ g < W.heap.size by
   obtain ⟨cs, h1, h2, h3⟩ := h.cur
   refine ⟨cell_at' h1 ai ?_, free_at' h1 ai, lt_of_block h1⟩
   have h4 : (cs.toList.take X.length)[ai]? = (bV X)[ai]? := by rw [h3]
   rw [List.getElem?_take_of_lt hal] at h4
   rw [← Array.getElem?_toList, h4]
   unfold bV
   rw [List.getElem?_map, List.getElem?_eq_getElem hal, List.getD_eq_getElem?_getD, List.getElem?_eq_getElem hal]
   rfl))
  have HTK := Lib.hid (fun W g d (h : RowIs W g d X) => (show Rd W (.slice (some ⟨g, 0, none⟩) ci d) (X.take ci).length (bV (X.take ci)) by
   have hq := rd_part h.rd rfl 0 ci d (by omega) (by have := h.le; omega) h.mx
   have e : (X.take ci).length = ci := by rw [List.length_take]; omega
   rw [e]
   simpa using hq))
  generalize X.getD ai 0 = yb at *
  generalize yb ^^^ x = zb at *
  have hl2 : (X.set ai zb).length = X.length := List.length_set
  generalize hX2 : X.set ai zb = X2 at *
  have HX2 := Lib.hid hX2; clear hX2
  have HL2 := Lib.hid hl2; clear hl2
  go_enter Tryz.func6, Tryz.ntmps6
  go_wp2_with (first
   | (go_at_call 9; (refine (HA.out _).mono ?_; rintro e w1 ⟨rfl, hw1⟩; obtain ⟨y0, y1, y2, y3, y4, y5, y6, y7, y8, y9, y10⟩ := HBX.out w1 hw1; have hlb := World.block_lt_of_cell? _ _ y0; have HW1 := Lib.hid hw1; clear hw1))
   | (go_at_call 10; refine (HSM.out _ (HFA.out.then1 HW1.out)).mono ?_; rintro e w2 ⟨rfl, hw2⟩; clear y0 y1 y2 y3 y4 y5 y6 y7 y8 y9 y10 hlb; obtain ⟨y0, y1, y2, y3, y4, y5, y6, y7, y8, y9, y10⟩ := HBX.out w2 (HW1.out.then1 hw2); have hlb := World.block_lt_of_cell? _ _ y0; have HW2 := Lib.hid (HW1.out.then1 hw2); clear hw2)
   | (go_at_call 13; refine (HRR.out _ (HFA.out.then1 HW2.out)).mono ?_; rintro e w3 ⟨rfl, hw3⟩; clear y0 y1 y2 y3 y4 y5 y6 y7 y8 y9 y10 hlb; obtain ⟨y0, y1, y2, y3, y4, y5, y6, y7, y8, y9, y10⟩ := HBX.out w3 (HW2.out.then1 hw3); have hlb := World.block_lt_of_cell? _ _ y0; have HW3 := Lib.hid (HW2.out.then1 hw3); clear hw3)
   | (go_at_call 12; refine (HTO.out _ (HFA.out.then1 HW3.out)).mono ?_; rintro e w4 ⟨lv1, rfl, hat1, hf1⟩; obtain ⟨al1, cl1, rfl⟩ := HSL.out _ _ _ _ _ hat1; have HAT4 := Lib.hid hat1; have HW4 := Lib.hid (HW3.out.then1 hf1); clear hat1 hf1 y0 y1 y2 y3 y4 y5 y6 y7 y8 y9 y10 hlb)
   | (go_at_call 14; refine (HEN.out _ _ HAT4.out).mono ?_; rintro e w5 ⟨g, d5, rfl, hr5, hg5, hf5⟩; have hd5 : X.length ≤ d5 := hr5.le; have HR5 := Lib.hid hr5; have HW5 := Lib.hid (HW4.out.then1 hf5); have hwg : w.heap.size < g := (by have h1 := HW4.out.size; have h2 : (w.alloc (.cells #[.int .i64 m.kind, .int .i64 m.fr, .int .i64 m.tt, .int .i64 m.v0, .int .i64 m.v1, .int .i64 m.v2, .int .i64 m.v3, .slice al ps.length cl, .slice a0 m.es.length c0, .slice a1 m.ks.len c1, .slice a2 m.c.length c2] 34)).heap.size = w.heap.size + 1 := (by simp); omega); clear hr5 hg5 hf5)
   | (go_at_call 16; first | (have q9 := HR6; clear q9; refine (HD2.out _ _ (by have h1 := HR6.out.rd; rw [HL2.out] at h1 ⊢; exact h1)).mono ?_; rintro e w8 ⟨ps8, al8, a08, a18, a28, nl8, cl8, n08, c08, n18, c18, n28, c28, rfl, hz8, hf8⟩; clear hb0 hb1 hb2 hxo; have HZ8 := Lib.hid hz8; have HF8 := Lib.hid hf8; have hb8 := hf8.blk (by have h1 := heap_alloc_new w6 (.cells #[.int .i64 0, .int .i64 0, .int .i64 0, .int .i64 0, .int .i64 0, .int .i64 0, .int .i64 0, .slice al6 nl6 cl6, .slice a06 n06 c06, .slice a16 n16 c16, .slice a26 n26 c26] 40); have h2 := HN6.out; exact (only_set _ g ai _).blk h1 fun e => by have e : w6.heap.size = g := e; omega) id; obtain ⟨z0, z1, z2, z3, z4, z5, z6, z7, z8, z9, z10⟩ := eleven_at hb8; have zl := lt_of_block hb8; clear hb8 hz8 hf8) | (refine (HD1.out _ _ (HTK.out _ _ _ HR5.out)).mono ?_; rintro e w6 ⟨ps6, al6, a06, a16, a26, nl6, cl6, n06, c06, n16, c16, n26, c26, rfl, hz6, hf6⟩; have hfx := Frm.alloc NoS w6 (.cells #[.int .i64 0, .int .i64 0, .int .i64 0, .int .i64 0, .int .i64 0, .int .i64 0, .int .i64 0, .slice al6 nl6 cl6, .slice a06 n06 c06, .slice a16 n16 c16, .slice a26 n26 c26] 40); have hr6 := (HR5.out.keep hf6).keep hfx; obtain ⟨hb0, hb1, hb2⟩ := HGA.out _ _ _ hr6; have hxo := HXO.out; have HZ6 := Lib.hid hz6; have HR6 := Lib.hid (show RowIs ((w6.alloc (.cells #[.int .i64 0, .int .i64 0, .int .i64 0, .int .i64 0, .int .i64 0, .int .i64 0, .int .i64 0, .slice al6 nl6 cl6, .slice a06 n06 c06, .slice a16 n16 c16, .slice a26 n26 c26] 40)).setCell ⟨g, ai, none⟩ (.int .u8 (zb.toNat : Int))) g d5 X2 from (by rw [← HX2.out]; exact hr6.set ai zb)); have HF6 := Lib.hid ((hf6.then1 hfx)); have HN6 := Lib.hid (show g < w6.heap.size from Nat.lt_of_lt_of_le (lt_of_block HR5.out.blk) hf6.size); clear hz6 hf6 hfx hr6))
   | (go_at_call 18; first | (have t9 := HF10; clear t9; refine (HOF.out _ _ _ _ _ _ HZ8.out).mono ?_; rintro e w11 ⟨p11, q11, r11, rfl, hz11, hf11⟩; have HZ11 := Lib.hid hz11; have HF11 := Lib.hid (HF10.out.then1 hf11); clear hz11 hf11) | (refine (HOF.out _ _ _ _ _ _ HZ6.out).mono ?_; rintro e w9 ⟨p9, q9, r9, rfl, hz9, hf9⟩; have HZ9 := Lib.hid hz9; have HF9 := Lib.hid hf9; clear hz9 hf9))
   | (go_at_call 17; first | (have t9 := HZ11; clear t9; refine (HSA.out _ _ _ _ _ _ HZ11.out).mono ?_; rintro e w12 ⟨rfl, hf12⟩; have HF12 := Lib.hid (HF11.out.then1 hf12); clear hf12) | (refine (HSA.out _ _ _ _ _ _ HZ9.out).mono ?_; rintro e w10 ⟨rfl, hf10⟩; have hf10' := HF9.out.then1 hf10; clear z0 z1 z2 z3 z4 z5 z6 z7 z8 z9 z10 zl; have zl := lt_of_block (hf10'.blk (heap_alloc_new w8 (.cells #[.int .i64 0, .int .i64 0, .int .i64 0, .int .i64 0, .int .i64 0, .int .i64 0, .int .i64 0, .slice al8 nl8 cl8, .slice a08 n08 c08, .slice a18 n18 c18, .slice a28 n28 c28] 40)) id); obtain ⟨z0, z1, z2, z3, z4, z5, z6, z7, z8, z9, z10⟩ := eleven_at (hf10'.blk (heap_alloc_new w8 (.cells #[.int .i64 0, .int .i64 0, .int .i64 0, .int .i64 0, .int .i64 0, .int .i64 0, .int .i64 0, .slice al8 nl8 cl8, .slice a08 n08 c08, .slice a18 n18 c18, .slice a28 n28 c28] 40)) id); have HF10 := Lib.hid hf10'; clear hf10 hf10')))
  go_ret
  have f7 : Frm (Only g) w5 ((w6.alloc (.cells #[.int .i64 0, .int .i64 0, .int .i64 0, .int .i64 0, .int .i64 0, .int .i64 0, .int .i64 0, .slice al6 nl6 cl6, .slice a06 n06 c06, .slice a16 n16 c16, .slice a26 n26 c26] 40)).setCell ⟨g, ai, none⟩ (.int .u8 (zb.toNat : Int))) := (HF6.out.mono fun _ _ h => h.elim).trans (only_set _ g ai _) fun _ _ h => h
  have f12 : Frm (Only g) w5 w12 := ((f7.then1 HF8.out).then1 (Frm.alloc _ _ _)).then1 HF12.out
  exact ⟨rfl, (HFA.out.then1 HW5.out).trans f12 fun i hi e => by have e : i = g := e; omega⟩
theorem u8_of_wf' {x : Int} (h : (Lit.int .u8 x).wf = true) : ∃ b : UInt8, x = (b.toNat : Int) := by
 have hb : 0 ≤ x ∧ x ≤ 255 := by
  simp only [Lit.wf, IntKind.min, IntKind.max, IntKind.signed, IntKind.bits] at h
  simpa using h
 refine ⟨UInt8.ofNat x.toNat, ?_⟩
 have : (UInt8.ofNat x.toNat).toNat = x.toNat := by simp; omega
 rw [this]; omega
theorem u32_of_wf {x : Int} (h : (Lit.int .u32 x).wf = true) : 0 ≤ x ∧ x ≤ 4294967295 := by
 simp only [Lit.wf, IntKind.min, IntKind.max, IntKind.signed, IntKind.bits] at h
 simpa using h
theorem msgTurned_walk (w : World) (v : Value) (h : MsgIn w v) (at_ : Int) (h1 : (Lit.int .u32 at_).wf = true) (cut : Int) (h2 : (Lit.int .u32 cut).wf = true) (x : Int) (h3 : (Lit.int .u8 x).wf = true) : Calls Tryz.prog 6 #[v, .int .u32 at_, .int .u32 cut, .int .u8 x] w fun e w' => e = .returned (.bool true) ∧ Frm (fun _ => False) w w' := by
 obtain ⟨b, rfl⟩ := u8_of_wf' h3
 exact msgTurned_law w v h at_ (u32_of_wf h1) cut (u32_of_wf h2) b
end Go.Proofs.YtcahemkomfaabaaGreat
