/- Words for the law MsgSet: R16d, R16e, R16f, R16g, R16h, R16v, R16a, PackPut, PackPut2, R16b. -/
import Derived.Test.YtcahemkomfaabaaGreatMsgSetG1
import Derived.Test.YtcahemkomfaabaaGreatMsgSetG4
import Derived.Test.YtcahemkomfaabaaGreatMsgSetG9
import Derived.Test.YtcahemkomfaabaaGreatMsgSetG12
import Derived.Test.YtcahemkomfaabaaGreatMsgSetG13
import Derived.Test.YtcahemkomfaabaaGreatMsgSetG14
import Derived.Test.YtcahemkomfaabaaGreatMsgSetG15
import Derived.Test.YtcahemkomfaabaaGreatMsgSetG16
import Derived.Test.YtcahemkomfaabaaGreatMsgSetG25
import Derived.Test.YtcahemkomfaabaaGreatMsgSetG27
set_option linter.unusedSimpArgs false
set_option linter.unusedVariables false
set_option maxHeartbeats 32000000
set_option maxRecDepth 1000000
namespace Go.Proofs.YtcahemkomfaabaaGreat
open Go.RowKit
theorem app_cp {ops : Array Oper} {rest : List Oper} {o : Oper} {a : Act} {Q : Exit → Act → World → Prop} (w0 W : World) (hgd : o.guard = none) (s x : Operand)
 (ho : o.op = .call { callee := .builtin .append, args := #[s, x], argTypes := #[43, 43] }) (v : Value) (bs : List UInt8) (hp : Copy w0 v bs W) (xv : Value) (cs : List UInt8)
 (hv : a.eval s = v) (hx : a.eval x = xv) (hc : Rd W xv cs.length (bV cs)) (hl : bs.length + cs.length ≤ 140737488355328)
 (h : ∀ ad c w' t, Hid (t = bs ++ cs) → Copy w0 (.slice ad t.length c) t w' → Frm (RowS v) W w' → Fresh W v (.slice ad t.length c) → wpList Tryz.prog ops Q rest (a.put o.dst (.slice ad t.length c)) w') :
 wpList Tryz.prog ops Q (o :: rest) a W :=
 app_u8 W hgd s x 43 ho v bs hp.own xv cs hv hx (hc.src Tryz.underlying43 (by simp) (bV_oneCell _)) hl fun ad c w' own fm fr _ => by
  have hh := h ad c w' (bs ++ cs) (Lib.hid rfl)
  rw [List.length_append] at hh
  exact hh (hp.app own rfl fm fr) fm fr
theorem fresh_ne {W : World} {v v' : Value} {b : Nat} (h : v.ownBlock ≠ some b) (f : Fresh W v v') (hb : b < W.heap.size) : v'.ownBlock ≠ some b := fun e => by
 rcases f b e with h1 | h1
 · exact h h1
 · omega
def Ret (W : World) (bs : List UInt8) (e : Ending) (w' : World) : Prop := ∃ a c t, t = bs ∧ e = .returned (.slice a t.length c) ∧ Copy W (.slice a t.length c) t w'
theorem Ret.of {W : World} {bs : List UInt8} {e : Ending} {w' : World} (h : ∃ v', e = .returned v' ∧ Copy W v' bs w') : Ret W bs e w' := by
 obtain ⟨v, rfl, h⟩ := h
 obtain ⟨a, c, rfl⟩ := h.shape
 exact ⟨a, c, bs, rfl, rfl, h⟩
theorem Ret.base {w W : World} {bs : List UInt8} {e : Ending} {w' : World} (h : Ret W bs e w') (f : Frm NoS w W) : Ret w bs e w' := by
 obtain ⟨a, c, t, h1, h2, h3⟩ := h
 exact ⟨a, c, t, h1, h2, h3.weaken f⟩
theorem Ret.cast {W : World} {bs cs : List UInt8} {e : Ending} {w' : World} (h : Ret W bs e w') (e0 : bs = cs) : Ret W cs e w' := e0 ▸ h
theorem nums_at {w : World} {b off c n : Nat} {l : List Int} (h : Rd w (.slice (some ⟨b, off, none⟩) n c) n (l.map (Value.int .i64 ·))) (k : Nat) (hk : k < l.length) : w.cell? ⟨b, off + k, none⟩ = some (.int .i64 (l.getD k 0)) := by
 rcases h with ⟨ad, h1, h2, h3⟩ | ⟨b', off', c', h1, h2, h3, h4⟩
 · have : l = [] := by simpa using h3
   subst this
   cases hk
 · injection h1 with e1 e2 e3
   injection e1 with e1
   injection e1 with e1 e4
   subst e1 e4
   refine h4 k _ ?_
   simp [List.getD_eq_getElem?_getD, hk]
theorem nums_snoc {l : List Int} {k : Nat} (h : k < l.length) : (l.take (k + 1)).flatMap numB = (l.take k).flatMap numB ++ numB (l.getD k 0) := by
 rw [take_succ 0 h, List.flatMap_append]
 simp
theorem nums_le {l : List Int} (hf : ∀ x ∈ l, inR x) (k : Nat) : ((l.take k).flatMap numB).length ≤ 10 * k := by
 have h : ((l.take k).flatMap numB).length ≤ 10 * (l.take k).length := flat_le fun s hs => by
  have hb := hf s (List.mem_of_mem_take hs)
  exact numB_le10 hb.1 hb.2
 have := List.length_take_le k l
 exact Nat.le_trans h (Nat.mul_le_mul_left _ this)
theorem nums_go (l : List Int) (v : Value) (w : World) (h : Rd w v l.length (l.map (Value.int .i64 ·))) (hf : ∀ x ∈ l, inR x) (h0 : 0 < l.length) (hl : l.length ≤ 1000) :
 Calls Tryz.prog 101 #[v] w (Ret w (l.flatMap numB)) := by
 rcases Rd.shape h with ⟨ad, rfl, hz⟩ | ⟨b, off, c, rfl, hc1⟩
 · omega
 · have HI := Lib.hid h; clear h
   have HF := Lib.hid hf; clear hf
   have HT := Lib.hid (show (l.take l.length).flatMap numB = l.flatMap numB by rw [List.take_length])
   generalize hn : l.length = n at *
   have HN := Lib.hid hn; clear hn
   go_enter Tryz.func101, Tryz.ntmps101
   go_wp2
   go_loopw [3, 7] (fun o u wr => ∃ (k : Nat) (a : Option Addr) (c : Nat) (t : List UInt8), k ≤ n ∧ u = .int .i64 k ∧ o = .slice a t.length c ∧ t = (l.take k).flatMap numB ∧ Copy w o t wr) (fun _ u _ => n - (intOf u).toNat)
   case atStart => exact ⟨0, none, 0, [], Nat.zero_le _, rfl, rfl, by simp, Copy.nil w⟩
   case round =>
    obtain ⟨k, a0, c0, t0, hk, rfl, rfl, ht0, hp⟩ := hrel
    have HP := Lib.hid hp
    have HT0 := Lib.hid ht0
    by_cases hlt : k < n
    · have hkl : k < l.length := by rw [HN.out]; exact hlt
      have q0 := nums_at (HI.out.keep hp.frm fun _ _ h => h) k hkl
      have hb := HF.out _ (getD_mem 0 hkl)
      have HS := Lib.hid (nums_snoc hkl)
      have HLE := Lib.hid (show t0.length ≤ 10 * k by rw [ht0]; exact nums_le HF.out k)
      clear hp ht0
      generalize l.getD k 0 = x at *
      have HL10 := Lib.hid (numB_le10 hb.1 hb.2)
      have HC := Lib.hid (Calls.mono (rnum x wr hb.1 hb.2) fun _ _ h => Ret.of h)
      clear hb
      go_wp2_with (first
       | (go_at_call 46; refine HC.out.mono ?_; rintro e w1 ⟨a1, c1, t1, ht1, rfl, cp1⟩; have HT1 := Lib.hid ht1; clear ht1; have HP1 := Lib.hid (HP.out.step cp1.frm); have HC1 := Lib.hid cp1; clear cp1)
       | (at_builtin; refine app_cp w w1 rfl (.tmp 10) (.tmp 15) rfl _ t0 HP1.out _ t1 rfl rfl HC1.out.rd ?c1 ?_))
      case c1 =>
       have := HLE.out
       have := HL10.out
       have := congrArg List.length HT1.out
       omega
      intro ad c2 w2 t2 HT2 e2 _ _
      have E2 := Lib.hid e2; clear e2
      go_wp2
      go_roundw
      case rel => exact ⟨k + 1, ad, c2, t2, by omega, by go_num, rfl, by rw [HT2.out, HT0.out, HT1.out, HS.out], E2.out⟩
      case measure => simp [intOf]; omega
    · obtain rfl : n = k := by omega
      clear hp ht0
      go_wp2
      go_ret
      exact ⟨a0, c0, t0, by rw [HT0.out, HT.out], rfl, HP.out⟩
theorem nums_new (l : List Int) (T : TypeId) (W : World) (hf : ∀ x ∈ l, inR x) (h0 : 0 < l.length) (hl : l.length ≤ 1000) :
 Calls Tryz.prog 101 #[.slice (some ⟨W.heap.size, 0, none⟩) l.length l.length] (W.alloc (.cells (l.map (Value.int .i64 ·)).toArray T)) (Ret W (l.flatMap numB)) := by
 refine Calls.mono (nums_go l _ _ (.inr ⟨W.heap.size, 0, l.length, rfl, Nat.le_refl _, by simp only [maxLen]; omega, fun j u hu => ?_⟩) hf h0 hl) fun e w' h => h.base (Frm.alloc NoS W _)
 rw [Nat.zero_add]
 exact cell_at' (heap_alloc_new W _) j (by rw [List.getElem?_toArray]; exact hu)
theorem nums1 (x : Int) (T : TypeId) (W : World) (b : Nat) (hb : W.heap.size = b) (hx : inR x) : Calls Tryz.prog 101 #[.slice (some ⟨b, 0, none⟩) 1 1] (W.alloc (.cells #[.int .i64 x] T)) (Ret W (numB x)) :=
 hb ▸ Calls.mono (nums_new [x] T W (by simpa using hx) (by simp) (by simp)) fun e w' h => h.cast (by simp)
theorem nums2 (x y : Int) (T : TypeId) (W : World) (b : Nat) (hb : W.heap.size = b) (hx : inR x) (hy : inR y) : Calls Tryz.prog 101 #[.slice (some ⟨b, 0, none⟩) 2 2] (W.alloc (.cells #[.int .i64 x, .int .i64 y] T)) (Ret W (numB x ++ numB y)) :=
 hb ▸ Calls.mono (nums_new [x, y] T W (by simpa using ⟨hx, hy⟩) (by simp) (by simp)) fun e w' h => h.cast (by simp)
theorem nums3 (x y z : Int) (T : TypeId) (W : World) (b : Nat) (hb : W.heap.size = b) (hx : inR x) (hy : inR y) (hz : inR z) : Calls Tryz.prog 101 #[.slice (some ⟨b, 0, none⟩) 3 3] (W.alloc (.cells #[.int .i64 x, .int .i64 y, .int .i64 z] T)) (Ret W (numB x ++ (numB y ++ numB z))) :=
 hb ▸ Calls.mono (nums_new [x, y, z] T W (by simpa using ⟨hx, hy, hz⟩) (by simp) (by simp)) fun e w' h => h.cast (by simp)
theorem encSs_le {c : CtxL} (hf : FitsC c) : ∀ k, (encSs (c.take k)).length ≤ 30 * k := fun k => by
 have h : (encSs (c.take k)).length ≤ 30 * (c.take k).length := flat_le fun s hs => by
  have hb := hf s (List.mem_of_mem_take hs)
  have h1 := numB_le10 (v := s.1) (by omega) (by omega)
  have h2 := numB_le10 (v := s.2.1) (by omega) (by omega)
  have h3 := numB_le10 (v := s.2.2) (by omega) (by omega)
  unfold encS
  simp only [List.length_append]
  omega
 have := List.length_take_le k c
 exact Nat.le_trans h (Nat.mul_le_mul_left _ this)
theorem encSs_snoc {c : CtxL} {k : Nat} (h : k < c.length) : encSs (c.take (k + 1)) = encSs (c.take k) ++ encS (c.getD k (0, 0, 0)) := by
 rw [take_succ (0, 0, 0) h]
 unfold encSs
 rw [List.flatMap_append]
 simp
noncomputable def ctxB (c : CtxL) : List UInt8 := if tf (RightC c) then encC c else encC []
theorem encC_nil : encC [] = numB 0 := by unfold encC encSs; simp
theorem pPutCtx_any (Q : Nat → Prop) (ob : Nat) (w : World) (v : Value) (bs : List UInt8) (cv : Value) (c : CtxL) (ho : OutAt w ob v bs) (hc : RdQ Q w cv c.length (spC c)) (hq : ∀ b, OutS ob v b → ¬ Q b) (hf : FitsC c) (hl : c.length ≤ 100000) (hb : bs.length ≤ 80000000) :
 Calls Tryz.prog 97 #[.pointer (some ⟨ob, 0, none⟩), cv] w fun e w' => e = .returned (.tuple #[]) ∧ Put1 w ob v bs (ctxB c) w' := by
 have HRT := Lib.hid (cRight_any w cv c hc.rd hf hl)
 have HQ := Lib.hid hq; clear hq
 have HC := Lib.hid hc; clear hc
 have HF := Lib.hid hf; clear hf
 have HO := Lib.hid ho; clear ho
 obtain ⟨aA, cA, rfl⟩ := HC.out.rd.sl
 unfold ctxB
 by_cases hr : RightC c
 · rw [tf_true hr] at HRT ⊢
   clear hr
   have HE := Lib.hid (encSs_le HF.out)
   have HFIN := Lib.hid (show numB c.length ++ encSs (c.take c.length) = encC c by unfold encC; rw [List.take_length])
   generalize hn : c.length = n at *
   have HN := Lib.hid hn; clear hn
   rw [if_pos rfl]
   go_enter Tryz.func97, Tryz.ntmps97
   go_wp2_with (first
    | (go_at_call 128; refine HRT.out.mono ?_; rintro e w1 ⟨rfl, hw1⟩; have HP0 := Lib.hid ((Put1.start HO.out).keep0 hw1); clear hw1)
    | (go_at_call 40; refine (putNum HP0.out n ⟨by omega, by omega⟩ (by simp only [List.length_nil]; omega)).mono ?_; rintro e w2 ⟨rfl, hp⟩; have HP := Lib.hid hp; clear hp))
   go_loopw [15] (fun i ww => ∃ k : Nat, k ≤ n ∧ i = .int .i64 k ∧ Put1 w ob v bs (numB n ++ encSs (c.take k)) ww) (fun i _ => n - (intOf i).toNat)
   case atStart => exact ⟨0, Nat.zero_le _, rfl, HP.out.cast (by simp [encSs])⟩
   case round =>
    obtain ⟨k, hk, rfl, hp⟩ := hrel
    have HP1 := Lib.hid hp; clear hp
    by_cases hlt : k < n
    · have hlk : k < c.length := by rw [HN.out]; exact hlt
      have hrd := HC.out.put HQ.out HP1.out
      rcases Rd.shape hrd with ⟨ad, he, h0⟩ | ⟨b, off, cc, he, hmax⟩
      · exfalso; omega
      · injection he with e1 e2 e3
        subst e1 e3
        clear e2
        obtain ⟨q0, q1, q2⟩ := spn_at (c := cA) (l := c) (by unfold CtxAt; rw [HN.out]; exact hrd) HN.out.symm k hlk
        clear hrd
        have hbf := HF.out _ (getD_mem (0, 0, 0) hlk)
        have HST := Lib.hid (encSs_snoc hlk)
        obtain ⟨s, hgd⟩ : ∃ s, s = c.getD k (0, 0, 0) := ⟨_, rfl⟩
        rw [← hgd] at HST q0 q1 q2 hbf
        clear hgd
        have HEk := Lib.hid (HE.out k)
        have hn10 : (numB n).length ≤ 10 := numN_le (by omega)
        have HN10 := Lib.hid hn10; clear hn10
        have HBF := Lib.hid hbf; clear hbf
        obtain ⟨v', ho', hfr, hfm⟩ := HP1.out
        have HO1 := Lib.hid ho'; clear ho'
        have HFR := Lib.hid hfr; clear hfr
        have HFM := Lib.hid hfm; clear hfm
        have hno : ¬ OutS ob v' wr.heap.size := fun h => by have := outS_lt HO1.out _ h; omega
        have HNO := Lib.hid hno; clear hno
        have HB := Lib.hid (Put1.start (HO1.out.keep0 (Frm.alloc NoS wr (.cells #[.int .i64 s.1, .int .i64 s.2.1, .int .i64 s.2.2] 122))))
        have hbl : (bs ++ (numB n ++ encSs (c.take k))).length ≤ 83000010 := by
         have := HEk.out
         have := HN10.out
         simp only [List.length_append]; omega
        have HBL := Lib.hid hbl; clear hbl
        have h1 := numB_le10 (v := s.1) (by have := HBF.out; omega) (by have := HBF.out; omega)
        have h2 := numB_le10 (v := s.2.1) (by have := HBF.out; omega) (by have := HBF.out; omega)
        have H1 := Lib.hid h1; clear h1
        have H2 := Lib.hid h2; clear h2
        go_wp2_with (first
         | (go_at_call 40; refine (putNum HP4.out s.2.2 HBF.out.2.2.2.2 (by have h0 := HBL.out; have h1 := H1.out; have h2 := H2.out; simp only [List.nil_append, List.length_append] at h0 h1 h2 ⊢; omega)).mono ?_; rintro e w5 ⟨rfl, hp5⟩; have HP5 := Lib.hid hp5; clear hp5 z2)
         | (go_at_call 40; refine (putNum HP3.out s.2.1 ⟨HBF.out.2.2.1, HBF.out.2.2.2.1⟩ (by have := HBL.out; have := H1.out; simp only [List.nil_append]; omega)).mono ?_; rintro e w4 ⟨rfl, hp4⟩; have z2 : w4.cell? ⟨wr.heap.size, 2, none⟩ = some (.int .i64 s.2.2) := hp4.cell (cell_at' (heap_alloc_new wr _) 2 rfl) HNO.out; have HP4 := Lib.hid hp4; clear hp4 y1 y2 HP3)
         | (go_at_call 40; refine (putNum HB.out s.1 ⟨HBF.out.1, HBF.out.2.1⟩ (by have := HBL.out; simp only [List.length_nil]; omega)).mono ?_; rintro e w3 ⟨rfl, hp3⟩; have y1 : w3.cell? ⟨wr.heap.size, 1, none⟩ = some (.int .i64 s.2.1) := hp3.cell (cell_at' (heap_alloc_new wr _) 1 rfl) HNO.out; have y2 : w3.cell? ⟨wr.heap.size, 2, none⟩ = some (.int .i64 s.2.2) := hp3.cell (cell_at' (heap_alloc_new wr _) 2 rfl) HNO.out; have HP3 := Lib.hid hp3; clear hp3 HB))
        go_roundw
        case rel => exact ⟨k + 1, by omega, by go_num, (Put1.trans HFR.out HFM.out (HP5.out.base (Frm.alloc _ _ _))).cast (by rw [HST.out]; unfold encS; simp only [List.append_assoc, List.nil_append])⟩
        case measure => simp [intOf]; omega
    · obtain rfl : n = k := by omega
      go_wp2
      go_end0
      exact ⟨rfl, HP1.out.cast HFIN.out⟩
 · rw [tf_false hr] at HRT ⊢
   clear hr
   rw [if_neg (by decide), encC_nil]
   go_enter Tryz.func97, Tryz.ntmps97
   go_wp2_with (first
    | (go_at_call 128; refine HRT.out.mono ?_; rintro e w1 ⟨rfl, hw1⟩; have HP0 := Lib.hid ((Put1.start HO.out).keep0 hw1); clear hw1)
    | (go_at_call 40; refine (putNum HP0.out 0 ⟨by omega, by omega⟩ (by simp only [List.length_nil]; omega)).mono ?_; rintro e w2 ⟨rfl, hp⟩; have HP := Lib.hid hp; clear hp))
   go_loopw [15] (fun i ww => i = .int .i64 0 ∧ Put1 w ob v bs (numB 0) ww) (fun i _ => 0)
   case atStart => exact ⟨rfl, HP.out⟩
   case round =>
    obtain ⟨rfl, hp⟩ := hrel
    have HP1 := Lib.hid hp; clear hp
    go_wp2
    go_end0
    exact ⟨rfl, HP1.out⟩
theorem pputDot_go (ob : Nat) (w : World) (v : Value) (bs : List UInt8) (d n : Int) (ho : OutAt w ob v bs) (hd : inR d) (hn : inR n) (hl : bs.length ≤ 94000000) :
 Calls Tryz.prog 173 #[.pointer (some ⟨ob, 0, none⟩), .agg #[.int .i64 d, .int .i64 n]] w fun e w' => e = .returned (.tuple #[]) ∧ Put1 w ob v bs (numB d ++ numB n) w' := by
 have HO := Lib.hid ho; clear ho
 have HNO := Lib.hid (show ¬ OutS ob v w.heap.size from fun h => by have := outS_lt HO.out _ h; omega)
 have HB := Lib.hid (Put1.start (HO.out.keep0 (Frm.alloc NoS w (.cells #[.int .i64 d, .int .i64 n] 168))))
 have H1 := Lib.hid (numB_le10 hd.1 hd.2)
 have HD := Lib.hid hd; clear hd
 have HN := Lib.hid hn; clear hn
 go_enter Tryz.func173, Tryz.ntmps173
 go_wp2_with (first
  | (go_at_call 40; refine (putNum HP3.out n HN.out (by have := H1.out; simp only [List.nil_append]; omega)).mono ?_; rintro e w4 ⟨rfl, hp4⟩; have HP4 := Lib.hid hp4; clear hp4 y1)
  | (go_at_call 40; refine (putNum HB.out d HD.out (by simp only [List.length_nil]; omega)).mono ?_; rintro e w3 ⟨rfl, hp3⟩; have y1 : w3.cell? ⟨w.heap.size, 1, none⟩ = some (.int .i64 n) := hp3.cell (cell_at' (heap_alloc_new w _) 1 rfl) HNO.out; have HP3 := Lib.hid hp3; clear hp3 HB))
 go_end0
 exact ⟨rfl, (HP4.out.base (Frm.alloc _ _ _)).cast (by rw [List.nil_append])⟩
def KidsL.encTake : Nat → KidsL → List UInt8
 | 0, _ => []
 | _ + 1, .nil => []
 | n + 1, .cons key es sub rest => textB key ++ (encT es sub ++ rest.encTake n)
theorem encTake_succ : ∀ (n : Nat) (ks : KidsL) {key : ByteArray} {es : List Ent} {sub rest : KidsL}, ks.drop n = .cons key es sub rest → ks.encTake (n + 1) = ks.encTake n ++ (textB key ++ encT es sub)
 | 0, .cons _ _ _ _, _, _, _, _, h => by cases h; simp [KidsL.encTake]
 | 0, .nil, _, _, _, _, h => by cases h
 | n + 1, .nil, _, _, _, _, h => by cases h
 | n + 1, .cons _ _ _ r, _, _, _, _, h => by
  show textB _ ++ (encT _ _ ++ r.encTake (n + 1)) = (textB _ ++ (encT _ _ ++ r.encTake n)) ++ _
  rw [encTake_succ n r h]
  simp only [List.append_assoc]
theorem encTake_split : ∀ (n : Nat) (ks : KidsL), encK ks = ks.encTake n ++ encK (ks.drop n)
 | 0, _ => rfl
 | _ + 1, .nil => rfl
 | n + 1, .cons key es sub rest => by
  rw [encK_cons]
  show _ = (textB _ ++ (encT _ _ ++ rest.encTake n)) ++ encK (rest.drop n)
  rw [encTake_split n rest]
  simp only [List.append_assoc]
theorem encTake_all (ks : KidsL) : ks.encTake ks.len = encK ks := by
 have h := encTake_split ks.len ks
 rw [KidsL.drop_none (Nat.le_refl _)] at h
 rw [h]; simp [encK]
theorem encEs_snoc {es : List Ent} {k : Nat} (h : k < es.length) : encEs (es.take (k + 1)) = encEs (es.take k) ++ encE (es.getD k Ent.zero) := by
 rw [take_succ Ent.zero h]
 unfold encEs
 rw [List.flatMap_append]
 simp
theorem encEs_split (es : List Ent) (k : Nat) : encEs es = encEs (es.take k) ++ encEs (es.drop k) := by
 have h : encEs (es.take k ++ es.drop k) = encEs (es.take k) ++ encEs (es.drop k) := by unfold encEs; rw [List.flatMap_append]
 rwa [List.take_append_drop] at h
theorem encT_upE {es : List Ent} (ks : KidsL) {k : Nat} (h : k < es.length) : (numB es.length ++ encEs (es.take k)).length + (encE (es.getD k Ent.zero)).length ≤ (encT es ks).length := by
 have h1 := encEs_split es (k + 1)
 rw [encEs_snoc h] at h1
 unfold encT
 rw [h1]
 simp only [List.length_append]
 omega
theorem encT_upK (es : List Ent) {ks : KidsL} {k : Nat} {key : ByteArray} {es' : List Ent} {sub rest : KidsL} (h : ks.drop k = .cons key es' sub rest) :
 (numB es.length ++ (encEs es ++ (numB ks.len ++ ks.encTake k))).length + (textB key ++ encT es' sub).length ≤ (encT es ks).length := by
 have h1 := encTake_split k ks
 rw [h, encK_cons] at h1
 unfold encT
 rw [h1]
 unfold encT
 simp only [List.length_append]
 omega
theorem encT_upM (es : List Ent) (ks : KidsL) : (numB es.length ++ encEs es).length + (numB ks.len).length ≤ (encT es ks).length := by
 unfold encT
 simp only [List.length_append]
 omega
theorem encT_up0 (es : List Ent) (ks : KidsL) : (numB es.length).length ≤ (encT es ks).length := by
 unfold encT
 simp only [List.length_append]
 omega
theorem KidsL.Ok.at_ {k : Nat} {ks : KidsL} {key : ByteArray} {es : List Ent} {sub rest : KidsL} (h : ks.Ok) (hd : ks.drop k = .cons key es sub rest) : key.size ≤ 9223372036854775807 ∧ TrOk es sub := by
 have := h.drop k
 rw [hd] at this
 exact ⟨this.1, this.2.1, this.2.2.1, this.2.2.2.1⟩
theorem textB_size (s : ByteArray) : s.size ≤ (textB s).length := by
 have h : s.data.toList.length = s.size := Array.length_toList
 unfold textB
 rw [List.length_append]; omega
theorem pput_go : ∀ (N : Nat) (Q : Nat → Prop) (es : List Ent) (ks : KidsL) (w : World) (ob : Nat) (v : Value) (bs : List UInt8) (ev kv : Value), sizeK ks < N → OutAt w ob v bs → TreeAt Q w ev kv es ks → (∀ b, OutS ob v b → ¬ Q b) → TrOk es ks → bs.length + (encT es ks).length ≤ 90000000 →
 Calls Tryz.prog 139 #[.pointer (some ⟨ob, 0, none⟩), .agg #[ev, kv]] w fun e w' => e = .returned (.tuple #[]) ∧ Put1 w ob v bs (encT es ks) w' := by
 intro N
 induction N with
 | zero => intros; exfalso; omega
 | succ N IHN =>
  intro Q es ks w ob v bs ev kv hN ho ht hq hok hl
  have IH := Lib.hid IHN; clear IHN
  have ht : TreeAt (fun b => Q b ∧ b < w.heap.size) w ev kv es ks := ht.turn fun b hb hQ => ⟨rfl, hQ, hb⟩
  obtain ⟨ae, ce, rfl⟩ := ht.ents.rd.sl
  obtain ⟨os, hkr, hfor⟩ := ht.kids
  obtain ⟨ak, ck, rfl⟩ := hkr.rd.sl
  have hwb : Frm NoS w (w.alloc (.cells #[.slice ae es.length ce, .slice ak ks.len ck] 28)) := Frm.alloc _ _ _
  have HQ := Lib.hid (show ∀ b, OutS ob v b → ¬ (Q b ∧ b < w.heap.size) from fun b hb hQ => hq b hb hQ.1); clear hq
  have HE := Lib.hid (ht.ents.keep hwb fun _ _ s => s.elim)
  have HKR := Lib.hid (hkr.keep hwb fun _ _ s => s.elim); clear hkr
  have HFOR := Lib.hid (hfor.keep hwb fun _ _ s => s.elim); clear hfor ht
  have HO := Lib.hid ho; clear ho
  have HNO := Lib.hid (show ¬ OutS ob v w.heap.size from fun h => by have := outS_lt HO.out _ h; omega)
  have HOK := Lib.hid hok; clear hok
  have HNN := Lib.hid hN; clear hN
  have HL := Lib.hid hl; clear hl
  have hnb : es.length ≤ 140737488351232 := HOK.out.es.len
  have hmb : ks.len ≤ 140737488351232 := HOK.out.len
  have HUE := Lib.hid (fun (k : Nat) (h : k < es.length) => encT_upE ks h)
  have HU0 := Lib.hid (encT_up0 es ks)
  have HUM := Lib.hid (encT_upM es ks)
  have HUK := Lib.hid (fun (k : Nat) (key : ByteArray) (es' : List Ent) (sub rest : KidsL) (h : ks.drop k = .cons key es' sub rest) => encT_upK es h)
  have HFIN := Lib.hid (show numB es.length ++ (encEs es ++ (numB ks.len ++ ks.encTake ks.len)) = encT es ks by rw [encTake_all]; rfl)
  have HTA := Lib.hid (show encEs (es.take es.length) = encEs es by rw [List.take_length])
  generalize hes : es.length = n at *
  have HN := Lib.hid hes; clear hes
  generalize hkl : ks.len = m at *
  have HM := Lib.hid hkl; clear hkl
  obtain ⟨WB, hWB⟩ : ∃ WB, WB = w.alloc (.cells #[.slice ae n ce, .slice ak m ck] 28) := ⟨_, rfl⟩
  have hb0 : WB.heap[w.heap.size]? = some (.cells #[.slice ae n ce, .slice ak m ck] 28 (0, 0)) := by rw [hWB]; exact heap_alloc_new w _
  have HB0 := Lib.hid hb0; clear hb0
  rw [← hWB] at hwb HE HKR HFOR
  have HWB := Lib.hid hwb; clear hwb
  have HBW := Lib.hid hWB; clear hWB
  have HB := Lib.hid (Put1.start (HO.out.keep0 HWB.out))
  go_enter Tryz.func139, Tryz.ntmps139
  go_wp2_with (go_at_call 40; rw [← HBW.out]; refine (putNum HB.out n ⟨by omega, by omega⟩ (by have := HL.out; simp only [List.length_nil]; omega)).mono ?_; rintro e w1 ⟨rfl, hp⟩; have HP := Lib.hid (hp.cast (List.nil_append _)); clear hp; have y0 : w1.cell? ⟨w.heap.size, 0, none⟩ = some (.slice ae n ce) := HP.out.cell (cell_at' HB0.out 0 rfl) HNO.out)
  go_loopw [16] (fun i ww => ∃ k : Nat, k ≤ n ∧ i = .int .i64 k ∧ Put1 WB ob v bs (numB n ++ encEs (es.take k)) ww) (fun i _ => n - (intOf i).toNat)
  case atStart => exact ⟨0, Nat.zero_le _, rfl, HP.out.cast (by simp [encEs])⟩
  case round =>
   clear HP y0
   obtain ⟨k, hk, rfl, hp⟩ := hrel
   have HP1 := Lib.hid hp; clear hp
   by_cases hlt : k < n
   · have hlk : k < es.length := by rw [HN.out]; exact hlt
     have hrd := HE.out.put HQ.out HP1.out
     rcases Rd.shape hrd with ⟨ad, he, h0⟩ | ⟨b, off, cc, he, hmax⟩
     · exfalso; omega
     · injection he with e1 e2 e3
       subst e1 e3
       clear e2
       obtain ⟨q0, q1, q2, q3⟩ := ent_at (es := es) hrd k hlk
       clear hrd
       have hft := HOK.out.es.fits _ (getD_mem Ent.zero hlk)
       have HST := Lib.hid (encEs_snoc hlk)
       have HUk := Lib.hid (HUE.out k hlt)
       obtain ⟨s, hgd⟩ : ∃ s, s = es.getD k Ent.zero := ⟨_, rfl⟩
       rw [← hgd] at HST q0 q1 q2 q3 hft HUk
       clear hgd
       have HFT := Lib.hid hft; clear hft
       obtain ⟨v', ho', hfr, hfm⟩ := HP1.out
       have HO1 := Lib.hid ho'; clear ho'
       have HFR := Lib.hid hfr; clear hfr
       have HFM := Lib.hid hfm; clear hfm
       have HN1 := Lib.hid (show ¬ OutS ob v' wr.heap.size from fun h => by have := outS_lt HO1.out _ h; omega)
       have HB1 := Lib.hid (Put1.start (HO1.out.keep0 (Frm.alloc NoS wr (.cells #[.int .i64 s.dc, .int .i64 s.n, .string s.s, .int .i64 s.k] 170))))
       have hbl : (bs ++ (numB n ++ encEs (es.take k))).length + (numB s.dc ++ (numB s.n ++ (textB s.s ++ numB s.k))).length ≤ 90000000 := by
        have h1 := HUk.out
        have h2 := HL.out
        unfold encE at h1
        simp only [List.length_append] at h1 h2 ⊢; omega
       simp only [List.length_append] at hbl
       have HSZ := Lib.hid (textB_size s.s)
       have HBL := Lib.hid hbl; clear hbl
       go_wp2_with (first
        | (go_at_call 173; refine (HB1.out.call fun v' ho _ _ => pputDot_go ob _ v' _ s.dc s.n ho HFT.out.1 HFT.out.2.1 (by have := HBL.out; simp only [List.length_append, List.length_nil]; omega)).mono ?_; rintro e w3 ⟨rfl, hp3⟩; have y2 : w3.cell? ⟨wr.heap.size, 2, none⟩ = some (.string s.s) := hp3.cell (cell_at' (heap_alloc_new wr _) 2 rfl) HN1.out; have y3 : w3.cell? ⟨wr.heap.size, 3, none⟩ = some (.int .i64 s.k) := hp3.cell (cell_at' (heap_alloc_new wr _) 3 rfl) HN1.out; have HP3 := Lib.hid hp3; clear hp3)
        | (go_at_call 174; refine (putText HP3.out s.s (by have := HBL.out; have := HSZ.out; simp only [List.length_append, List.length_nil]; omega)).mono ?_; rintro e w4 ⟨rfl, hp4⟩; have z3 : w4.cell? ⟨wr.heap.size, 3, none⟩ = some (.int .i64 s.k) := hp4.cell (cell_at' (heap_alloc_new wr _) 3 rfl) HN1.out; have HP4 := Lib.hid hp4; clear hp4 y2 y3)
        | (go_at_call 40; refine (putNum HP4.out s.k HFT.out.2.2.1 (by have := HBL.out; simp only [List.length_append, List.length_nil]; omega)).mono ?_; rintro e w5 ⟨rfl, hp5⟩; have HP5 := Lib.hid hp5; clear hp5 z3))
       go_roundw
       case rel => exact ⟨k + 1, by omega, by go_num, (Put1.trans HFR.out HFM.out (HP5.out.base (Frm.alloc _ _ _))).cast (by rw [HST.out]; unfold encE; simp only [List.append_assoc, List.nil_append])⟩
       case measure => simp [intOf]; omega
   · obtain rfl : n = k := by omega
     rw [HTA.out] at HP1
     clear hlt hk HUE HE
     have y1 : wr.cell? ⟨w.heap.size, 1, none⟩ = some (.slice ak m ck) := HP1.out.cell (cell_at' HB0.out 1 rfl) HNO.out
     go_wp2_with (go_at_call 40; refine (putNum HP1.out m ⟨by omega, by omega⟩ (by have := HL.out; have := HUM.out; omega)).mono ?_; rintro e w1 ⟨rfl, hp⟩; have HP := Lib.hid (hp.cast (List.append_assoc _ _ _)); clear hp; have y1 : w1.cell? ⟨w.heap.size, 1, none⟩ = some (.slice ak m ck) := HP.out.cell (cell_at' HB0.out 1 rfl) HNO.out)
     go_loopw [41] (fun i ww => ∃ k : Nat, k ≤ m ∧ i = .int .i64 k ∧ Put1 WB ob v bs (numB n ++ (encEs es ++ (numB m ++ ks.encTake k))) ww) (fun i _ => m - (intOf i).toNat)
     case atStart => exact ⟨0, Nat.zero_le _, rfl, HP.out.cast (by simp [KidsL.encTake])⟩
     case round =>
      clear HP HP1
      obtain ⟨k, hk, rfl, hp⟩ := hrel
      have HP1 := Lib.hid hp; clear hp
      by_cases hlt : k < m
      · obtain ⟨key, es', sub, rest, hdr⟩ := KidsL.drop_some (n := k) (ks := ks) (by rw [HM.out]; exact hlt)
        have hrd := HKR.out.put HQ.out HP1.out
        rcases Rd.shape hrd with ⟨ad, he, h0⟩ | ⟨b, off, cc, he, hmax⟩
        · exfalso; omega
        · injection he with e1 e2 e3
          subst e1 e3
          clear e2
          obtain ⟨v', ho', hfr, hfm⟩ := HP1.out
          obtain ⟨ev', kv', q0, q1, q2, hta⟩ := kid_at hrd (HFOR.out.keep hfm fun b _ hs => HQ.out b hs) hdr
          clear hrd
          obtain ⟨ae', ce', rfl⟩ := hta.ents.rd.sl
          obtain ⟨os', hkr', hfor'⟩ := hta.kids
          obtain ⟨ak', ck', rfl⟩ := hkr'.rd.sl
          clear hkr' hfor'
          have HTAK := Lib.hid hta; clear hta
          have HSS := Lib.hid (size_sub k hdr)
          have HKO := Lib.hid (HOK.out.ks.at_ hdr)
          have HST := Lib.hid (encTake_succ k ks hdr)
          have HUk := Lib.hid (HUK.out _ _ _ _ _ hdr)
          have HO1 := Lib.hid ho'; clear ho'
          have hsz : w.heap.size ≤ wr.heap.size := Nat.le_trans HWB.out.size hfm.size
          have HOB := Lib.hid (show ∀ b, OutS ob v' b → ¬ (Q b ∧ b < w.heap.size) from fun b hb hQ => HQ.out b (outS_fresh hfr b (Nat.lt_of_lt_of_le hQ.2 HWB.out.size) hb) hQ)
          have HFR := Lib.hid hfr; clear hfr
          have HFM := Lib.hid hfm; clear hfm
          have HN1 := Lib.hid (show ¬ OutS ob v' wr.heap.size from fun h => by have := outS_lt HO1.out _ h; omega)
          have hbl : (bs ++ (numB n ++ (encEs es ++ (numB m ++ ks.encTake k)))).length + (textB key ++ encT es' sub).length ≤ 90000000 := by
           have h1 := HUk.out
           have h2 := HL.out
           rw [@List.length_append _ bs _]
           omega
          rw [@List.length_append _ (textB key) _] at hbl
          have HSZ := Lib.hid (textB_size key)
          have HBL := Lib.hid hbl; clear hbl
          have HIH := Lib.hid (fun W v3 bs3 (o : OutAt W ob v3 bs3) (t : TreeAt (fun b => Q b ∧ b < w.heap.size) W (.slice ae' es'.length ce') (.slice ak' sub.len ck') es' sub) (q : ∀ b, OutS ob v3 b → ¬ (Q b ∧ b < w.heap.size)) (l : bs3.length + (encT es' sub).length ≤ 90000000) => IH.out _ es' sub W ob v3 bs3 _ _ (by have := HSS.out; have := HNN.out; omega) o t q HKO.out.2 l)
          generalize es'.length = n' at *
          generalize sub.len = m' at *
          have HB1 := Lib.hid (Put1.start (HO1.out.keep0 (Frm.alloc NoS wr (.cells #[.string key, .slice ae' n' ce', .slice ak' m' ck'] 172))))
          have HTA2 := Lib.hid (HTAK.out.keep0 (Frm.alloc NoS wr (.cells #[.string key, .slice ae' n' ce', .slice ak' m' ck'] 172)))
          clear y1
          go_wp2_with (first
           | (go_at_call 174; refine (putText HB1.out key (by have := HBL.out; have := HSZ.out; simp only [List.length_nil]; omega)).mono ?_; rintro e w4 ⟨rfl, hp4⟩; have z1 : w4.cell? ⟨wr.heap.size, 1, none⟩ = some (.slice ae' n' ce') := hp4.cell (cell_at' (heap_alloc_new wr _) 1 rfl) HN1.out; have z2 : w4.cell? ⟨wr.heap.size, 2, none⟩ = some (.slice ak' m' ck') := hp4.cell (cell_at' (heap_alloc_new wr _) 2 rfl) HN1.out; have HP4 := Lib.hid hp4; clear hp4)
           | (go_at_call 139; refine (HP4.out.call fun v3 ho3 hb3 hf3 => HIH.out _ v3 _ ho3 (HTA2.out.keep hf3 fun b _ hs => HOB.out b hs) (fun b hb hQ => HOB.out b (hb3 b (by simp only [World.size_alloc]; omega) hb) hQ) (by have := HBL.out; rw [List.length_append, List.nil_append]; omega)).mono ?_; rintro e w5 ⟨rfl, hp5⟩; have HP5 := Lib.hid hp5; clear hp5 z1 z2))
          go_roundw
          case rel => exact ⟨k + 1, by omega, by go_num, (Put1.trans HFR.out HFM.out (HP5.out.base (Frm.alloc _ _ _))).cast (by rw [HST.out]; simp only [List.append_assoc, List.nil_append])⟩
          case measure => simp [intOf]; omega
      · obtain rfl : m = k := by omega
        go_wp2
        go_end0
        exact ⟨rfl, (HP1.out.cast HFIN.out).base HWB.out⟩
theorem r16plain_any : ∀ (N : Nat) (Q : Nat → Prop) (es : List Ent) (ks : KidsL) (w : World) (ev kv : Value), sizeK ks < N → TreeAt Q w ev kv es ks → TrOk es ks → (encT es ks).length ≤ 1000000 →
 Calls Tryz.prog 141 #[.agg #[ev, kv]] w (Ret w (encT es ks)) := by
 intro N
 induction N with
 | zero => intros; exfalso; omega
 | succ N IHN =>
  intro Q es ks w ev kv hN ht hok hl
  have IH := Lib.hid IHN; clear IHN
  obtain ⟨ae, ce, rfl⟩ := ht.ents.rd.sl
  obtain ⟨os, hkr, hfor⟩ := ht.kids
  obtain ⟨ak, ck, rfl⟩ := hkr.rd.sl
  have hwb : Frm NoS w (w.alloc (.cells #[.slice ae es.length ce, .slice ak ks.len ck] 28)) := Frm.alloc _ _ _
  have HE := Lib.hid (ht.ents.keep hwb fun _ _ s => s.elim)
  have HKR := Lib.hid (hkr.keep hwb fun _ _ s => s.elim); clear hkr
  have HFOR := Lib.hid (hfor.keep hwb fun _ _ s => s.elim); clear hfor ht
  have HOK := Lib.hid hok; clear hok
  have HNN := Lib.hid hN; clear hN
  have HL := Lib.hid hl; clear hl
  have hnb : es.length ≤ 140737488351232 := HOK.out.es.len
  have hmb : ks.len ≤ 140737488351232 := HOK.out.len
  have HUE := Lib.hid (fun (k : Nat) (h : k < es.length) => encT_upE ks h)
  have HUM := Lib.hid (encT_upM es ks)
  have HUK := Lib.hid (fun (k : Nat) (key : ByteArray) (es' : List Ent) (sub rest : KidsL) (h : ks.drop k = .cons key es' sub rest) => encT_upK es h)
  have HFIN := Lib.hid (show numB es.length ++ (encEs es ++ (numB ks.len ++ ks.encTake ks.len)) = encT es ks by rw [encTake_all]; rfl)
  have HTA := Lib.hid (show encEs (es.take es.length) = encEs es by rw [List.take_length])
  have HT00 := Lib.hid (show numB es.length ++ encEs (es.take 0) = numB es.length by simp [encEs])
  have HK00 := Lib.hid (show numB es.length ++ (encEs es ++ (numB ks.len ++ ks.encTake 0)) = (numB es.length ++ encEs es) ++ numB ks.len by simp [KidsL.encTake])
  generalize hes : es.length = n at *
  have HN := Lib.hid hes; clear hes
  generalize hkl : ks.len = m at *
  have HM := Lib.hid hkl; clear hkl
  obtain ⟨WB, hWB⟩ : ∃ WB, WB = w.alloc (.cells #[.slice ae n ce, .slice ak m ck] 28) := ⟨_, rfl⟩
  have hb0 : WB.heap[w.heap.size]? = some (.cells #[.slice ae n ce, .slice ak m ck] 28 (0, 0)) := by rw [hWB]; exact heap_alloc_new w _
  have HB0 := Lib.hid hb0; clear hb0
  rw [← hWB] at hwb HE HKR HFOR
  have HWB := Lib.hid hwb; clear hwb
  have HBW := Lib.hid hWB; clear hWB
  have HBX := Lib.hid (fun W (f : Frm NoS WB W) => (⟨cell_at' (f.blk HB0.out id) 0 rfl, cell_at' (f.blk HB0.out id) 1 rfl⟩ : W.cell? ⟨w.heap.size, 0, none⟩ = some (.slice ae n ce) ∧ W.cell? ⟨w.heap.size, 1, none⟩ = some (.slice ak m ck)))
  go_enter Tryz.func141, Tryz.ntmps141
  go_wp2_with (go_at_call 101; rw [← HBW.out]; refine (nums1 n _ WB _ (by rw [HBW.out]; simp) ⟨by omega, by omega⟩).mono ?_; rintro e w1 ⟨a1, c1, t1, ht1, rfl, cp1⟩; obtain ⟨y0, y1⟩ := HBX.out w1 cp1.frm; have HT1 := Lib.hid ht1; clear ht1; have HC1 := Lib.hid cp1; clear cp1)
  go_loopw [3, 15] (fun o i ww => ∃ (k : Nat) (a : Option Addr) (c : Nat) (t : List UInt8), k ≤ n ∧ i = .int .i64 k ∧ o = .slice a t.length c ∧ t = numB n ++ encEs (es.take k) ∧ Copy WB o t ww) (fun _ i _ => n - (intOf i).toNat)
  case atStart => exact ⟨0, a1, c1, t1, Nat.zero_le _, rfl, rfl, by rw [HT00.out]; exact HT1.out, HC1.out⟩
  case round =>
   clear HC1 HT1 y0 y1
   obtain ⟨k, a0, c0, t0, hk, rfl, rfl, ht0, hp⟩ := hrel
   have HT0 := Lib.hid ht0; clear ht0
   by_cases hlt : k < n
   · have hlk : k < es.length := by rw [HN.out]; exact hlt
     rcases Rd.shape HE.out.rd with ⟨ad, he, h0⟩ | ⟨b, off, cc, he, hmax⟩
     · exfalso; omega
     · injection he with e1 e2 e3
       subst e1 e3
       clear e2
       obtain ⟨q0, q1, q2, q3⟩ := ent_at (es := es) (HE.out.keep hp.frm fun _ _ s => s.elim).rd k hlk
       obtain ⟨y0, y1⟩ := HBX.out wr hp.frm
       have hft := HOK.out.es.fits _ (getD_mem Ent.zero hlk)
       have HST := Lib.hid (encEs_snoc hlk)
       have HUk := Lib.hid (HUE.out k hlt)
       obtain ⟨s, hgd⟩ : ∃ s, s = es.getD k Ent.zero := ⟨_, rfl⟩
       rw [← hgd] at HST q0 q1 q2 q3 hft HUk
       clear hgd
       have HFT := Lib.hid hft; clear hft
       have hbl : t0.length + ((numB s.dc ++ numB s.n).length + ((textB s.s).length + (numB s.k).length)) ≤ 1000000 := by
        have h1 := HUk.out
        have h2 := HL.out
        have h3 := congrArg List.length HT0.out
        unfold encE at h1
        simp only [List.length_append] at h1 h2 h3 ⊢; omega
       have HBL := Lib.hid hbl; clear hbl
       have HSS := Lib.hid (HFT.out.2.2.2)
       have heb : wr.heap.size < (wr.alloc (.cells #[.int .i64 s.dc, .int .i64 s.n, .string s.s, .int .i64 s.k] 170)).heap.size := by simp
       have HEB := Lib.hid heb; clear heb
       have hne0 : (Value.slice a0 t0.length c0).ownBlock ≠ some wr.heap.size := fun h => by have := own_lt hp.own _ h; omega
       have HNE0 := Lib.hid hne0; clear hne0
       have HPA := Lib.hid (hp.step (Frm.alloc NoS wr (.cells #[.int .i64 s.dc, .int .i64 s.n, .string s.s, .int .i64 s.k] 170))); clear hp
       have HXB := Lib.hid (heap_alloc_new wr (.cells #[.int .i64 s.dc, .int .i64 s.n, .string s.s, .int .i64 s.k] 170))
       go_wp2_with (first
        | (go_at_call 101; refine (nums2 s.dc s.n _ _ _ (by first | rfl | simp) HFT.out.1 HFT.out.2.1).mono ?_; rintro e w1 ⟨a1, c1, t1, ht1, rfl, cp1⟩; have HT1 := Lib.hid ht1; clear ht1; have HP1 := Lib.hid (HPA.out.step cp1.frm); have HX1 := Lib.hid (cp1.frm.blk HXB.out id); have hs1 := cp1.frm.size; have HS1 := Lib.hid hs1; clear hs1; have HC1 := Lib.hid cp1; clear cp1)
        | (at_builtin; refine app_cp WB w1 rfl (.tmp 23) (.tmp 31) rfl _ t0 HP1.out _ t1 rfl rfl HC1.out.rd ?c1 ?_))
       case c1 =>
        have h1 := HBL.out
        have h2 := congrArg List.length HT1.out
        omega
       intro ad2 c2 w2 t2 HT2 e2 f2 r2
       have HX2 := Lib.hid (f2.blk HX1.out HNE0.out)
       have hlx2 : wr.heap.size < w1.heap.size := by have := HEB.out; have := HS1.out; omega
       have HNE2 := Lib.hid (fresh_ne HNE0.out r2 hlx2)
       have HS2 := Lib.hid (Nat.lt_of_lt_of_le hlx2 f2.size)
       have HP2 := Lib.hid e2; clear e2 f2 r2 hlx2
       clear y0 y1 q0 q1 q2 q3
       have z1 := cell_at' HX2.out 2 rfl
       have z2 := cell_at' HX2.out 3 rfl
       go_wp2_with (first
        | (go_at_call 175; refine (Calls.mono (rtext s.s w2 (by have := HSS.out; have h := HBL.out; have := textB_size s.s; omega)) fun _ _ h => Ret.of h).mono ?_; rintro e w3 ⟨a3, c3, t3, ht3, rfl, cp3⟩; have HT3 := Lib.hid ht3; clear ht3; have HP3 := Lib.hid (HP2.out.step cp3.frm); have HX3 := Lib.hid (cp3.frm.blk HX2.out id); have hs3 := cp3.frm.size; have HS3 := Lib.hid hs3; clear hs3; have HC3 := Lib.hid cp3; clear cp3)
        | (at_builtin; refine app_cp WB w3 rfl (.tmp 33) (.tmp 36) rfl _ t2 HP3.out _ t3 rfl rfl HC3.out.rd ?c1 ?_))
       case c1 =>
        have h1 := HBL.out
        have h2 := congrArg List.length HT1.out
        have h3 := congrArg List.length HT2.out
        have h4 := congrArg List.length HT3.out
        rw [List.length_append] at h3
        omega
       intro ad4 c4 w4 t4 HT4 e4 f4 r4
       have HX4 := Lib.hid (f4.blk HX3.out HNE2.out)
       have hlx4 : wr.heap.size < w3.heap.size := by have := HS2.out; have := HS3.out; omega
       have HNE4 := Lib.hid (fresh_ne HNE2.out r4 hlx4)
       have HS4 := Lib.hid (Nat.lt_of_lt_of_le hlx4 f4.size)
       have HP4 := Lib.hid e4; clear e4 f4 r4 hlx4
       clear z1 z2
       have z2 := cell_at' HX4.out 3 rfl
       go_wp2_with (first
        | (go_at_call 101; refine (nums1 s.k _ _ _ (by first | rfl | simp) HFT.out.2.2.1).mono ?_; rintro e w5 ⟨a5, c5, t5, ht5, rfl, cp5⟩; have HT5 := Lib.hid ht5; clear ht5; have HP5 := Lib.hid (HP4.out.step cp5.frm); have HC5 := Lib.hid cp5; clear cp5)
        | (at_builtin; refine app_cp WB w5 rfl (.tmp 38) (.tmp 42) rfl _ t4 HP5.out _ t5 rfl rfl HC5.out.rd ?c1 ?_))
       case c1 =>
        have h1 := HBL.out
        have h2 := congrArg List.length HT1.out
        have h3 := congrArg List.length HT2.out
        have h4 := congrArg List.length HT3.out
        have h5 := congrArg List.length HT4.out
        have h6 := congrArg List.length HT5.out
        rw [List.length_append] at h3 h5
        omega
       intro ad6 c6 w6 t6 HT6 e6 f6 r6
       have HP6 := Lib.hid e6; clear e6 f6 r6
       clear z2
       go_wp2
       go_roundw
       case rel => exact ⟨k + 1, ad6, c6, t6, by omega, by go_num, rfl, by rw [HST.out, HT6.out, HT4.out, HT2.out, HT0.out, HT1.out, HT3.out, HT5.out]; unfold encE; simp only [List.append_assoc], HP6.out⟩
       case measure => simp [intOf]; omega
   · obtain rfl : n = k := by omega
     rw [HTA.out] at HT0
     clear hlt hk HUE HE
     obtain ⟨y0, y1⟩ := HBX.out wr hp.frm
     have HP0 := Lib.hid hp; clear hp
     go_wp2_with (first
      | (go_at_call 101; refine (nums1 m _ wr _ rfl ⟨by omega, by omega⟩).mono ?_; rintro e w1 ⟨a1, c1, t1, ht1, rfl, cp1⟩; have HT1 := Lib.hid ht1; clear ht1; have HP1 := Lib.hid (HP0.out.step cp1.frm); have HC1 := Lib.hid cp1; clear cp1)
      | (at_builtin; refine app_cp WB w1 rfl (.tmp 45) (.tmp 50) rfl _ t0 HP1.out _ t1 rfl rfl HC1.out.rd ?c1 ?_))
     case c1 =>
      have h1 := HUM.out
      have h2 := HL.out
      have h3 := congrArg List.length HT0.out
      have h4 := congrArg List.length HT1.out
      omega
     intro ad2 c2 w2 t2 HT2 e2 f2 r2
     clear y0 y1
     obtain ⟨y0, y1⟩ := HBX.out w2 e2.frm
     have HP2 := Lib.hid e2; clear e2 f2 r2
     go_wp2
     go_loopw [3, 55] (fun o i ww => ∃ (k : Nat) (a : Option Addr) (c : Nat) (t : List UInt8), k ≤ m ∧ i = .int .i64 k ∧ o = .slice a t.length c ∧ t = numB n ++ (encEs es ++ (numB m ++ ks.encTake k)) ∧ Copy WB o t ww) (fun _ i _ => m - (intOf i).toNat)
     case atStart => exact ⟨0, ad2, c2, t2, Nat.zero_le _, rfl, rfl, by rw [HK00.out, HT2.out, HT0.out, HT1.out], HP2.out⟩
     case round =>
      clear HP2 HT2 HP1 HC1 HP0 HT1 y0 y1
      obtain ⟨k, a0, c0, t0, hk, rfl, rfl, ht0, hp⟩ := hrel
      have HT0 := Lib.hid ht0; clear ht0
      by_cases hlt : k < m
      · obtain ⟨key, es', sub, rest, hdr⟩ := KidsL.drop_some (n := k) (ks := ks) (by rw [HM.out]; exact hlt)
        rcases Rd.shape HKR.out.rd with ⟨ad, he, h0⟩ | ⟨b, off, cc, he, hmax⟩
        · exfalso; omega
        · injection he with e1 e2 e3
          subst e1 e3
          clear e2
          obtain ⟨ev', kv', g0, g1, g2, hta⟩ := kid_at HKR.out.rd HFOR.out hdr
          obtain ⟨ae', ce', rfl⟩ := hta.ents.rd.sl
          obtain ⟨os', hkr', hfor'⟩ := hta.kids
          obtain ⟨ak', ck', rfl⟩ := hkr'.rd.sl
          clear hkr' hfor'
          have HKO := Lib.hid (HOK.out.ks.at_ hdr)
          have HST := Lib.hid (encTake_succ k ks hdr)
          have HUk := Lib.hid (HUK.out _ _ _ _ _ hdr)
          have HSS := Lib.hid (size_sub k hdr)
          have hbl : t0.length + ((textB key).length + (encT es' sub).length) ≤ 1000000 := by
           have h1 := HUk.out
           have h2 := HL.out
           have h3 := congrArg List.length HT0.out
           rw [@List.length_append _ (textB key) _] at h1
           omega
          have HBL := Lib.hid hbl; clear hbl
          have HIH := Lib.hid (fun W (f : Frm NoS WB W) => IH.out _ es' sub W _ _ (by have := HSS.out; have := HNN.out; omega) (hta.keep0 f) HKO.out.2 (by have := HBL.out; omega))
          clear hta
          generalize es'.length = n' at *
          generalize sub.len = m' at *
          have HKC := Lib.hid (fun W (f : Frm NoS WB W) => (⟨f.cell' g0 id, f.cell' g1 id, f.cell' g2 id⟩ : W.cell? ⟨b, off + k * 3, none⟩ = some (.string key) ∧ W.cell? ⟨b, off + k * 3 + 1, none⟩ = some (.slice ae' n' ce') ∧ W.cell? ⟨b, off + k * 3 + 2, none⟩ = some (.slice ak' m' ck')))
          clear g0 g1 g2
          obtain ⟨q0, q1, q2⟩ := HKC.out wr hp.frm
          obtain ⟨y0, y1⟩ := HBX.out wr hp.frm
          have HP0 := Lib.hid hp; clear hp
          go_wp2_with (first
           | (go_at_call 175; refine (Calls.mono (rtext key wr (by have h := HBL.out; have := textB_size key; omega)) fun _ _ h => Ret.of h).mono ?_; rintro e w3 ⟨a3, c3, t3, ht3, rfl, cp3⟩; have HT3 := Lib.hid ht3; clear ht3; have HP3 := Lib.hid (HP0.out.step cp3.frm); have HC3 := Lib.hid cp3; clear cp3)
           | (at_builtin; refine app_cp WB w3 rfl (.tmp 58) (.tmp 65) rfl _ t0 HP3.out _ t3 rfl rfl HC3.out.rd ?c1 ?_))
          case c1 =>
           have h1 := HBL.out
           have h2 := congrArg List.length HT3.out
           omega
          intro ad4 c4 w4 t4 HT4 e4 f4 r4
          clear q0 q1 q2 y0 y1
          obtain ⟨q0, q1, q2⟩ := HKC.out w4 e4.frm
          obtain ⟨y0, y1⟩ := HBX.out w4 e4.frm
          have HP4 := Lib.hid e4; clear e4 f4 r4
          go_wp2_with (first
           | (go_at_call 141; refine (HIH.out w4 HP4.out.frm).mono ?_; rintro e w5 ⟨a5, c5, t5, ht5, rfl, cp5⟩; have HT5 := Lib.hid ht5; clear ht5; have HP5 := Lib.hid (HP4.out.step cp5.frm); have HC5 := Lib.hid cp5; clear cp5)
           | (at_builtin; refine app_cp WB w5 rfl (.tmp 67) (.tmp 74) rfl _ t4 HP5.out _ t5 rfl rfl HC5.out.rd ?c1 ?_))
          case c1 =>
           have h1 := HBL.out
           have h2 := congrArg List.length HT3.out
           have h3 := congrArg List.length HT4.out
           have h4 := congrArg List.length HT5.out
           rw [List.length_append] at h3
           omega
          intro ad6 c6 w6 t6 HT6 e6 f6 r6
          have HP6 := Lib.hid e6; clear e6 f6 r6
          clear q0 q1 q2 y0 y1
          go_wp2
          go_roundw
          case rel => exact ⟨k + 1, ad6, c6, t6, by omega, by go_num, rfl, by rw [HST.out, HT6.out, HT4.out, HT0.out, HT3.out, HT5.out]; simp only [List.append_assoc], HP6.out⟩
          case measure => simp [intOf]; omega
      · obtain rfl : m = k := by omega
        have HP0 := Lib.hid hp; clear hp
        go_wp2
        go_ret
        exact ⟨a0, c0, t0, by rw [HT0.out, HFIN.out], rfl, HP0.out.weaken HWB.out⟩
end Go.Proofs.YtcahemkomfaabaaGreat
