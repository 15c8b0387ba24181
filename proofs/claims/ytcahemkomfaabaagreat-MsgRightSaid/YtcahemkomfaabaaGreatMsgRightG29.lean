/- Words for the law MsgRight: R16d, R16e, R16f, R16g, R16h, R16v, R16a, PackPut, PackPut2, R16b, PackPut3, R16c, R16w, R16x, R16y, Awake16a, PackRead, R8Same, R9Same. -/
import Derived.Test.YtcahemkomfaabaaGreatMsgRightG1
import Derived.Test.YtcahemkomfaabaaGreatMsgRightG4
import Derived.Test.YtcahemkomfaabaaGreatMsgRightG7
import Derived.Test.YtcahemkomfaabaaGreatMsgRightG9
import Derived.Test.YtcahemkomfaabaaGreatMsgRightG12
import Derived.Test.YtcahemkomfaabaaGreatMsgRightG13
import Derived.Test.YtcahemkomfaabaaGreatMsgRightG14
import Derived.Test.YtcahemkomfaabaaGreatMsgRightG15
import Derived.Test.YtcahemkomfaabaaGreatMsgRightG16
import Derived.Test.YtcahemkomfaabaaGreatMsgRightG25
import Derived.Test.YtcahemkomfaabaaGreatMsgRightG26
import Derived.Test.YtcahemkomfaabaaGreatMsgRightG28
set_option linter.unusedSimpArgs false
set_option linter.unusedVariables false
/- tributaryref16: bad, Many: the walks; a reference's In that is kept. -/
namespace Go.Proofs.YtcahemkomfaabaaGreat
open Go.RowKit
end Go.Proofs.YtcahemkomfaabaaGreat
/- tributaryref16: how a step of the reference's In turns memory; ToCtx: the walk. -/
namespace Go.Proofs.YtcahemkomfaabaaGreat
open Go.RowKit
end Go.Proofs.YtcahemkomfaabaaGreat
/- tributaryref16: tree: the walk. Printed by wip/r16treegen.py. -/
namespace Go.Proofs.YtcahemkomfaabaaGreat
open Go.RowKit
end Go.Proofs.YtcahemkomfaabaaGreat
/- tributaryref16: ToTree: the walk. -/
namespace Go.Proofs.YtcahemkomfaabaaGreat
open Go.RowKit
end Go.Proofs.YtcahemkomfaabaaGreat
/- tributaryref16: ToCausal: the walk. Printed by wip/r16caugen.py. -/
namespace Go.Proofs.YtcahemkomfaabaaGreat
open Go.RowKit
end Go.Proofs.YtcahemkomfaabaaGreat
/- tributaryref16: ToVector: the walk. Printed by wip/vecgen.py. -/
namespace Go.Proofs.YtcahemkomfaabaaGreat
open Go.RowKit
end Go.Proofs.YtcahemkomfaabaaGreat
/- tributaryref16: nums; what is put onto one's own bytes. -/
namespace Go.Proofs.YtcahemkomfaabaaGreat
open Go.RowKit
theorem app_cp {ops : Array Oper} {rest : List Oper} {o : Oper} {a : Act} {Q : Exit → Act → World → Prop} (w0 W : World) (hgd : o.guard = none) (s x : Operand)
 (ho : o.op = .call { callee := .builtin .append, args := #[s, x], argTypes := #[43, 43] }) (v : Value) (bs : List UInt8) (hp : Copy w0 v bs W) (xv : Value) (cs : List UInt8)
 (hv : a.eval s = v) (hx : a.eval x = xv) (hc : Rd W xv cs.length (bV cs)) (hl : bs.length + cs.length ≤ 140737488355328)
 (h : ∀ ad c w' t, Hid (t = bs ++ cs) → Copy w0 (.slice ad t.length c) t w' → Frm (RowS v) W w' → Fresh W v (.slice ad t.length c) → wpList Tryz.prog ops Q rest (a.put o.dst (.slice ad t.length c)) w') :
 wpList Tryz.prog ops Q (o :: rest) a W :=
 app_u8 W hgd s x 43 ho v bs hp.own xv cs hv hx (hc.src Tryz.underlying43 (by simp) (bV_oneCell _)) hl fun ad c w' own fm fr _ => by
  have hh := h ad c w' (bs ++ cs) (Lib.hid rfl)
  rw [List.length_append] at hh
  exact hh (hp.app own rfl fm fr) fm fr
def Ret (W : World) (bs : List UInt8) (e : Ending) (w' : World) : Prop := ∃ a c t, t = bs ∧ e = .returned (.slice a t.length c) ∧ Copy W (.slice a t.length c) t w'
end Go.Proofs.YtcahemkomfaabaaGreat
/- pack: PutCtx, putDot, put: the walks. -/
namespace Go.Proofs.YtcahemkomfaabaaGreat
open Go.RowKit
theorem encSs_le {c : CtxL} (hf : FitsC c) : ∀ k, (encSs (c.take k)).length ≤ 30 * k := fun k => by
 have h : (encSs (c.take k)).length ≤ 30 * (c.take k).length := flat_le fun s hs => by
  have hb := hf s (List.mem_of_mem_take hs)
  have h1 := numB_le10 (v := s.1) (by omega) (by omega)
  have h2 := numB_le10 (v := s.2.1) (by omega) (by omega)
  have h3 := numB_le10 (v := s.2.2) (by omega) (by omega)
  unfold encS
  simp only [List.length_append]
  omega
 have := List.length_take_le k c
 exact Nat.le_trans h (Nat.mul_le_mul_left _ this)
theorem encSs_snoc {c : CtxL} {k : Nat} (h : k < c.length) : encSs (c.take (k + 1)) = encSs (c.take k) ++ encS (c.getD k (0, 0, 0)) := by
 rw [take_succ (0, 0, 0) h]
 unfold encSs
 rw [List.flatMap_append]
 simp
noncomputable def ctxB (c : CtxL) : List UInt8 := if tf (RightC c) then encC c else encC []
theorem encC_nil : encC [] = numB 0 := by unfold encC encSs; simp
set_option maxHeartbeats 2000000 in
set_option maxRecDepth 1000000 in
theorem pPutCtx_any (Q : Nat → Prop) (ob : Nat) (w : World) (v : Value) (bs : List UInt8) (cv : Value) (c : CtxL) (ho : OutAt w ob v bs) (hc : RdQ Q w cv c.length (spC c)) (hq : ∀ b, OutS ob v b → ¬ Q b) (hf : FitsC c) (hl : c.length ≤ 100000) (hb : bs.length ≤ 80000000) :
 Calls Tryz.prog 97 #[.pointer (some ⟨ob, 0, none⟩), cv] w fun e w' => e = .returned (.tuple #[]) ∧ Put1 w ob v bs (ctxB c) w' := by
 have HRT := Lib.hid (cRight_any w cv c hc.rd hf hl)
 have HQ := Lib.hid hq; clear hq
 have HC := Lib.hid hc; clear hc
 have HF := Lib.hid hf; clear hf
 have HO := Lib.hid ho; clear ho
 obtain ⟨aA, cA, rfl⟩ := HC.out.rd.sl
 unfold ctxB
 by_cases hr : RightC c
 · rw [tf_true hr] at HRT ⊢
   clear hr
   have HE := Lib.hid (encSs_le HF.out)
   have HFIN := Lib.hid (show numB c.length ++ encSs (c.take c.length) = encC c by unfold encC; rw [List.take_length])
   generalize hn : c.length = n at *
   have HN := Lib.hid hn; clear hn
   rw [if_pos rfl]
   go_enter Tryz.func97, Tryz.ntmps97
   go_wp2_with (first
    | (go_at_call 128; refine HRT.out.mono ?_; rintro e w1 ⟨rfl, hw1⟩; have HP0 := Lib.hid ((Put1.start HO.out).keep0 hw1); clear hw1)
    | (go_at_call 40; refine (putNum HP0.out n ⟨by omega, by omega⟩ (by simp only [List.length_nil]; omega)).mono ?_; rintro e w2 ⟨rfl, hp⟩; have HP := Lib.hid hp; clear hp))
   go_loopw [15] (fun i ww => ∃ k : Nat, k ≤ n ∧ i = .int .i64 k ∧ Put1 w ob v bs (numB n ++ encSs (c.take k)) ww) (fun i _ => n - (intOf i).toNat)
   case atStart => exact ⟨0, Nat.zero_le _, rfl, HP.out.cast (by simp [encSs])⟩
   case round =>
    obtain ⟨k, hk, rfl, hp⟩ := hrel
    have HP1 := Lib.hid hp; clear hp
    by_cases hlt : k < n
    · have hlk : k < c.length := by rw [HN.out]; exact hlt
      have hrd := HC.out.put HQ.out HP1.out
      rcases Rd.shape hrd with ⟨ad, he, h0⟩ | ⟨b, off, cc, he, hmax⟩
      · exfalso; omega
      · injection he with e1 e2 e3
        subst e1 e3
        clear e2
        obtain ⟨q0, q1, q2⟩ := spn_at (c := cA) (l := c) (by unfold CtxAt; rw [HN.out]; exact hrd) HN.out.symm k hlk
        clear hrd
        have hbf := HF.out _ (getD_mem (0, 0, 0) hlk)
        have HST := Lib.hid (encSs_snoc hlk)
        obtain ⟨s, hgd⟩ : ∃ s, s = c.getD k (0, 0, 0) := ⟨_, rfl⟩
        rw [← hgd] at HST q0 q1 q2 hbf
        clear hgd
        have HEk := Lib.hid (HE.out k)
        have hn10 : (numB n).length ≤ 10 := numN_le (by omega)
        have HN10 := Lib.hid hn10; clear hn10
        have HBF := Lib.hid hbf; clear hbf
        obtain ⟨v', ho', hfr, hfm⟩ := HP1.out
        have HO1 := Lib.hid ho'; clear ho'
        have HFR := Lib.hid hfr; clear hfr
        have HFM := Lib.hid hfm; clear hfm
        have hno : ¬ OutS ob v' wr.heap.size := fun h => by have := outS_lt HO1.out _ h; omega
        have HNO := Lib.hid hno; clear hno
        have HB := Lib.hid (Put1.start (HO1.out.keep0 (Frm.alloc NoS wr (.cells #[.int .i64 s.1, .int .i64 s.2.1, .int .i64 s.2.2] 122))))
        have hbl : (bs ++ (numB n ++ encSs (c.take k))).length ≤ 83000010 := by
         have := HEk.out
         have := HN10.out
         simp only [List.length_append]; omega
        have HBL := Lib.hid hbl; clear hbl
        have h1 := numB_le10 (v := s.1) (by have := HBF.out; omega) (by have := HBF.out; omega)
        have h2 := numB_le10 (v := s.2.1) (by have := HBF.out; omega) (by have := HBF.out; omega)
        have H1 := Lib.hid h1; clear h1
        have H2 := Lib.hid h2; clear h2
        go_wp2_with (first
         | (go_at_call 40; refine (putNum HP4.out s.2.2 HBF.out.2.2.2.2 (by have h0 := HBL.out; have h1 := H1.out; have h2 := H2.out; simp only [List.nil_append, List.length_append] at h0 h1 h2 ⊢; omega)).mono ?_; rintro e w5 ⟨rfl, hp5⟩; have HP5 := Lib.hid hp5; clear hp5 z2)
         | (go_at_call 40; refine (putNum HP3.out s.2.1 ⟨HBF.out.2.2.1, HBF.out.2.2.2.1⟩ (by have := HBL.out; have := H1.out; simp only [List.nil_append]; omega)).mono ?_; rintro e w4 ⟨rfl, hp4⟩; have z2 : w4.cell? ⟨wr.heap.size, 2, none⟩ = some (.int .i64 s.2.2) := hp4.cell (cell_at' (heap_alloc_new wr _) 2 rfl) HNO.out; have HP4 := Lib.hid hp4; clear hp4 y1 y2 HP3)
         | (go_at_call 40; refine (putNum HB.out s.1 ⟨HBF.out.1, HBF.out.2.1⟩ (by have := HBL.out; simp only [List.length_nil]; omega)).mono ?_; rintro e w3 ⟨rfl, hp3⟩; have y1 : w3.cell? ⟨wr.heap.size, 1, none⟩ = some (.int .i64 s.2.1) := hp3.cell (cell_at' (heap_alloc_new wr _) 1 rfl) HNO.out; have y2 : w3.cell? ⟨wr.heap.size, 2, none⟩ = some (.int .i64 s.2.2) := hp3.cell (cell_at' (heap_alloc_new wr _) 2 rfl) HNO.out; have HP3 := Lib.hid hp3; clear hp3 HB))
        go_roundw
        case rel => exact ⟨k + 1, by omega, by go_num, (Put1.trans HFR.out HFM.out (HP5.out.base (Frm.alloc _ _ _))).cast (by rw [HST.out]; unfold encS; simp only [List.append_assoc, List.nil_append])⟩
        case measure => simp [intOf]; omega
    · obtain rfl : n = k := by omega
      go_wp2
      go_end0
      exact ⟨rfl, HP1.out.cast HFIN.out⟩
 · rw [tf_false hr] at HRT ⊢
   clear hr
   rw [if_neg (by decide), encC_nil]
   go_enter Tryz.func97, Tryz.ntmps97
   go_wp2_with (first
    | (go_at_call 128; refine HRT.out.mono ?_; rintro e w1 ⟨rfl, hw1⟩; have HP0 := Lib.hid ((Put1.start HO.out).keep0 hw1); clear hw1)
    | (go_at_call 40; refine (putNum HP0.out 0 ⟨by omega, by omega⟩ (by simp only [List.length_nil]; omega)).mono ?_; rintro e w2 ⟨rfl, hp⟩; have HP := Lib.hid hp; clear hp))
   go_loopw [15] (fun i ww => i = .int .i64 0 ∧ Put1 w ob v bs (numB 0) ww) (fun i _ => 0)
   case atStart => exact ⟨rfl, HP.out⟩
   case round =>
    obtain ⟨rfl, hp⟩ := hrel
    have HP1 := Lib.hid hp; clear hp
    go_wp2
    go_end0
    exact ⟨rfl, HP1.out⟩
end Go.Proofs.YtcahemkomfaabaaGreat
/- pack: putDot, put: the walks. -/
namespace Go.Proofs.YtcahemkomfaabaaGreat
open Go.RowKit
set_option maxHeartbeats 1000000 in
set_option maxRecDepth 1000000 in
theorem pputDot_go (ob : Nat) (w : World) (v : Value) (bs : List UInt8) (d n : Int) (ho : OutAt w ob v bs) (hd : inR d) (hn : inR n) (hl : bs.length ≤ 94000000) :
 Calls Tryz.prog 173 #[.pointer (some ⟨ob, 0, none⟩), .agg #[.int .i64 d, .int .i64 n]] w fun e w' => e = .returned (.tuple #[]) ∧ Put1 w ob v bs (numB d ++ numB n) w' := by
 have HO := Lib.hid ho; clear ho
 have HNO := Lib.hid (show ¬ OutS ob v w.heap.size from fun h => by have := outS_lt HO.out _ h; omega)
 have HB := Lib.hid (Put1.start (HO.out.keep0 (Frm.alloc NoS w (.cells #[.int .i64 d, .int .i64 n] 168))))
 have H1 := Lib.hid (numB_le10 hd.1 hd.2)
 have HD := Lib.hid hd; clear hd
 have HN := Lib.hid hn; clear hn
 go_enter Tryz.func173, Tryz.ntmps173
 go_wp2_with (first
  | (go_at_call 40; refine (putNum HP3.out n HN.out (by have := H1.out; simp only [List.nil_append]; omega)).mono ?_; rintro e w4 ⟨rfl, hp4⟩; have HP4 := Lib.hid hp4; clear hp4 y1)
  | (go_at_call 40; refine (putNum HB.out d HD.out (by simp only [List.length_nil]; omega)).mono ?_; rintro e w3 ⟨rfl, hp3⟩; have y1 : w3.cell? ⟨w.heap.size, 1, none⟩ = some (.int .i64 n) := hp3.cell (cell_at' (heap_alloc_new w _) 1 rfl) HNO.out; have HP3 := Lib.hid hp3; clear hp3 HB))
 go_end0
 exact ⟨rfl, (HP4.out.base (Frm.alloc _ _ _)).cast (by rw [List.nil_append])⟩
/- ### how far the bytes of a tree are -/
def KidsL.encTake : Nat → KidsL → List UInt8
 | 0, _ => []
 | _ + 1, .nil => []
 | n + 1, .cons key es sub rest => textB key ++ (encT es sub ++ rest.encTake n)
theorem encTake_succ : ∀ (n : Nat) (ks : KidsL) {key : ByteArray} {es : List Ent} {sub rest : KidsL}, ks.drop n = .cons key es sub rest → ks.encTake (n + 1) = ks.encTake n ++ (textB key ++ encT es sub)
 | 0, .cons _ _ _ _, _, _, _, _, h => by cases h; simp [KidsL.encTake]
 | 0, .nil, _, _, _, _, h => by cases h
 | n + 1, .nil, _, _, _, _, h => by cases h
 | n + 1, .cons _ _ _ r, _, _, _, _, h => by
  show textB _ ++ (encT _ _ ++ r.encTake (n + 1)) = (textB _ ++ (encT _ _ ++ r.encTake n)) ++ _
  rw [encTake_succ n r h]
  simp only [List.append_assoc]
theorem encTake_split : ∀ (n : Nat) (ks : KidsL), encK ks = ks.encTake n ++ encK (ks.drop n)
 | 0, _ => rfl
 | _ + 1, .nil => rfl
 | n + 1, .cons key es sub rest => by
  rw [encK_cons]
  show _ = (textB _ ++ (encT _ _ ++ rest.encTake n)) ++ encK (rest.drop n)
  rw [encTake_split n rest]
  simp only [List.append_assoc]
theorem encTake_all (ks : KidsL) : ks.encTake ks.len = encK ks := by
 have h := encTake_split ks.len ks
 rw [KidsL.drop_none (Nat.le_refl _)] at h
 rw [h]; simp [encK]
theorem encEs_snoc {es : List Ent} {k : Nat} (h : k < es.length) : encEs (es.take (k + 1)) = encEs (es.take k) ++ encE (es.getD k Ent.zero) := by
 rw [take_succ Ent.zero h]
 unfold encEs
 rw [List.flatMap_append]
 simp
theorem encEs_split (es : List Ent) (k : Nat) : encEs es = encEs (es.take k) ++ encEs (es.drop k) := by
 have h : encEs (es.take k ++ es.drop k) = encEs (es.take k) ++ encEs (es.drop k) := by unfold encEs; rw [List.flatMap_append]
 rwa [List.take_append_drop] at h
theorem encT_upE {es : List Ent} (ks : KidsL) {k : Nat} (h : k < es.length) : (numB es.length ++ encEs (es.take k)).length + (encE (es.getD k Ent.zero)).length ≤ (encT es ks).length := by
 have h1 := encEs_split es (k + 1)
 rw [encEs_snoc h] at h1
 unfold encT
 rw [h1]
 simp only [List.length_append]
 omega
theorem encT_upK (es : List Ent) {ks : KidsL} {k : Nat} {key : ByteArray} {es' : List Ent} {sub rest : KidsL} (h : ks.drop k = .cons key es' sub rest) :
 (numB es.length ++ (encEs es ++ (numB ks.len ++ ks.encTake k))).length + (textB key ++ encT es' sub).length ≤ (encT es ks).length := by
 have h1 := encTake_split k ks
 rw [h, encK_cons] at h1
 unfold encT
 rw [h1]
 unfold encT
 simp only [List.length_append]
 omega
theorem encT_upM (es : List Ent) (ks : KidsL) : (numB es.length ++ encEs es).length + (numB ks.len).length ≤ (encT es ks).length := by
 unfold encT
 simp only [List.length_append]
 omega
theorem encT_up0 (es : List Ent) (ks : KidsL) : (numB es.length).length ≤ (encT es ks).length := by
 unfold encT
 simp only [List.length_append]
 omega
theorem KidsL.Ok.at_ {k : Nat} {ks : KidsL} {key : ByteArray} {es : List Ent} {sub rest : KidsL} (h : ks.Ok) (hd : ks.drop k = .cons key es sub rest) : key.size ≤ 9223372036854775807 ∧ TrOk es sub := by
 have := h.drop k
 rw [hd] at this
 exact ⟨this.1, this.2.1, this.2.2.1, this.2.2.2.1⟩
theorem textB_size (s : ByteArray) : s.size ≤ (textB s).length := by
 have h : s.data.toList.length = s.size := Array.length_toList
 unfold textB
 rw [List.length_append]; omega
set_option maxHeartbeats 4000000 in
set_option maxRecDepth 1000000 in
theorem pput_go : ∀ (N : Nat) (Q : Nat → Prop) (es : List Ent) (ks : KidsL) (w : World) (ob : Nat) (v : Value) (bs : List UInt8) (ev kv : Value), sizeK ks < N → OutAt w ob v bs → TreeAt Q w ev kv es ks → (∀ b, OutS ob v b → ¬ Q b) → TrOk es ks → bs.length + (encT es ks).length ≤ 90000000 →
 Calls Tryz.prog 139 #[.pointer (some ⟨ob, 0, none⟩), .agg #[ev, kv]] w fun e w' => e = .returned (.tuple #[]) ∧ Put1 w ob v bs (encT es ks) w' := by
 intro N
 induction N with
 | zero => intros; exfalso; omega
 | succ N IHN =>
  intro Q es ks w ob v bs ev kv hN ho ht hq hok hl
  have IH := Lib.hid IHN; clear IHN
  have ht : TreeAt (fun b => Q b ∧ b < w.heap.size) w ev kv es ks := ht.turn fun b hb hQ => ⟨rfl, hQ, hb⟩
  obtain ⟨ae, ce, rfl⟩ := ht.ents.rd.sl
  obtain ⟨os, hkr, hfor⟩ := ht.kids
  obtain ⟨ak, ck, rfl⟩ := hkr.rd.sl
  have hwb : Frm NoS w (w.alloc (.cells #[.slice ae es.length ce, .slice ak ks.len ck] 28)) := Frm.alloc _ _ _
  have HQ := Lib.hid (show ∀ b, OutS ob v b → ¬ (Q b ∧ b < w.heap.size) from fun b hb hQ => hq b hb hQ.1); clear hq
  have HE := Lib.hid (ht.ents.keep hwb fun _ _ s => s.elim)
  have HKR := Lib.hid (hkr.keep hwb fun _ _ s => s.elim); clear hkr
  have HFOR := Lib.hid (hfor.keep hwb fun _ _ s => s.elim); clear hfor ht
  have HO := Lib.hid ho; clear ho
  have HNO := Lib.hid (show ¬ OutS ob v w.heap.size from fun h => by have := outS_lt HO.out _ h; omega)
  have HOK := Lib.hid hok; clear hok
  have HNN := Lib.hid hN; clear hN
  have HL := Lib.hid hl; clear hl
  have hnb : es.length ≤ 140737488351232 := HOK.out.es.len
  have hmb : ks.len ≤ 140737488351232 := HOK.out.len
  have HUE := Lib.hid (fun (k : Nat) (h : k < es.length) => encT_upE ks h)
  have HU0 := Lib.hid (encT_up0 es ks)
  have HUM := Lib.hid (encT_upM es ks)
  have HUK := Lib.hid (fun (k : Nat) (key : ByteArray) (es' : List Ent) (sub rest : KidsL) (h : ks.drop k = .cons key es' sub rest) => encT_upK es h)
  have HFIN := Lib.hid (show numB es.length ++ (encEs es ++ (numB ks.len ++ ks.encTake ks.len)) = encT es ks by rw [encTake_all]; rfl)
  have HTA := Lib.hid (show encEs (es.take es.length) = encEs es by rw [List.take_length])
  generalize hes : es.length = n at *
  have HN := Lib.hid hes; clear hes
  generalize hkl : ks.len = m at *
  have HM := Lib.hid hkl; clear hkl
  obtain ⟨WB, hWB⟩ : ∃ WB, WB = w.alloc (.cells #[.slice ae n ce, .slice ak m ck] 28) := ⟨_, rfl⟩
  have hb0 : WB.heap[w.heap.size]? = some (.cells #[.slice ae n ce, .slice ak m ck] 28 (0, 0)) := by rw [hWB]; exact heap_alloc_new w _
  have HB0 := Lib.hid hb0; clear hb0
  rw [← hWB] at hwb HE HKR HFOR
  have HWB := Lib.hid hwb; clear hwb
  have HBW := Lib.hid hWB; clear hWB
  have HB := Lib.hid (Put1.start (HO.out.keep0 HWB.out))
  go_enter Tryz.func139, Tryz.ntmps139
  go_wp2_with (go_at_call 40; rw [← HBW.out]; refine (putNum HB.out n ⟨by omega, by omega⟩ (by have := HL.out; simp only [List.length_nil]; omega)).mono ?_; rintro e w1 ⟨rfl, hp⟩; have HP := Lib.hid (hp.cast (List.nil_append _)); clear hp; have y0 : w1.cell? ⟨w.heap.size, 0, none⟩ = some (.slice ae n ce) := HP.out.cell (cell_at' HB0.out 0 rfl) HNO.out)
  go_loopw [16] (fun i ww => ∃ k : Nat, k ≤ n ∧ i = .int .i64 k ∧ Put1 WB ob v bs (numB n ++ encEs (es.take k)) ww) (fun i _ => n - (intOf i).toNat)
  case atStart => exact ⟨0, Nat.zero_le _, rfl, HP.out.cast (by simp [encEs])⟩
  case round =>
   clear HP y0
   obtain ⟨k, hk, rfl, hp⟩ := hrel
   have HP1 := Lib.hid hp; clear hp
   by_cases hlt : k < n
   · have hlk : k < es.length := by rw [HN.out]; exact hlt
     have hrd := HE.out.put HQ.out HP1.out
     rcases Rd.shape hrd with ⟨ad, he, h0⟩ | ⟨b, off, cc, he, hmax⟩
     · exfalso; omega
     · injection he with e1 e2 e3
       subst e1 e3
       clear e2
       obtain ⟨q0, q1, q2, q3⟩ := ent_at (es := es) hrd k hlk
       clear hrd
       have hft := HOK.out.es.fits _ (getD_mem Ent.zero hlk)
       have HST := Lib.hid (encEs_snoc hlk)
       have HUk := Lib.hid (HUE.out k hlt)
       obtain ⟨s, hgd⟩ : ∃ s, s = es.getD k Ent.zero := ⟨_, rfl⟩
       rw [← hgd] at HST q0 q1 q2 q3 hft HUk
       clear hgd
       have HFT := Lib.hid hft; clear hft
       obtain ⟨v', ho', hfr, hfm⟩ := HP1.out
       have HO1 := Lib.hid ho'; clear ho'
       have HFR := Lib.hid hfr; clear hfr
       have HFM := Lib.hid hfm; clear hfm
       have HN1 := Lib.hid (show ¬ OutS ob v' wr.heap.size from fun h => by have := outS_lt HO1.out _ h; omega)
       have HB1 := Lib.hid (Put1.start (HO1.out.keep0 (Frm.alloc NoS wr (.cells #[.int .i64 s.dc, .int .i64 s.n, .string s.s, .int .i64 s.k] 170))))
       have hbl : (bs ++ (numB n ++ encEs (es.take k))).length + (numB s.dc ++ (numB s.n ++ (textB s.s ++ numB s.k))).length ≤ 90000000 := by
        have h1 := HUk.out
        have h2 := HL.out
        unfold encE at h1
        simp only [List.length_append] at h1 h2 ⊢; omega
       simp only [List.length_append] at hbl
       have HSZ := Lib.hid (textB_size s.s)
       have HBL := Lib.hid hbl; clear hbl
       go_wp2_with (first
        | (go_at_call 173; refine (HB1.out.call fun v' ho _ _ => pputDot_go ob _ v' _ s.dc s.n ho HFT.out.1 HFT.out.2.1 (by have := HBL.out; simp only [List.length_append, List.length_nil]; omega)).mono ?_; rintro e w3 ⟨rfl, hp3⟩; have y2 : w3.cell? ⟨wr.heap.size, 2, none⟩ = some (.string s.s) := hp3.cell (cell_at' (heap_alloc_new wr _) 2 rfl) HN1.out; have y3 : w3.cell? ⟨wr.heap.size, 3, none⟩ = some (.int .i64 s.k) := hp3.cell (cell_at' (heap_alloc_new wr _) 3 rfl) HN1.out; have HP3 := Lib.hid hp3; clear hp3)
        | (go_at_call 174; refine (putText HP3.out s.s (by have := HBL.out; have := HSZ.out; simp only [List.length_append, List.length_nil]; omega)).mono ?_; rintro e w4 ⟨rfl, hp4⟩; have z3 : w4.cell? ⟨wr.heap.size, 3, none⟩ = some (.int .i64 s.k) := hp4.cell (cell_at' (heap_alloc_new wr _) 3 rfl) HN1.out; have HP4 := Lib.hid hp4; clear hp4 y2 y3)
        | (go_at_call 40; refine (putNum HP4.out s.k HFT.out.2.2.1 (by have := HBL.out; simp only [List.length_append, List.length_nil]; omega)).mono ?_; rintro e w5 ⟨rfl, hp5⟩; have HP5 := Lib.hid hp5; clear hp5 z3))
       go_roundw
       case rel => exact ⟨k + 1, by omega, by go_num, (Put1.trans HFR.out HFM.out (HP5.out.base (Frm.alloc _ _ _))).cast (by rw [HST.out]; unfold encE; simp only [List.append_assoc, List.nil_append])⟩
       case measure => simp [intOf]; omega
   · obtain rfl : n = k := by omega
     rw [HTA.out] at HP1
     clear hlt hk HUE HE
     have y1 : wr.cell? ⟨w.heap.size, 1, none⟩ = some (.slice ak m ck) := HP1.out.cell (cell_at' HB0.out 1 rfl) HNO.out
     go_wp2_with (go_at_call 40; refine (putNum HP1.out m ⟨by omega, by omega⟩ (by have := HL.out; have := HUM.out; omega)).mono ?_; rintro e w1 ⟨rfl, hp⟩; have HP := Lib.hid (hp.cast (List.append_assoc _ _ _)); clear hp; have y1 : w1.cell? ⟨w.heap.size, 1, none⟩ = some (.slice ak m ck) := HP.out.cell (cell_at' HB0.out 1 rfl) HNO.out)
     go_loopw [41] (fun i ww => ∃ k : Nat, k ≤ m ∧ i = .int .i64 k ∧ Put1 WB ob v bs (numB n ++ (encEs es ++ (numB m ++ ks.encTake k))) ww) (fun i _ => m - (intOf i).toNat)
     case atStart => exact ⟨0, Nat.zero_le _, rfl, HP.out.cast (by simp [KidsL.encTake])⟩
     case round =>
      clear HP HP1
      obtain ⟨k, hk, rfl, hp⟩ := hrel
      have HP1 := Lib.hid hp; clear hp
      by_cases hlt : k < m
      · obtain ⟨key, es', sub, rest, hdr⟩ := KidsL.drop_some (n := k) (ks := ks) (by rw [HM.out]; exact hlt)
        have hrd := HKR.out.put HQ.out HP1.out
        rcases Rd.shape hrd with ⟨ad, he, h0⟩ | ⟨b, off, cc, he, hmax⟩
        · exfalso; omega
        · injection he with e1 e2 e3
          subst e1 e3
          clear e2
          obtain ⟨v', ho', hfr, hfm⟩ := HP1.out
          obtain ⟨ev', kv', q0, q1, q2, hta⟩ := kid_at hrd (HFOR.out.keep hfm fun b _ hs => HQ.out b hs) hdr
          clear hrd
          obtain ⟨ae', ce', rfl⟩ := hta.ents.rd.sl
          obtain ⟨os', hkr', hfor'⟩ := hta.kids
          obtain ⟨ak', ck', rfl⟩ := hkr'.rd.sl
          clear hkr' hfor'
          have HTAK := Lib.hid hta; clear hta
          have HSS := Lib.hid (size_sub k hdr)
          have HKO := Lib.hid (HOK.out.ks.at_ hdr)
          have HST := Lib.hid (encTake_succ k ks hdr)
          have HUk := Lib.hid (HUK.out _ _ _ _ _ hdr)
          have HO1 := Lib.hid ho'; clear ho'
          have hsz : w.heap.size ≤ wr.heap.size := Nat.le_trans HWB.out.size hfm.size
          have HOB := Lib.hid (show ∀ b, OutS ob v' b → ¬ (Q b ∧ b < w.heap.size) from fun b hb hQ => HQ.out b (outS_fresh hfr b (Nat.lt_of_lt_of_le hQ.2 HWB.out.size) hb) hQ)
          have HFR := Lib.hid hfr; clear hfr
          have HFM := Lib.hid hfm; clear hfm
          have HN1 := Lib.hid (show ¬ OutS ob v' wr.heap.size from fun h => by have := outS_lt HO1.out _ h; omega)
          have hbl : (bs ++ (numB n ++ (encEs es ++ (numB m ++ ks.encTake k)))).length + (textB key ++ encT es' sub).length ≤ 90000000 := by
           have h1 := HUk.out
           have h2 := HL.out
           rw [@List.length_append _ bs _]
           omega
          rw [@List.length_append _ (textB key) _] at hbl
          have HSZ := Lib.hid (textB_size key)
          have HBL := Lib.hid hbl; clear hbl
          have HIH := Lib.hid (fun W v3 bs3 (o : OutAt W ob v3 bs3) (t : TreeAt (fun b => Q b ∧ b < w.heap.size) W (.slice ae' es'.length ce') (.slice ak' sub.len ck') es' sub) (q : ∀ b, OutS ob v3 b → ¬ (Q b ∧ b < w.heap.size)) (l : bs3.length + (encT es' sub).length ≤ 90000000) => IH.out _ es' sub W ob v3 bs3 _ _ (by have := HSS.out; have := HNN.out; omega) o t q HKO.out.2 l)
          generalize es'.length = n' at *
          generalize sub.len = m' at *
          have HB1 := Lib.hid (Put1.start (HO1.out.keep0 (Frm.alloc NoS wr (.cells #[.string key, .slice ae' n' ce', .slice ak' m' ck'] 172))))
          have HTA2 := Lib.hid (HTAK.out.keep0 (Frm.alloc NoS wr (.cells #[.string key, .slice ae' n' ce', .slice ak' m' ck'] 172)))
          clear y1
          go_wp2_with (first
           | (go_at_call 174; refine (putText HB1.out key (by have := HBL.out; have := HSZ.out; simp only [List.length_nil]; omega)).mono ?_; rintro e w4 ⟨rfl, hp4⟩; have z1 : w4.cell? ⟨wr.heap.size, 1, none⟩ = some (.slice ae' n' ce') := hp4.cell (cell_at' (heap_alloc_new wr _) 1 rfl) HN1.out; have z2 : w4.cell? ⟨wr.heap.size, 2, none⟩ = some (.slice ak' m' ck') := hp4.cell (cell_at' (heap_alloc_new wr _) 2 rfl) HN1.out; have HP4 := Lib.hid hp4; clear hp4)
           | (go_at_call 139; refine (HP4.out.call fun v3 ho3 hb3 hf3 => HIH.out _ v3 _ ho3 (HTA2.out.keep hf3 fun b _ hs => HOB.out b hs) (fun b hb hQ => HOB.out b (hb3 b (by simp only [World.size_alloc]; omega) hb) hQ) (by have := HBL.out; rw [List.length_append, List.nil_append]; omega)).mono ?_; rintro e w5 ⟨rfl, hp5⟩; have HP5 := Lib.hid hp5; clear hp5 z1 z2))
          go_roundw
          case rel => exact ⟨k + 1, by omega, by go_num, (Put1.trans HFR.out HFM.out (HP5.out.base (Frm.alloc _ _ _))).cast (by rw [HST.out]; simp only [List.append_assoc, List.nil_append])⟩
          case measure => simp [intOf]; omega
      · obtain rfl : m = k := by omega
        go_wp2
        go_end0
        exact ⟨rfl, (HP1.out.cast HFIN.out).base HWB.out⟩
end Go.Proofs.YtcahemkomfaabaaGreat
/- tributaryref16: plain: the walk. -/
namespace Go.Proofs.YtcahemkomfaabaaGreat
open Go.RowKit
end Go.Proofs.YtcahemkomfaabaaGreat
/- pack: PutTree, PutCausal, Bytes: the walks. -/
namespace Go.Proofs.YtcahemkomfaabaaGreat
open Go.RowKit
def treeB (es : List Ent) (ks : KidsL) : List UInt8 := if rightT 5 es ks then encT es ks else encT [] .nil
set_option maxRecDepth 100000 in
theorem tClone_no (Q : Nat → Prop) (es : List Ent) (ks : KidsL) (w : World) (ev kv : Value) (ht : TreeAt Q w ev kv es ks) (hok : TrOk es ks) (hr : rightT 5 es ks = false) :
 Calls Tryz.prog 137 #[.agg #[ev, kv]] w fun e w' => e = .returned (.agg #[.slice none 0 0, .slice none 0 0]) ∧ Frm NoS w w' := by
 obtain ⟨ae, ce, rfl⟩ := ht.ents.rd.sl
 obtain ⟨os, hkr, hfor⟩ := ht.kids
 obtain ⟨ak, ck, rfl⟩ := hkr.rd.sl
 have HR := Lib.hid (fun W (f : Frm NoS w W) => tRight_any Q es ks W _ _ (ht.keep0 f) hok)
 rw [hr] at HR
 clear hkr hfor ht hok hr
 generalize es.length = n at *
 generalize ks.len = m at *
 obtain ⟨hb2, hfb, hbs⟩ := two_blocks w (.cells #[.slice ae n ce, .slice ak m ck] 28) #[.slice none 0 0, .slice none 0 0] 28
 have HB2 := Lib.hid hb2; clear hb2
 have HFB := Lib.hid hfb; clear hfb
 have HBS := Lib.hid hbs; clear hbs
 go_enter Tryz.func137, Tryz.ntmps137
 go_wp2_with (go_at_call 126; refine (HR.out _ HFB.out).mono ?_; rintro e w1 ⟨rfl, hw1⟩; obtain ⟨y0, y1⟩ := box2 w _ _ _ w1 ((Frm.alloc NoS _ _).then1 hw1); have hblk := hw1.blk HB2.out id; have z0 := cell_at' hblk 0 rfl; have z1 := cell_at' hblk 1 rfl; have f0 := free_at' hblk 0; have f1 := free_at' hblk 1; have hsb := lt_of_block hblk; have HR2 := Lib.hid (res2 hblk (HFB.out.then1 hw1) (by omega) (.slice none 0 0) (.slice none 0 0)); have HW1 := Lib.hid hw1; clear hw1 hblk)
 clear y0 y1 z0 z1
 have y0 := cell_at' HR2.out.1 0 rfl
 have y1 := cell_at' HR2.out.1 1 rfl
 exact bodyPost_ret (v := .agg #[.slice none 0 0, .slice none 0 0]) (by simp [results, Tryz.results137, go_sem, y0, y1]) rfl ⟨rfl, HR2.out.2.1⟩
theorem tree_nil (w : World) : TreeAt (fun b => w.heap.size ≤ b) w (.slice none 0 0) (.slice none 0 0) [] .nil :=
 ⟨⟨.inl ⟨none, rfl, rfl, rfl⟩, fun h => absurd rfl h⟩, [], ⟨.inl ⟨none, rfl, rfl, rfl⟩, fun h => absurd rfl h⟩, rfl⟩
theorem tClone_all (Q : Nat → Prop) (es : List Ent) (ks : KidsL) (w : World) (ev kv : Value) (ht : TreeAt Q w ev kv es ks) (hok : TrOk es ks) (hsz : sizeT es ks ≤ 4000) :
 Calls Tryz.prog 137 #[.agg #[ev, kv]] w fun e w' => ∃ ev' kv' es' ks', e = .returned (.agg #[ev', kv']) ∧ TreeAt (fun b => w.heap.size ≤ b) w' ev' kv' es' ks' ∧ TrOk es' ks' ∧ encT es' ks' = treeB es ks ∧ Frm NoS w w' := by
 cases hr : rightT 5 es ks with
 | true => exact (tClone_any Q es ks w ev kv ht hok hsz hr).mono fun e w' ⟨ev', kv', h1, h2, h3⟩ => ⟨ev', kv', es, ks, h1, h2, hok, by unfold treeB; rw [hr]; rfl, h3⟩
 | false => exact (tClone_no Q es ks w ev kv ht hok hr).mono fun e w' ⟨h1, h3⟩ => ⟨_, _, [], .nil, h1, (tree_nil w).keep0 h3, ⟨⟨by simp, fun e he => by cases he⟩, by simp [KidsL.len], trivial⟩, by unfold treeB; rw [hr]; rfl, h3⟩
theorem treeB_le {es : List Ent} {ks : KidsL} (hsz : sizeT es ks ≤ 4000) : (treeB es ks).length ≤ 300020 := by
 unfold treeB
 split
 · have := encT_le (by assumption) (by omega : sizeT es ks ≤ 9223372036854775807)
   omega
 · have := encT_le (es := []) (ks := .nil) (by decide) (by decide)
   have h0 : sizeT [] .nil = 0 := rfl
   omega
set_option maxRecDepth 100000 in
theorem pPutTree_any (Q : Nat → Prop) (ob : Nat) (w : World) (v : Value) (bs : List UInt8) (es : List Ent) (ks : KidsL) (ev kv : Value) (ho : OutAt w ob v bs) (ht : TreeAt Q w ev kv es ks) (hok : TrOk es ks) (hsz : sizeT es ks ≤ 4000) (hl : bs.length ≤ 80000000) :
 Calls Tryz.prog 96 #[.pointer (some ⟨ob, 0, none⟩), .agg #[ev, kv]] w fun e w' => e = .returned (.tuple #[]) ∧ Put1 w ob v bs (treeB es ks) w' := by
 have HC := Lib.hid (fun W (f : Frm NoS w W) => tClone_all Q es ks W _ _ (ht.keep0 f) hok hsz)
 have HLE := Lib.hid (treeB_le hsz)
 obtain ⟨ae, ce, rfl⟩ := ht.ents.rd.sl
 obtain ⟨os, hkr, hfor⟩ := ht.kids
 obtain ⟨ak, ck, rfl⟩ := hkr.rd.sl
 clear hkr hfor ht hok hsz
 generalize treeB es ks = X at *
 generalize es.length = n at *
 generalize ks.len = m at *
 have HO := Lib.hid ho; clear ho
 have HA := Lib.hid (Frm.alloc NoS w (.cells #[.slice ae n ce, .slice ak m ck] 28))
 go_enter Tryz.func96, Tryz.ntmps96
 go_wp2_with (first
  | (go_at_call 137; refine (HC.out _ HA.out).mono ?_; rintro e w1 ⟨ev', kv', es', ks', rfl, hta, hok, hx, hf⟩; obtain ⟨a1, c1, rfl⟩ := hta.ents.rd.sl; obtain ⟨os3, hkr3, -⟩ := hta.kids; obtain ⟨a2, c2, rfl⟩ := hkr3.rd.sl; clear hkr3; subst hx; have HK := Lib.hid (fun ho => pput_go _ _ es' ks' w1 ob v bs _ _ (Nat.lt_succ_self _) ho hta (fun b hb hQ => by have := outS_lt HO.out b hb; have := HA.out.size; omega) hok (by have := HLE.out; omega)); generalize es'.length = n' at *; generalize ks'.len = m' at *; clear hta hok; have HF := Lib.hid (HA.out.then1 hf); clear hf)
  | (go_at_call 139; refine (HK.out (HO.out.keep0 HF.out)).mono ?_; rintro e w2 ⟨rfl, hp⟩; have HP := Lib.hid hp; clear hp))
 go_end0
 exact ⟨rfl, HP.out.base HF.out⟩
noncomputable def cauB (es : List Ent) (ks : KidsL) (c : CtxL) : List UInt8 := if tf (CauRight es ks c) then encX es ks c else encX [] .nil []
set_option maxRecDepth 100000 in
theorem caClone_no (Q : Nat → Prop) (es : List Ent) (ks : KidsL) (c : CtxL) (w : World) (ev kv cv : Value) (h : CauAt Q w ev kv cv es ks c) (hok : CauOk es ks c) (hr : ¬ CauRight es ks c) :
 Calls Tryz.prog 95 #[.agg #[ev, kv, cv]] w fun e w' => e = .returned (.agg #[.slice none 0 0, .slice none 0 0, .slice none 0 0]) ∧ Frm NoS w w' := by
 obtain ⟨a0, c0, a1, c1, a2, c2, rfl, rfl, rfl⟩ := h.shape
 have HR := Lib.hid (fun w' (f : Frm NoS w w') => tf_false hr ▸ caRight_any Q es ks c w' _ _ _ (h.keep0 f) hok)
 clear h hok hr
 generalize es.length = n at *
 generalize ks.len = m at *
 generalize c.length = k at *
 obtain ⟨hb2, hfb, hbs⟩ := two_blocks w (.cells #[.slice a0 n c0, .slice a1 m c1, .slice a2 k c2] 32) #[.slice none 0 0, .slice none 0 0, .slice none 0 0] 32
 have HB2 := Lib.hid hb2; clear hb2
 have HFB := Lib.hid hfb; clear hfb
 have HBS := Lib.hid hbs; clear hbs
 go_enter Tryz.func95, Tryz.ntmps95
 go_wp2_with (go_at_call 79; refine (HR.out _ HFB.out).mono ?_; rintro e w1 ⟨rfl, hw1⟩; obtain ⟨y0, y1, y2⟩ := box3 w _ _ _ _ w1 ((Frm.alloc NoS _ _).then1 hw1); have hblk := hw1.blk HB2.out id; have z0 := cell_at' hblk 0 rfl; have z1 := cell_at' hblk 1 rfl; have z2 := cell_at' hblk 2 rfl; have f0 := free_at' hblk 0; have f1 := free_at' hblk 1; have f2 := free_at' hblk 2; have hsb := lt_of_block hblk; have HR3 := Lib.hid (res3 hblk (HFB.out.then1 hw1) (by omega) (.slice none 0 0) (.slice none 0 0) (.slice none 0 0)); have HW1 := Lib.hid hw1; clear hw1 hblk)
 clear y0 y1 y2 z0 z1 z2
 have y0 := cell_at' HR3.out.1 0 rfl
 have y1 := cell_at' HR3.out.1 1 rfl
 have y2 := cell_at' HR3.out.1 2 rfl
 exact bodyPost_ret (v := .agg #[.slice none 0 0, .slice none 0 0, .slice none 0 0]) (by simp [results, Tryz.results95, go_sem, y0, y1, y2]) rfl ⟨rfl, HR3.out.2.1⟩
theorem caClone_all (Q : Nat → Prop) (es : List Ent) (ks : KidsL) (c : CtxL) (w : World) (ev kv cv : Value) (h : CauAt Q w ev kv cv es ks c) (hok : CauOk es ks c) :
 Calls Tryz.prog 95 #[.agg #[ev, kv, cv]] w fun e w' => ∃ ev' kv' cv' es' ks' c', e = .returned (.agg #[ev', kv', cv']) ∧ TreeAt (fun b => w.heap.size ≤ b) w' ev' kv' es' ks' ∧ RdQ (fun b => w.heap.size ≤ b) w' cv' c'.length (spC c') ∧ CauOk es' ks' c' ∧ treeB es' ks' ++ ctxB c' = cauB es ks c ∧ Frm NoS w w' := by
 by_cases hr : CauRight es ks c
 · refine (caClone_ok Q es ks c w ev kv cv h hok hr).mono fun e w' ⟨ev', kv', cv', h1, h2, h3⟩ => ⟨ev', kv', cv', es, ks, c, h1, h2, h3.rdq, hok, ?_, h3.frm⟩
   unfold cauB treeB ctxB
   rw [tf_true hr, hr.tree, tf_true hr.ctx]
   rfl
 · refine (caClone_no Q es ks c w ev kv cv h hok hr).mono fun e w' ⟨h1, h3⟩ => ⟨_, _, _, [], .nil, [], h1, (tree_nil w).keep0 h3, ⟨.inl ⟨none, rfl, rfl, rfl⟩, fun h => absurd rfl h⟩, ⟨⟨⟨by simp, fun e he => by cases he⟩, by simp [KidsL.len], trivial⟩, by decide, (fun s hs => by cases hs), by simp⟩, ?_, h3⟩
   have e1 : rightT 5 [] .nil = true := by decide
   unfold cauB treeB ctxB
   rw [tf_false hr, e1, tf_true right_nilC]
   rfl
set_option maxRecDepth 100000 in
theorem pPutCausal_any (Q : Nat → Prop) (ob : Nat) (w : World) (v : Value) (bs : List UInt8) (es : List Ent) (ks : KidsL) (c : CtxL) (ev kv cv : Value) (ho : OutAt w ob v bs) (h : CauAt Q w ev kv cv es ks c) (hok : CauOk es ks c) (hl : bs.length ≤ 79000000) :
 Calls Tryz.prog 43 #[.pointer (some ⟨ob, 0, none⟩), .agg #[ev, kv, cv]] w fun e w' => e = .returned (.tuple #[]) ∧ Put1 w ob v bs (cauB es ks c) w' := by
 have HC := Lib.hid (fun W (f : Frm NoS w W) => caClone_all Q es ks c W _ _ _ (h.keep0 f) hok)
 obtain ⟨a0, c0, a1, c1, a2, c2, rfl, rfl, rfl⟩ := h.shape
 clear h hok
 generalize cauB es ks c = X at *
 generalize es.length = n at *
 generalize ks.len = m at *
 generalize c.length = k at *
 have HO := Lib.hid ho; clear ho
 have HBX := Lib.hid (heap_alloc_new w (.cells #[.slice a0 n c0, .slice a1 m c1, .slice a2 k c2] 32))
 have HA := Lib.hid (Frm.alloc NoS w (.cells #[.slice a0 n c0, .slice a1 m c1, .slice a2 k c2] 32))
 have HAS := Lib.hid (show (w.alloc (.cells #[.slice a0 n c0, .slice a1 m c1, .slice a2 k c2] 32)).heap.size = w.heap.size + 1 by simp)
 have HNO := Lib.hid (show ¬ OutS ob v w.heap.size from fun h => by have := outS_lt HO.out _ h; omega)
 go_enter Tryz.func43, Tryz.ntmps43
 go_wp2_with (first
  | (go_at_call 95; refine (HC.out _ HA.out).mono ?_; rintro e w1 ⟨ev', kv', cv', es', ks', c', rfl, hta, hrc, hok, hx, hf⟩; obtain ⟨a3, c3, rfl⟩ := hta.ents.rd.sl; obtain ⟨os3, hkr3, -⟩ := hta.kids; obtain ⟨a4, c4, rfl⟩ := hkr3.rd.sl; clear hkr3; obtain ⟨a5, c5, rfl⟩ := hrc.rd.sl; have HXX := Lib.hid hx; clear hx
     have hblk := hf.blk HBX.out id
     have HBLK := Lib.hid hblk
     have y0 := cell_at' hblk 0 rfl
     have y1 := cell_at' hblk 1 rfl
     have y2 := cell_at' hblk 2 rfl
     have f0 := free_at' hblk 0
     have f1 := free_at' hblk 1
     have f2 := free_at' hblk 2
     have hsb := lt_of_block hblk
     have HR3 := Lib.hid (res3 (w0 := w) hblk (HA.out.then1 hf) (Nat.le_refl _) (.slice a3 es'.length c3) (.slice a4 ks'.len c4) (.slice a5 c'.length c5))
     have HTA := Lib.hid (hta.turn (Q' := fun b => w.heap.size + 1 ≤ b) fun b hb hQ => ⟨HR3.out.2.2 b (by have := HAS.out; omega), by have := HAS.out; omega⟩)
     have HRC := Lib.hid (hrc.turn (Q' := fun b => w.heap.size + 1 ≤ b ∧ b < w1.heap.size) fun b hb hQ => ⟨HR3.out.2.2 b (by have := HAS.out; omega), by have := HAS.out; omega, hb⟩)
     have HXL := Lib.hid (treeB_le (es := es') (ks := ks') (Nat.le_trans hok.small (by decide)))
     have HK := Lib.hid (pPutTree_any _ ob _ v bs es' ks' _ _ (HO.out.keep0 HR3.out.2.1) HTA.out hok.tree (Nat.le_trans hok.small (by decide)) (by omega))
     have HK2 := Lib.hid (fun W v' (f : Frm (OutS ob v) _ W) (hb : ∀ b, b < _ → OutS ob v' b → OutS ob v b) (ho : OutAt W ob v' (bs ++ treeB es' ks')) => pPutCtx_any (fun b => w.heap.size + 1 ≤ b ∧ b < w1.heap.size) ob W v' _ _ c' ho (HRC.out.keep f fun b _ hs => (by have := outS_lt HO.out b hs; omega)) (fun b hb' hQ => by have := outS_lt HO.out b (hb b hQ.2 hb'); omega) hok.fits (by have := hok.len; omega) (by have := HXL.out; rw [List.length_append]; omega))
     clear hta hrc hok hblk hf
     generalize treeB es' ks' = X1 at *
     generalize ctxB c' = X2 at *
     generalize es'.length = n' at *
     generalize ks'.len = m' at *
     generalize c'.length = k' at *)
  | (go_at_call 96; refine HK.out.mono ?_; rintro e w2 ⟨rfl, hp⟩; have y2 : w2.cell? ⟨w.heap.size, 2, none⟩ = some (.slice a5 k' c5) := hp.cell (cell_at' HR3.out.1 2 rfl) HNO.out; have HP := Lib.hid hp; clear hp)
  | (go_at_call 97; refine (HP.out.call fun v' ho hb hf => HK2.out _ v' hf (fun b hb' hs => hb b (by simpa using hb') hs) ho).mono ?_; rintro e w3 ⟨rfl, hp⟩; have HP3 := Lib.hid hp; clear hp))
 go_end0
 exact ⟨rfl, (HP3.out.base HR3.out.2.1).cast HXX.out⟩
end Go.Proofs.YtcahemkomfaabaaGreat
/- tributaryref16: Ctx, Tree, Causal: the walks. -/
namespace Go.Proofs.YtcahemkomfaabaaGreat
open Go.RowKit
end Go.Proofs.YtcahemkomfaabaaGreat
/- tributaryref16: Vector: the walk. Printed by wip/r16vecgen.py. -/
namespace Go.Proofs.YtcahemkomfaabaaGreat
open Go.RowKit
noncomputable def vecB (v0 v1 v2 v3 : Int) : List UInt8 := if tf (MayV (vecF v0 v1 v2 v3)) = true then encV v0 v1 v2 v3 else encV 0 0 0 0
end Go.Proofs.YtcahemkomfaabaaGreat
/- tributaryref16: Op: the walk. Printed by wip/r16opgen.py. -/
namespace Go.Proofs.YtcahemkomfaabaaGreat
open Go.RowKit
end Go.Proofs.YtcahemkomfaabaaGreat
/- tributaryref16: Op where the change is not right: the walk. -/
namespace Go.Proofs.YtcahemkomfaabaaGreat
open Go.RowKit
end Go.Proofs.YtcahemkomfaabaaGreat
/- tributarylaw16: known: the walk. -/
namespace Go.Proofs.YtcahemkomfaabaaGreat
open Go.RowKit
end Go.Proofs.YtcahemkomfaabaaGreat
/- pack: Read: the walk. -/
namespace Go.Proofs.YtcahemkomfaabaaGreat
open Go.RowKit
end Go.Proofs.YtcahemkomfaabaaGreat
/- tributaryref08: Same: the walk. Printed by wip/r8samegen.py. -/
namespace Go.Proofs.YtcahemkomfaabaaGreat
open Go.RowKit
set_option maxHeartbeats 8000000 in
set_option maxRecDepth 1000000 in
theorem r8Same_any (Q Q' : Nat → Prop) : ∀ (N : Nat) (es : List Ent) (ks : KidsL) (es' : List Ent) (ks' : KidsL) (w : World) (ev kv ev' kv' : Value), sizeK ks < N → TreeAt Q w ev kv es ks → TreeAt Q' w ev' kv' es' ks' → sizeT es ks ≤ 100000 → sizeT es' ks' ≤ 100000 →
 Calls Tryz.prog 94 #[.agg #[ev, kv], .agg #[ev', kv']] w fun e w' => e = .returned (.bool (tf (es = es' ∧ ks = ks'))) ∧ Frm NoS w w' := by
 intro N
 induction N with
 | zero => intros; exfalso; omega
 | succ N IHN =>
  intro es ks es' ks' w ev kv ev' kv' hN ht ht' hsz hsz'
  obtain ⟨ae, ce, rfl⟩ := ht.ents.rd.sl
  obtain ⟨os, hkr, hfor⟩ := ht.kids
  obtain ⟨ak, ck, rfl⟩ := hkr.rd.sl
  obtain ⟨ae', ce', rfl⟩ := ht'.ents.rd.sl
  obtain ⟨os', hkr', hfor'⟩ := ht'.kids
  obtain ⟨ak', ck', rfl⟩ := hkr'.rd.sl
  have h1 : es.length ≤ 100000 := by unfold sizeT at hsz; omega
  have h2 : es'.length ≤ 100000 := by unfold sizeT at hsz'; omega
  have h3 : ks.len ≤ 100000 := by have := len_le_sizeK ks; unfold sizeT at hsz; omega
  have h4 : ks'.len ≤ 100000 := by have := len_le_sizeK ks'; unfold sizeT at hsz'; omega
  by_cases hle : es.length = es'.length
  rotate_left 1
  · rw [tf_false fun h => hle (by rw [h.1])]
    clear ht ht' hkr hkr' hfor hfor' IHN hN hsz hsz'
    generalize es.length = n at *
    generalize ks.len = m at *
    generalize es'.length = n' at *
    generalize ks'.len = m' at *
    have hz : ((n : Int) == (n' : Int)) = false := by simp; omega
    have HFB := Lib.hid ((Frm.alloc NoS w (.cells #[.slice ae n ce, .slice ak m ck] 28)).alloc1 (o := .cells #[.slice ae' n' ce', .slice ak' m' ck'] 28))
    go_enter Tryz.func94, Tryz.ntmps94
    go_wp2
    go_ret
    exact ⟨rfl, HFB.out⟩
  by_cases hlk : ks.len = ks'.len
  rotate_left 1
  · rw [tf_false fun h => hlk (by rw [h.2])]
    rw [← hle]
    clear ht ht' hkr hkr' hfor hfor' IHN hN hsz hsz' h2 hle
    generalize es.length = n at *
    generalize ks.len = m at *
    generalize ks'.len = m' at *
    have hz : ((m : Int) == (m' : Int)) = false := by simp; omega
    have HFB := Lib.hid ((Frm.alloc NoS w (.cells #[.slice ae n ce, .slice ak m ck] 28)).alloc1 (o := .cells #[.slice ae' n ce', .slice ak' m' ck'] 28))
    go_enter Tryz.func94, Tryz.ntmps94
    go_wp2
    go_ret
    exact ⟨rfl, HFB.out⟩
  have HE := Lib.hid ht.ents.rd
  have hE' := ht'.ents.rd
  have hK' := hkr'.rd
  rw [← hle] at hE' ⊢
  rw [← hlk] at hK' ⊢
  have HE' := Lib.hid hE'; clear hE'
  have HKR := Lib.hid hkr.rd
  have HKR' := Lib.hid hK'; clear hK'
  have HFOR := Lib.hid hfor; clear hfor
  have HFOR' := Lib.hid hfor'; clear hfor'
  have HLE := Lib.hid hle.symm; clear hle
  have HLK := Lib.hid hlk.symm; clear hlk
  have IH := Lib.hid IHN; clear IHN
  have HSZ := Lib.hid hsz; clear hsz
  have HSZ' := Lib.hid hsz'; clear hsz'
  have HNN := Lib.hid hN; clear hN
  clear ht ht' hkr hkr' h2 h4
  generalize hes : es.length = n at *
  have HN := Lib.hid hes; clear hes
  generalize hkl : ks.len = m at *
  have HM := Lib.hid hkl; clear hkl
  have HFB := Lib.hid ((Frm.alloc NoS w (.cells #[.slice ae n ce, .slice ak m ck] 28)).alloc1 (o := .cells #[.slice ae' n ce', .slice ak' m ck'] 28))
  have HBX := Lib.hid (pair2 w (.slice ae n ce) (.slice ak m ck) (.slice ae' n ce') (.slice ak' m ck') 28)
  go_enter Tryz.func94, Tryz.ntmps94
  go_wp2
  go_loopw [26] (fun i ww => ∃ k : Nat, k ≤ n ∧ i = .int .i64 k ∧ LikeE es es' k ∧ Frm NoS ((w.alloc (.cells #[.slice ae n ce, .slice ak m ck] 28)).alloc (.cells #[.slice ae' n ce', .slice ak' m ck'] 28)) ww) (fun i _ => n - (intOf i).toNat)
  case atStart => exact ⟨0, Nat.zero_le _, rfl, (fun j hj => absurd hj (Nat.not_lt_zero _)), Frm.refl _ _⟩
  case round =>
   obtain ⟨k, hk, rfl, hlk, hw⟩ := hrel
   have HLI := Lib.hid hlk; clear hlk
   have HW := Lib.hid hw; clear hw
   obtain ⟨b0, b1, b2, b3⟩ := HBX.out wr HW.out
   by_cases hlt : k < n
   · rcases Rd.shape HE.out with ⟨ad, he, h0⟩ | ⟨e1, off1, cc1, he, hmax⟩
     · exfalso; omega
     rcases Rd.shape HE'.out with ⟨ad, he2, h0⟩ | ⟨e2, off2, cc2, he2, hmax2⟩
     · exfalso; omega
     injection he with g1 g2 g3
     injection he2 with g4 g5 g6
     subst g1 g3 g4 g6
     clear g2 g5
     obtain ⟨p0, p1, p2, p3⟩ := ent_at HE.out k (by rw [HN.out]; exact hlt)
     obtain ⟨q0, q1, q2, q3⟩ := ent_at HE'.out k (by rw [HLE.out]; exact hlt)
     have hfw := HFB.out.then1 HW.out
     have p0 := hfw.cell' p0 id
     have p1 := hfw.cell' p1 id
     have p2 := hfw.cell' p2 id
     have p3 := hfw.cell' p3 id
     have q0 := hfw.cell' q0 id
     have q1 := hfw.cell' q1 id
     have q2 := hfw.cell' q2 id
     have q3 := hfw.cell' q3 id
     clear hfw
     have HST := Lib.hid (show es.getD k Ent.zero = es'.getD k Ent.zero → LikeE es es' (k + 1) from HLI.out.step)
     have HNO := Lib.hid (show es.getD k Ent.zero ≠ es'.getD k Ent.zero → ¬ (es = es' ∧ ks = ks') from fun h e => h (by rw [e.1]))
     generalize es.getD k Ent.zero = s at *
     generalize es'.getD k Ent.zero = t at *
     by_cases hst : s = t
     · subst hst
       go_wp2_with fail
       go_quiet (fail)
       go_wp2
       go_roundw
       case rel => exact ⟨k + 1, by omega, by go_num, HST.out (by trivial), HW.out.drewN1⟩
       case measure => simp [intOf]; omega
     · have HNE := Lib.hid (show false = tf (es = es' ∧ ks = ks') from (tf_false (HNO.out hst)).symm)
       obtain ⟨s0, s1, s2, s3⟩ := s
       obtain ⟨t0, t1, t2, t3⟩ := t
       clear HST HNO
       dsimp only at p0 p1 p2 p3 q0 q1 q2 q3
       by_cases g0 : s0 = t0
       · subst g0
         by_cases g1 : s1 = t1
         · subst g1
           by_cases g2 : s2 = t2
           · subst g2
             have g3 : s3 ≠ t3 := fun h => hst (by rw [h])
             clear hst
             have gb : ((s3 : Int) == t3) = false := by simpa using g3
             go_wp2_with fail
             go_quiet (fail)
             go_wp2
             go_ret
             exact ⟨ret_bool HNE.out, HFB.out.then1 HW.out.drewN1⟩
           · clear hst
             have gb := ne_text g2
             go_wp2_with fail
             go_quiet (fail)
             go_wp2
             go_ret
             exact ⟨ret_bool HNE.out, HFB.out.then1 HW.out.drewN1⟩
         · clear hst
           have gb : ((s1 : Int) == t1) = false := by simpa using g1
           go_wp2_with fail
           go_quiet (fail)
           go_wp2
           go_ret
           exact ⟨ret_bool HNE.out, HFB.out.then1 HW.out.drewN1⟩
       · clear hst
         have gb : ((s0 : Int) == t0) = false := by simpa using g0
         go_wp2_with fail
         go_quiet (fail)
         go_wp2
         go_ret
         exact ⟨ret_bool HNE.out, HFB.out.then1 HW.out.drewN1⟩
   · obtain rfl : n = k := by omega
     have hee : es = es' := LikeE.all (HN.out.trans HLE.out.symm) (by rw [HN.out]; exact HLI.out)
     have HEE := Lib.hid hee; clear hee
     go_wp2
     clear b0 b1 b2 b3
     go_loopw [44] (fun i ww => ∃ k : Nat, k ≤ m ∧ i = .int .i64 k ∧ (ks = ks' ↔ ks.drop k = ks'.drop k) ∧ Frm NoS ((w.alloc (.cells #[.slice ae n ce, .slice ak m ck] 28)).alloc (.cells #[.slice ae' n ce', .slice ak' m ck'] 28)) ww) (fun i _ => m - (intOf i).toNat)
     case atStart => exact ⟨0, Nat.zero_le _, rfl, Iff.rfl, HW.out⟩
     case round =>
      obtain ⟨k, hk, rfl, hiff, hwk⟩ := hrel
      have HIF := Lib.hid hiff; clear hiff
      have HWK := Lib.hid hwk; clear hwk
      by_cases hlt : k < m
      · obtain ⟨key, es0, sub, rest, hdr⟩ := KidsL.drop_some (n := k) (ks := ks) (by rw [HM.out]; exact hlt)
        obtain ⟨key', es0', sub', rest', hdr'⟩ := KidsL.drop_some (n := k) (ks := ks') (by rw [HLK.out]; exact hlt)
        rcases Rd.shape HKR.out with ⟨ad, he, h0⟩ | ⟨e1, off1, cc1, he, hmax⟩
        · exfalso; omega
        rcases Rd.shape HKR'.out with ⟨ad, he2, h0⟩ | ⟨e2, off2, cc2, he2, hmax2⟩
        · exfalso; omega
        injection he with g1 g2 g3
        injection he2 with g4 g5 g6
        subst g1 g3 g4 g6
        clear g2 g5
        have hfw := HFB.out.then1 HWK.out
        obtain ⟨ev0, kv0, p0, p1, p2, hta⟩ := kid_at (HKR.out.keep0 hfw) (HFOR.out.keep0 hfw) hdr
        obtain ⟨ev1, kv1, q0, q1, q2, htb⟩ := kid_at (HKR'.out.keep0 hfw) (HFOR'.out.keep0 hfw) hdr'
        clear hfw
        have hss := size_sub k hdr
        have hst1 := sizeT_sub k hdr
        have hst2 := sizeT_sub k hdr'
        have HC := Lib.hid (fun W (f : Frm NoS wr W) => IH.out es0 sub es0' sub' W ev0 kv0 ev1 kv1 (by have := HNN.out; omega) (hta.keep0 f) (htb.keep0 f) (by have := HSZ.out; unfold sizeT at *; omega) (by have := HSZ'.out; unfold sizeT at *; omega))
        have HST := Lib.hid (kids_step hdr hdr')
        obtain ⟨a0, c0, rfl⟩ := hta.ents.rd.sl
        obtain ⟨o3, hk3, -⟩ := hta.kids
        obtain ⟨a1, c1, rfl⟩ := hk3.rd.sl
        obtain ⟨a0', c0', rfl⟩ := htb.ents.rd.sl
        obtain ⟨o4, hk4, -⟩ := htb.kids
        obtain ⟨a1', c1', rfl⟩ := hk4.rd.sl
        clear hk3 hk4 hta htb hdr hdr' hss hst1 hst2
        generalize es0.length = n0 at *
        generalize sub.len = m0 at *
        generalize es0'.length = n1 at *
        generalize sub'.len = m1 at *
        obtain ⟨α, hne, K, hK1, hK0, hK2⟩ := worlds wr
        have kb := fun s => HBX.out (K s) (HWK.out.then1 (hK1 s))
        have k0 := fun s => (kb s).1
        have k1 := fun s => (kb s).2.1
        have k2 := fun s => (kb s).2.2.1
        have k3 := fun s => (kb s).2.2.2
        have r0 := fun s => (hK1 s).cell' p0 id
        have r1 := fun s => (hK1 s).cell' p1 id
        have r2 := fun s => (hK1 s).cell' p2 id
        have t0 := fun s => (hK1 s).cell' q0 id
        have t1 := fun s => (hK1 s).cell' q1 id
        have t2 := fun s => (hK1 s).cell' q2 id
        clear kb p0 p1 p2 q0 q1 q2
        have HFK := Lib.hid (fun s => HWK.out.then1 (hK1 s))
        have HK1 := Lib.hid hK1
        by_cases hkey : key = key'
        · by_cases hsub : es0 = es0' ∧ sub = sub'
          · rw [tf_true hsub] at HC
            have HY := Lib.hid (show key = key' ∧ es0 = es0' ∧ sub = sub' from ⟨hkey, hsub⟩)
            subst hkey
            clear hsub
            go_wp2_with fail
            refine wp_region_new K (by kernel_rfl) (by kernel_rfl) hK0 ?_
            repeat (go_big_quiet_step ((go_at_call 94; exact Calls.in_class hK2 (HC.out _ (HK1.out _)))))
            refine wpQuiet_nil ?_
            intro w' hw'
            obtain ⟨s, rfl⟩ := hw'
            go_wp2
            go_roundw
            case rel => exact ⟨k + 1, by omega, by go_num, HIF.out.trans (HST.out.trans ⟨fun h => h.2, fun h => ⟨⟨by trivial, HY.out.2⟩, h⟩⟩), HFK.out s⟩
            case measure => simp [intOf]; omega
          · rw [tf_false hsub] at HC
            have HY := Lib.hid (show ¬ (es = es' ∧ ks = ks') from fun h => hsub (HST.out.1 (HIF.out.1 h.2)).1.2)
            subst hkey
            clear hsub
            go_wp2_with fail
            refine wp_region_new K (by kernel_rfl) (by kernel_rfl) hK0 ?_
            repeat (go_big_quiet_step ((go_at_call 94; exact Calls.in_class hK2 (HC.out _ (HK1.out _)))))
            refine wpQuiet_nil ?_
            intro w' hw'
            obtain ⟨s, rfl⟩ := hw'
            go_wp2
            go_ret
            exact ⟨ret_bool (tf_false HY.out).symm, HFB.out.then1 (HFK.out s)⟩
        · have HY := Lib.hid (show ¬ (es = es' ∧ ks = ks') from fun h => hkey (HST.out.1 (HIF.out.1 h.2)).1.1)
          have gb := ne_text hkey
          have gc : (key.toList == key'.toList) = false := by simpa using gb
          go_wp2_with fail
          refine wp_region_new K (by kernel_rfl) (by kernel_rfl) hK0 ?_
          repeat (go_big_quiet_step ((go_at_call 94; exact Calls.in_class hK2 (HC.out _ (HK1.out _)))))
          refine wpQuiet_nil ?_
          intro w' hw'
          obtain ⟨s, rfl⟩ := hw'
          go_wp2
          go_ret
          exact ⟨ret_bool (tf_false HY.out).symm, HFB.out.then1 (HFK.out s)⟩
      · obtain rfl : m = k := by omega
        have hkk : ks = ks' := HIF.out.2 (by rw [KidsL.drop_none (by rw [HM.out]; exact Nat.le_refl _), KidsL.drop_none (by rw [HLK.out]; exact Nat.le_refl _)])
        have HKK := Lib.hid hkk; clear hkk
        go_wp2
        go_ret
        exact ⟨ret_bool (tf_true ⟨HEE.out, HKK.out⟩).symm, HFB.out.then1 HWK.out⟩
end Go.Proofs.YtcahemkomfaabaaGreat
/- tributaryref09: Same: the walk. -/
namespace Go.Proofs.YtcahemkomfaabaaGreat
open Go.RowKit
set_option maxHeartbeats 4000000 in
set_option maxRecDepth 1000000 in
theorem r9Same_any (Q Q' : Nat → Prop) (es : List Ent) (ks : KidsL) (c : CtxL) (es' : List Ent) (ks' : KidsL) (c' : CtxL) (w : World) (ev kv cv ev' kv' cv' : Value) (h : CauAt Q w ev kv cv es ks c) (hok : CauOk es ks c) (h' : CauAt Q' w ev' kv' cv' es' ks' c') (hok' : CauOk es' ks' c') :
 Calls Tryz.prog 39 #[.agg #[ev, kv, cv], .agg #[ev', kv', cv']] w fun e w' => e = .returned (.bool (tf ((es = es' ∧ ks = ks') ∧ c = c'))) ∧ Frm NoS w w' := by
 obtain ⟨a0, c0, a1, c1, a2, c2, rfl, rfl, rfl⟩ := h.shape
 obtain ⟨b0, d0, b1, d1, b2, d2, rfl, rfl, rfl⟩ := h'.shape
 have HT := Lib.hid (fun W (f : Frm NoS w W) => r8Same_any Q Q' _ es ks es' ks' W _ _ _ _ (Nat.lt_succ_self _) (h.tree.keep0 f) (h'.tree.keep0 f) (Nat.le_trans hok.small (by decide)) (Nat.le_trans hok'.small (by decide)))
 have hde : decide (c = c') = tf (c = c') := tf_bool (by rw [decide_eq_true_iff])
 have HC := Lib.hid (fun W (f : Frm NoS w W) => hde ▸ r7Same_any W _ _ c c' (Rd.keep0 h.ctx f) (Rd.keep0 h'.ctx f) (Nat.le_trans hok.len (by decide)) (Nat.le_trans hok'.len (by decide)))
 clear h hok h' hok' hde
 by_cases r3 : es = es' ∧ ks = ks'
 rotate_left 1
 · rw [tf_false r3] at HT
   rw [tf_false fun h => r3 h.1]
   clear r3 HC
   generalize es.length = n at *
   generalize ks.len = m at *
   generalize c.length = k at *
   generalize es'.length = n' at *
   generalize ks'.len = m' at *
   generalize c'.length = k' at *
   have HFB := Lib.hid ((Frm.alloc NoS w (.cells #[.slice a0 n c0, .slice a1 m c1, .slice a2 k c2] 32)).alloc1 (o := .cells #[.slice b0 n' d0, .slice b1 m' d1, .slice b2 k' d2] 32))
   have HBX := Lib.hid (pair3 w (.slice a0 n c0) (.slice a1 m c1) (.slice a2 k c2) (.slice b0 n' d0) (.slice b1 m' d1) (.slice b2 k' d2) 32)
   go_enter Tryz.func39, Tryz.ntmps39
   go_wp2_with (first
    | (go_at_call 94; refine (HT.out _ HFB.out).mono ?_; rintro e w1 ⟨rfl, hw1⟩; obtain ⟨y0, y1, y2, y3, y4, y5⟩ := HBX.out w1 hw1; have HW1 := Lib.hid hw1; clear hw1))
   go_ret
   exact ⟨rfl, HFB.out.then1 HW1.out⟩
 rw [tf_true r3] at HT
 have hall : tf ((es = es' ∧ ks = ks') ∧ c = c') = tf (c = c') := tf_congr ⟨fun h => h.2, fun h => ⟨r3, h⟩⟩
 rw [hall]
 clear hall r3
 generalize tf (c = c') = y at *
 generalize es.length = n at *
 generalize ks.len = m at *
 generalize c.length = k at *
 generalize es'.length = n' at *
 generalize ks'.len = m' at *
 generalize c'.length = k' at *
 have HFB := Lib.hid ((Frm.alloc NoS w (.cells #[.slice a0 n c0, .slice a1 m c1, .slice a2 k c2] 32)).alloc1 (o := .cells #[.slice b0 n' d0, .slice b1 m' d1, .slice b2 k' d2] 32))
 have HBX := Lib.hid (pair3 w (.slice a0 n c0) (.slice a1 m c1) (.slice a2 k c2) (.slice b0 n' d0) (.slice b1 m' d1) (.slice b2 k' d2) 32)
 go_enter Tryz.func39, Tryz.ntmps39
 go_wp2_with (first
  | (go_at_call 94; refine (HT.out _ HFB.out).mono ?_; rintro e w1 ⟨rfl, hw1⟩; obtain ⟨y0, y1, y2, y3, y4, y5⟩ := HBX.out w1 hw1; have HW1 := Lib.hid hw1; clear hw1)
  | (go_at_call 70; refine (HC.out _ (HFB.out.then1 HW1.out)).mono ?_; rintro e w2 ⟨rfl, hw2⟩; have HW2 := Lib.hid (HW1.out.then1 hw2); clear hw2))
 go_ret
 exact ⟨rfl, HFB.out.then1 HW2.out⟩
end Go.Proofs.YtcahemkomfaabaaGreat
