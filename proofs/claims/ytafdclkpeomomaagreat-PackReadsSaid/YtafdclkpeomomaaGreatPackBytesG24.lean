/- Words for the law PackBytes: R16c, Trod, TreeOpen, CauOpen, PackBytes. -/
import Derived.Test.YtafdclkpeomomaaGreatPackBytesG1
import Derived.Test.YtafdclkpeomomaaGreatPackBytesG5
import Derived.Test.YtafdclkpeomomaaGreatPackBytesG13
import Derived.Test.YtafdclkpeomomaaGreatPackBytesG14
import Derived.Test.YtafdclkpeomomaaGreatPackBytesG17
import Derived.Test.YtafdclkpeomomaaGreatPackBytesG18
import Derived.Test.YtafdclkpeomomaaGreatPackBytesG19
import Derived.Test.YtafdclkpeomomaaGreatPackBytesG22
import Derived.Test.YtafdclkpeomomaaGreatPackBytesG23
import Derived.Deep.Strs
import Derived.ChangeArms
import Derived.ProofKit
import Derived.OpenShut
import Derived.ChangeSame
import Derived.SizedLaws
set_option linter.unusedSimpArgs false
set_option linter.unusedVariables false
/- tributaryref16: Ctx, Tree, Causal: the walks. -/
namespace Go.Proofs.YtafdclkpeomomaaGreat
open Go.RowKit

/-- append of bytes that lie somewhere onto one's own, in a drawn region. -/
theorem stp_cp {ops : Array Oper} {o : Oper} {a : Act} {K : Act → World → Prop} {Q : Exit → Act → World → Prop} {E : Prop} (w0 W : World) (hgd : o.guard = none) (s x : Operand)
    (ho : o.op = .call { callee := .builtin .append, args := #[s, x], argTypes := #[32, 32] }) (v : Value) (bs : List UInt8) (hp : Copy w0 v bs W) (xv : Value) (cs : List UInt8)
    (hv : a.eval s = v) (hx : a.eval x = xv) (hc : Rd W xv cs.length (bV cs)) (hl : bs.length + cs.length ≤ 140737488355328)
    (h : ∀ ad c w' t, t = bs ++ cs → Copy w0 (.slice ad t.length c) t w' → Frm (RowS v) W w' → Fresh W v (.slice ad t.length c) → K (a.put o.dst (.slice ad t.length c)) w') :
    if Region.wanted o (yielded ops a.tmps) = true then Oper.wp Tryz.prog o a W K Q else E := by
  obtain ⟨i0, hi, hz0, hz1, hz2⟩ := info_parts Tryz.info_u8
  have hw : Region.wanted o (yielded ops a.tmps) = true := by simp [Region.wanted, hgd]
  rw [if_pos hw]
  obtain ⟨v', w', hr, h2, h3, h4, ⟨ad, c', rfl⟩, h6⟩ := run_app (P := Tryz.prog) W 32 32 o.type 5 i0 (.int .u8 0) 1 1 Tryz.underlying32 hi hz0 hz1 hz2 rfl (by decide) v _ _ hp.own _ _ _ (hc.src Tryz.underlying32 (by simp) (bV_oneCell _)) (by simp only [maxLen]; omega) (by omega)
  unfold Oper.wp execOp
  simp only [ho, resolve, invoke, builtin, Sem.run_bind, Sem.run_pure, Result.andThen_ok, List.map_toArray, List.map_cons, List.map_nil, hv, hx, hr]
  have hh := h ad c' w' (bs ++ cs) rfl
  rw [List.length_append] at hh
  refine hh ?_ h3 h4
  have h2' : w'.ownsRow 0 5 1 (.slice ad (bs.length + cs.length) c') (bs ++ cs).length (bV (bs ++ cs)) := by
    rw [bV_append, List.length_append]
    exact h2
  exact hp.app h2' rfl h3 h4
set_option maxHeartbeats 8000000 in
set_option maxRecDepth 1000000 in
theorem r16Ctx_any (w : World) (cv : Value) (c : CtxL) (hc : CtxAt w cv c) (hf : FitsC c) (hl : c.length ≤ 10000) :
    Calls Tryz.prog 58 #[cv] w (Ret w (ctxB c)) := by
  have HRT := Lib.hid (r7Right_any w cv c hc hf (by omega))
  have HC := Lib.hid hc; clear hc
  have HF := Lib.hid hf; clear hf
  obtain ⟨aA, cA, rfl⟩ := Rd.sl HC.out
  unfold ctxB
  by_cases hr : RightC c
  · rw [tf_true hr] at HRT ⊢
    clear hr
    have HE := Lib.hid (encSs_le HF.out)
    have HFIN := Lib.hid (show numB c.length ++ encSs (c.take c.length) = encC c by unfold encC; rw [List.take_length])
    have H00 := Lib.hid (show numB c.length ++ encSs (c.take 0) = numB c.length by simp [encSs])
    generalize hn : c.length = n at *
    have HN := Lib.hid hn; clear hn
    have HN10 := Lib.hid (numN_le (n := n) (by omega))
    rw [if_pos rfl]
    go_enter Tryz.func58, Tryz.ntmps58
    go_wp2_with (first
      | (go_at_call 32; refine HRT.out.mono ?_; rintro e w1 ⟨rfl, hw1⟩; have HF1 := Lib.hid hw1; clear hw1)
      | (go_at_call 107; refine (nums1 n _ w1 _ rfl ⟨by omega, by omega⟩).mono ?_; rintro e w2 ⟨a2, c2, t2, ht2, rfl, cp2⟩; have HT2 := Lib.hid ht2; clear ht2; have HP2 := Lib.hid (cp2.weaken HF1.out); clear cp2))
    go_loopw [3, 14] (fun o i ww => ∃ (k : Nat) (a : Option Addr) (cc : Nat) (t : List UInt8), k ≤ n ∧ i = .int .i64 k ∧ o = .slice a t.length cc ∧ t = numB n ++ encSs (c.take k) ∧ Copy w o t ww) (fun _ i _ => n - (intOf i).toNat)
    case atStart => exact ⟨0, a2, c2, t2, Nat.zero_le _, rfl, rfl, by rw [H00.out]; exact HT2.out, HP2.out⟩
    case round =>
      clear HP2 HT2 HF1
      obtain ⟨k, a0, c0, t0, hk, rfl, rfl, ht0, hp⟩ := hrel
      have HT0 := Lib.hid ht0; clear ht0
      by_cases hlt : k < n
      · have hlk : k < c.length := by rw [HN.out]; exact hlt
        rcases Rd.shape (show Rd w (.slice aA n cA) c.length (spC c) from HC.out) with ⟨ad, he, h0⟩ | ⟨b, off, cc, he, hmax⟩
        · exfalso; omega
        · injection he with e1 e2 e3
          subst e1 e3
          clear e2
          obtain ⟨p0, p1, p2⟩ := spn_at (c := cA) (l := c) HC.out HN.out.symm k hlk
          have hbw : b < w.heap.size := World.block_lt_of_cell? _ _ p0
          have q0 := hp.frm.cell' p0 id
          have q1 := hp.frm.cell' p1 id
          have q2 := hp.frm.cell' p2 id
          clear p0 p1 p2
          have HBW := Lib.hid hbw; clear hbw
          have hbf := HF.out _ (getD_mem (0, 0, 0) hlk)
          have HST := Lib.hid (encSs_snoc hlk)
          obtain ⟨s, hgd⟩ : ∃ s, s = c.getD k (0, 0, 0) := ⟨_, rfl⟩
          rw [← hgd] at HST q0 q1 q2 hbf
          clear hgd
          have hbl : t0.length ≤ 10 + 30 * k := by
            have h1 := HE.out k
            have h2 := HN10.out
            have h3 := congrArg List.length HT0.out
            rw [List.length_append] at h3
            omega
          have hb1 := numB_le10 hbf.1 hbf.2.1
          have hb2 := numB_le10 hbf.2.2.1 hbf.2.2.2.1
          have hb3 := numB_le10 hbf.2.2.2.2.1 hbf.2.2.2.2.2
          have HB := Lib.hid (show t0.length + (numB s.1 ++ (numB s.2.1 ++ numB s.2.2)).length ≤ 1000000 by simp only [List.length_append]; omega)
          clear hbl hb1 hb2 hb3
          have HBF := Lib.hid hbf; clear hbf
          have HP := Lib.hid (hp.step (Frm.drew NoS wr)); clear hp
          have hmx : k < n := hlt
          go_wp2_with fail
          refine wp_region_G (S := fun w' => w'.cell? ⟨b, off + k * 3, none⟩ = some (.int .i64 s.1) ∧ w'.cell? ⟨b, off + k * 3 + 1, none⟩ = some (.int .i64 s.2.1) ∧ w'.cell? ⟨b, off + k * 3 + 2, none⟩ = some (.int .i64 s.2.2)) 19 (by kernel_rfl) ⟨q0, q1, q2⟩ ?_
          clear q0 q1 q2
          intro hS
          generalize wr.drew = Y0 at *
          refine take_opG 0 17 (v := ?_) rfl rfl (by kernel_rfl) (by kernel_rfl) (by decide) (by kernel_rfl) (by kernel_rfl) (fun _ _ _ h => h) (Or.inl ⟨by rfl, ?_⟩) (by assumption) ?_
          rotate_left 1
          · (intro w hSw; (try dsimp only at hSw); go_simp; (try with_reducible rfl))
          try simp only [Act.put, List.setIfInBounds_toArray, List.set_cons_zero, List.set_cons_succ]
          refine take_opG 1 18 (v := ?_) rfl rfl (by kernel_rfl) (by kernel_rfl) (by decide) (by kernel_rfl) (by kernel_rfl) (fun _ _ _ h => h) (Or.inl ⟨by rfl, ?_⟩) (by assumption) ?_
          rotate_left 1
          · (intro w hSw; (try dsimp only at hSw); go_simp; (try with_reducible rfl))
          try simp only [Act.put, List.setIfInBounds_toArray, List.set_cons_zero, List.set_cons_succ]
          refine take_opG 2 19 (v := ?_) rfl rfl (by kernel_rfl) (by kernel_rfl) (by decide) (by kernel_rfl) (by kernel_rfl) (fun _ _ _ h => h) (Or.inl ⟨by rfl, ?_⟩) (by assumption) ?_
          rotate_left 1
          · (intro w hSw; (try dsimp only at hSw); go_simp; (try with_reducible rfl))
          try simp only [Act.put, List.setIfInBounds_toArray, List.set_cons_zero, List.set_cons_succ]
          refine take_opG 3 20 (v := ?_) rfl rfl (by kernel_rfl) (by kernel_rfl) (by decide) (by kernel_rfl) (by kernel_rfl) (fun _ _ _ h => h) (Or.inl ⟨by rfl, ?_⟩) (by assumption) ?_
          rotate_left 1
          · (intro w hSw; (try dsimp only at hSw); go_simp; (try with_reducible rfl))
          try simp only [Act.put, List.setIfInBounds_toArray, List.set_cons_zero, List.set_cons_succ]
          refine take_opG 4 21 (v := ?_) rfl rfl (by kernel_rfl) (by kernel_rfl) (by decide) (by kernel_rfl) (by kernel_rfl) (fun _ _ _ h => h) (Or.inl ⟨by rfl, ?_⟩) (by assumption) ?_
          rotate_left 1
          · (intro w hSw; (try dsimp only at hSw); go_simp; (try with_reducible rfl))
          try simp only [Act.put, List.setIfInBounds_toArray, List.set_cons_zero, List.set_cons_succ]
          refine take_opG 5 22 (v := ?_) rfl rfl (by kernel_rfl) (by kernel_rfl) (by decide) (by kernel_rfl) (by kernel_rfl) (fun _ _ _ h => h) (Or.inl ⟨by rfl, ?_⟩) (by assumption) ?_
          rotate_left 1
          · (intro w hSw; (try dsimp only at hSw); go_simp; (try with_reducible rfl))
          try simp only [Act.put, List.setIfInBounds_toArray, List.set_cons_zero, List.set_cons_succ]
          refine take_opG 6 23 (v := ?_) rfl rfl (by kernel_rfl) (by kernel_rfl) (by decide) (by kernel_rfl) (by kernel_rfl) (fun _ _ _ h => h) (Or.inl ⟨by rfl, ?_⟩) (by assumption) ?_
          rotate_left 1
          · (intro w hSw; (try dsimp only at hSw); go_simp; (try with_reducible rfl))
          try simp only [Act.put, List.setIfInBounds_toArray, List.set_cons_zero, List.set_cons_succ]
          refine take_opG 7 24 (v := ?_) rfl rfl (by kernel_rfl) (by kernel_rfl) (by decide) (by kernel_rfl) (by kernel_rfl) (fun _ _ _ h => h) (Or.inl ⟨by rfl, ?_⟩) (by assumption) ?_
          rotate_left 1
          · (intro w hSw; (try dsimp only at hSw); go_simp; (try with_reducible rfl))
          try simp only [Act.put, List.setIfInBounds_toArray, List.set_cons_zero, List.set_cons_succ]
          refine take_opG 8 25 (v := ?_) rfl rfl (by kernel_rfl) (by kernel_rfl) (by decide) (by kernel_rfl) (by kernel_rfl) (fun _ _ _ h => h) (Or.inl ⟨by rfl, ?_⟩) (by assumption) ?_
          rotate_left 1
          · (intro w hSw; (try dsimp only at hSw); go_simp; (try with_reducible rfl))
          try simp only [Act.put, List.setIfInBounds_toArray, List.set_cons_zero, List.set_cons_succ]
          refine take_opG 9 26 (v := ?_) rfl rfl (by kernel_rfl) (by kernel_rfl) (by decide) (by kernel_rfl) (by kernel_rfl) (fun _ _ _ h => h) (Or.inl ⟨by rfl, ?_⟩) (by assumption) ?_
          rotate_left 1
          · (intro w hSw; (try dsimp only at hSw); go_simp; (try with_reducible rfl))
          try simp only [Act.put, List.setIfInBounds_toArray, List.set_cons_zero, List.set_cons_succ]
          refine take_opG 10 27 (v := ?_) rfl rfl (by kernel_rfl) (by kernel_rfl) (by decide) (by kernel_rfl) (by kernel_rfl) (fun _ _ _ h => h) (Or.inl ⟨by rfl, ?_⟩) (by assumption) ?_
          rotate_left 1
          · (intro w hSw; (try dsimp only at hSw); go_simp; (try with_reducible rfl))
          try simp only [Act.put, List.setIfInBounds_toArray, List.set_cons_zero, List.set_cons_succ]
          refine take_opG 11 28 (v := ?_) rfl rfl (by kernel_rfl) (by kernel_rfl) (by decide) (by kernel_rfl) (by kernel_rfl) (fun _ _ _ h => h) (Or.inl ⟨by rfl, ?_⟩) (by assumption) ?_
          rotate_left 1
          · (intro w hSw; (try dsimp only at hSw); go_simp; (try with_reducible rfl))
          try simp only [Act.put, List.setIfInBounds_toArray, List.set_cons_zero, List.set_cons_succ]
          refine take_opG 12 29 (v := ?_) rfl rfl (by kernel_rfl) (by kernel_rfl) (by decide) (by kernel_rfl) (by kernel_rfl) (fun _ _ _ h => h) (Or.inl ⟨by rfl, ?_⟩) (by assumption) ?_
          rotate_left 1
          · (intro w hSw; (try dsimp only at hSw); go_simp; (try with_reducible rfl))
          try simp only [Act.put, List.setIfInBounds_toArray, List.set_cons_zero, List.set_cons_succ]
          refine take_opG 13 30 (v := ?_) rfl rfl (by kernel_rfl) (by kernel_rfl) (by decide) (by kernel_rfl) (by kernel_rfl) (fun _ _ _ h => h) (Or.inl ⟨by rfl, ?_⟩) (by assumption) ?_
          rotate_left 1
          · (intro w hSw; (try dsimp only at hSw); go_simp; (try with_reducible rfl))
          try simp only [Act.put, List.setIfInBounds_toArray, List.set_cons_zero, List.set_cons_succ]
          refine take_opG 14 31 (v := ?_) rfl rfl (by kernel_rfl) (by kernel_rfl) (by decide) (by kernel_rfl) (by kernel_rfl) (fun _ _ _ h => h) (Or.inl ⟨by rfl, ?_⟩) (by assumption) ?_
          rotate_left 1
          · (intro w hSw; (try dsimp only at hSw); go_simp; (try with_reducible rfl))
          try simp only [Act.put, List.setIfInBounds_toArray, List.set_cons_zero, List.set_cons_succ]
          refine take_opG 15 32 (v := ?_) rfl rfl (by kernel_rfl) (by kernel_rfl) (by decide) (by kernel_rfl) (by kernel_rfl) (fun _ _ _ h => h) (Or.inl ⟨by rfl, ?_⟩) (by assumption) ?_
          rotate_left 1
          · (intro w hSw; (try dsimp only at hSw); go_simp; (try with_reducible rfl))
          try simp only [Act.put, List.setIfInBounds_toArray, List.set_cons_zero, List.set_cons_succ]
          refine one_opG (i := 16) (by kernel_rfl) rfl (fun K hK => ?_)
          go_simp
          have hS1 : (Y0.alloc (.cells #[.int .i64 s.1, .int .i64 s.2.1, .int .i64 s.2.2] 2)).cell? ⟨b, off + k * 3, none⟩ = some (.int .i64 s.1) ∧ (Y0.alloc (.cells #[.int .i64 s.1, .int .i64 s.2.1, .int .i64 s.2.2] 2)).cell? ⟨b, off + k * 3 + 1, none⟩ = some (.int .i64 s.2.1) ∧ (Y0.alloc (.cells #[.int .i64 s.1, .int .i64 s.2.1, .int .i64 s.2.2] 2)).cell? ⟨b, off + k * 3 + 2, none⟩ = some (.int .i64 s.2.2) := ⟨(Frm.alloc NoS Y0 _).cell' hS.1 id, (Frm.alloc NoS Y0 _).cell' hS.2.1 id, (Frm.alloc NoS Y0 _).cell' hS.2.2 id⟩
          refine hK.out _ _ hS1 ?_
          clear hK K
          try simp only [Act.put, List.setIfInBounds_toArray, List.set_cons_zero, List.set_cons_succ]
          refine one_opG (i := 17) (by kernel_rfl) rfl (fun K hK => ?_)
          go_simp
          refine (nums3 s.1 s.2.1 s.2.2 _ Y0 _ rfl ⟨HBF.out.1, HBF.out.2.1⟩ ⟨HBF.out.2.2.1, HBF.out.2.2.2.1⟩ HBF.out.2.2.2.2).mono ?_
          rintro e1 Y1 ⟨a1, c1, t1, ht1, rfl, cp1⟩
          have hS2 : Y1.cell? ⟨b, off + k * 3, none⟩ = some (.int .i64 s.1) ∧ Y1.cell? ⟨b, off + k * 3 + 1, none⟩ = some (.int .i64 s.2.1) ∧ Y1.cell? ⟨b, off + k * 3 + 2, none⟩ = some (.int .i64 s.2.2) := ⟨cp1.frm.cell' hS.1 id, cp1.frm.cell' hS.2.1 id, cp1.frm.cell' hS.2.2 id⟩
          refine hK.out _ _ hS2 ?_
          clear hK K hS1 hS
          have HT1 := Lib.hid ht1; clear ht1
          have HP1 := Lib.hid (HP.out.step cp1.frm)
          have HC1 := Lib.hid cp1; clear cp1
          try simp only [Act.put, List.setIfInBounds_toArray, List.set_cons_zero, List.set_cons_succ]
          refine one_opG (i := 18) (by kernel_rfl) rfl (fun K hK => ?_)
          refine stp_cp w Y1 rfl (.tmp 17) (.tmp 34) rfl (.slice a0 t0.length c0) t0 HP1.out (.slice a1 t1.length c1) t1 (by simp [Act.eval]) (by simp [Act.eval]) HC1.out.rd (by have h1 := HB.out; have h2 := congrArg List.length HT1.out; omega) ?_
          intro ad cd Y2 t3 ht3 cp3 f3 r3
          have hn : ¬ RowS (.slice a0 t0.length c0) b := fun h => absurd HBW.out (Nat.not_lt.2 (HP1.out.new _ h))
          have hS3 : Y2.cell? ⟨b, off + k * 3, none⟩ = some (.int .i64 s.1) ∧ Y2.cell? ⟨b, off + k * 3 + 1, none⟩ = some (.int .i64 s.2.1) ∧ Y2.cell? ⟨b, off + k * 3 + 2, none⟩ = some (.int .i64 s.2.2) := ⟨f3.cell' hS2.1 hn, f3.cell' hS2.2.1 hn, f3.cell' hS2.2.2 hn⟩
          refine hK.out _ _ hS3 ?_
          clear hK K hS2 hS3 hn
          have HT3 := Lib.hid ht3; clear ht3
          have HP3 := Lib.hid cp3; clear cp3 f3 r3
          try simp only [Act.put, List.setIfInBounds_toArray, List.set_cons_zero, List.set_cons_succ]
          refine last_opG (by kernel_rfl) (by kernel_rfl) rfl (fun K hK => ?_)
          go_simp
          refine hK.out _ _ ?_
          clear hK K
          go_wp2
          go_roundw
          case rel => exact ⟨k + 1, ad, cd, t3, by omega, by go_num, rfl, by rw [HST.out, HT3.out, HT0.out, HT1.out]; unfold encS; simp only [List.append_assoc], HP3.out⟩
          case measure => simp [intOf]; omega
      · obtain rfl : n = k := by omega
        have HP0 := Lib.hid hp; clear hp
        go_wp2
        go_ret
        exact ⟨a0, c0, t0, by rw [HT0.out, HFIN.out], rfl, HP0.out⟩
  · rw [tf_false hr] at HRT ⊢
    clear hr
    rw [if_neg (by decide), encC_nil]
    go_enter Tryz.func58, Tryz.ntmps58
    go_wp2_with (first
      | (go_at_call 32; refine HRT.out.mono ?_; rintro e w1 ⟨rfl, hw1⟩; have HF1 := Lib.hid hw1; clear hw1)
      | (go_at_call 107; refine (nums1 0 _ w1 _ rfl ⟨by omega, by omega⟩).mono ?_; rintro e w2 ⟨a2, c2, t2, ht2, rfl, cp2⟩; have HT2 := Lib.hid ht2; clear ht2; have HP2 := Lib.hid (cp2.weaken HF1.out); clear cp2))
    go_loopw [3, 14] (fun o i ww => i = .int .i64 0 ∧ o = .slice a2 t2.length c2 ∧ ww = w2) (fun _ _ _ => 0)
    case atStart => exact ⟨rfl, rfl, rfl⟩
    case round =>
      obtain ⟨rfl, rfl, rfl⟩ := hrel
      go_wp2
      go_ret
      exact ⟨a2, c2, t2, HT2.out, rfl, HP2.out⟩
set_option maxRecDepth 100000 in
theorem r16Tree_any (Q : Nat → Prop) (es : List Ent) (ks : KidsL) (w : World) (ev kv : Value) (ht : TreeAt Q w ev kv es ks) (hok : TrOk es ks) (hsz : sizeT es ks ≤ 4000) :
    Calls Tryz.prog 57 #[.agg #[ev, kv]] w (Ret w (treeB es ks)) := by
  obtain ⟨ae, ce, rfl⟩ := ht.ents.rd.sl
  obtain ⟨os, hkr, hfor⟩ := ht.kids
  obtain ⟨ak, ck, rfl⟩ := hkr.rd.sl
  clear hkr hfor
  have HRT := Lib.hid (fun W (f : Frm NoS w W) => r8Right_any Q es ks W _ _ (ht.keep0 f) hok)
  unfold treeB
  cases hr : rightT 5 es ks with
  | true =>
    rw [hr] at HRT
    have hle := encT_le hr (by omega)
    have HPL := Lib.hid (fun W (f : Frm NoS w W) => r16plain_any _ Q es ks W _ _ (Nat.lt_succ_self _) (ht.keep0 f) hok (by omega))
    clear ht hok hr hle
    rw [if_pos rfl]
    generalize encT es ks = X at *
    generalize es.length = n at *
    generalize ks.len = m at *
    go_enter Tryz.func57, Tryz.ntmps57
    go_wp2_with (first
      | (go_at_call 54; refine (HRT.out _ (Frm.alloc _ _ _)).mono ?_; rintro e w1 ⟨rfl, hw1⟩; obtain ⟨y0, y1⟩ := box2 w _ _ _ w1 hw1; have HF1 := Lib.hid ((Frm.alloc NoS _ _).then1 hw1); clear hw1)
      | (go_at_call 106; refine (HPL.out _ HF1.out).mono ?_; rintro e w2 ⟨a2, c2, t2, ht2, rfl, cp2⟩; have HT2 := Lib.hid ht2; clear ht2; have HP2 := Lib.hid (cp2.weaken HF1.out); clear cp2))
    go_ret
    exact ⟨a2, c2, t2, HT2.out, rfl, HP2.out⟩
  | false =>
    rw [hr] at HRT
    have HPL := Lib.hid (fun W => r16plain_any 1 (fun b => W.heap.size ≤ b) [] .nil W _ _ (by decide) (tree_nil W) trOk_nil (by have := encT_le (es := []) (ks := .nil) (by decide) (by decide); have h0 : sizeT [] .nil = 0 := rfl; omega))
    clear ht hok hr
    rw [if_neg (by decide)]
    generalize encT [] .nil = X at *
    generalize es.length = n at *
    generalize ks.len = m at *
    go_enter Tryz.func57, Tryz.ntmps57
    go_wp2_with (first
      | (go_at_call 54; refine (HRT.out _ (Frm.alloc _ _ _)).mono ?_; rintro e w1 ⟨rfl, hw1⟩; have HF1 := Lib.hid ((Frm.alloc NoS _ _).then1 hw1); clear hw1)
      | (go_at_call 106; refine (HPL.out _).mono ?_; rintro e w2 ⟨a2, c2, t2, ht2, rfl, cp2⟩; have HT2 := Lib.hid ht2; clear ht2; have HP2 := Lib.hid (cp2.weaken HF1.out); clear cp2))
    go_ret
    exact ⟨a2, c2, t2, HT2.out, rfl, HP2.out⟩
theorem ctxB_le {c : CtxL} (hl : c.length ≤ 2000) : (ctxB c).length ≤ 60010 := by
  unfold ctxB
  by_cases hr : RightC c
  · rw [tf_true hr, if_pos rfl]
    have := encC_le hr (by omega)
    omega
  · rw [tf_false hr, if_neg (by decide)]
    have := encC_le right_nilC (by simp)
    simp only [List.length_nil] at this
    omega
set_option maxHeartbeats 8000000 in
set_option maxRecDepth 1000000 in
theorem r16Causal_any (Q : Nat → Prop) (es : List Ent) (ks : KidsL) (c : CtxL) (w : World) (ev kv cv : Value) (h : CauAt Q w ev kv cv es ks c) (hok : CauOk es ks c) :
    Calls Tryz.prog 15 #[.agg #[ev, kv, cv]] w (Ret w (cauB es ks c)) := by
  have HR := Lib.hid (fun W (f : Frm NoS w W) => r9Right_any Q es ks c W _ _ _ (h.keep0 f) hok)
  obtain ⟨a0, c0, b1, d1, b2, d2, rfl, rfl, rfl⟩ := h.shape
  by_cases hr : CauRight es ks c
  · rw [tf_true hr] at HR
    have HFIN := Lib.hid (show treeB es ks ++ ctxB c = cauB es ks c by
      unfold cauB treeB ctxB
      rw [tf_true hr, hr.tree, tf_true hr.ctx]
      rfl)
    have HL1 := Lib.hid (treeB_le (es := es) (ks := ks) (Nat.le_trans hok.small (by decide)))
    have HL2 := Lib.hid (ctxB_le hok.len)
    have HTR0 := Lib.hid (fun W (f : Frm NoS w W) => r16Tree_any Q es ks W _ _ (h.keep0 f).tree hok.tree (Nat.le_trans hok.small (by decide)))
    have HCX0 := Lib.hid (fun W (f : Frm NoS w W) => r16Ctx_any W _ c (h.keep0 f).ctx hok.fits (by have := hok.len; omega))
    clear h hok hr
    generalize treeB es ks = X1 at *
    generalize ctxB c = X2 at *
    generalize cauB es ks c = X at *
    generalize es.length = n at *
    generalize ks.len = m at *
    generalize c.length = k at *
    go_enter Tryz.func15, Tryz.ntmps15
    go_wp2_with (go_at_call 14; refine (HR.out _ (Frm.alloc _ _ _)).mono ?_; rintro e w1 ⟨rfl, hw1⟩; obtain ⟨x0, x1, x2⟩ := box3 w _ _ _ _ w1 hw1; have HF1 := Lib.hid ((Frm.alloc NoS _ _).then1 hw1); clear hw1)
    · have HYB := Lib.hid (HF1.out.then1 (Frm.drew NoS w1))
      have hnb : w.heap.size < w1.drew.heap.size := World.block_lt_of_cell? _ _ x0
      have HNB := Lib.hid hnb; clear hnb
      have y0 : w1.drew.cell? ⟨w.heap.size, 0, none⟩ = some (.slice a0 n c0) := x0
      have y1 : w1.drew.cell? ⟨w.heap.size, 1, none⟩ = some (.slice b1 m d1) := x1
      have y2 : w1.drew.cell? ⟨w.heap.size, 2, none⟩ = some (.slice b2 k d2) := x2
      clear x0 x1 x2
      refine wp_region_G (S := fun w' => Frm NoS w1.drew w' ∧ w'.cell? ⟨w.heap.size, 0, none⟩ = some (.slice a0 n c0) ∧ w'.cell? ⟨w.heap.size, 1, none⟩ = some (.slice b1 m d1) ∧ w'.cell? ⟨w.heap.size, 2, none⟩ = some (.slice b2 k d2)) 7 (by kernel_rfl) ⟨Frm.refl _ _, y0, y1, y2⟩ ?_
      intro hS
      clear y0 y1 y2
      generalize w1.drew = YB at *
      have HTR := Lib.hid (fun W (f : Frm NoS YB W) => HTR0.out W (HYB.out.then1 f))
      have HCX := Lib.hid (fun W (f : Frm NoS YB W) => HCX0.out W (HYB.out.then1 f))
      clear HTR0 HCX0
      refine take_opG 0 7 (v := ?_) rfl rfl (by kernel_rfl) (by kernel_rfl) (by decide) (by kernel_rfl) (by kernel_rfl) (fun _ _ _ h => h) (Or.inl ⟨by rfl, ?_⟩) (by assumption) ?_
      rotate_left 1
      · (intro w hSw; (try dsimp only at hSw); go_simp; (try with_reducible rfl))
      try simp only [Act.put, List.setIfInBounds_toArray, List.set_cons_zero, List.set_cons_succ]
      refine take_opG 1 8 (v := ?_) rfl rfl (by kernel_rfl) (by kernel_rfl) (by decide) (by kernel_rfl) (by kernel_rfl) (fun _ _ _ h => h) (Or.inl ⟨by rfl, ?_⟩) (by assumption) ?_
      rotate_left 1
      · (intro w hSw; (try dsimp only at hSw); go_simp; (try with_reducible rfl))
      try simp only [Act.put, List.setIfInBounds_toArray, List.set_cons_zero, List.set_cons_succ]
      refine take_opG 3 10 (v := ?_) rfl rfl (by kernel_rfl) (by kernel_rfl) (by decide) (by kernel_rfl) (by kernel_rfl) (fun _ _ _ h => h) (Or.inl ⟨by rfl, ?_⟩) (by assumption) ?_
      rotate_left 1
      · (intro w hSw; (try dsimp only at hSw); go_simp; (try with_reducible rfl))
      try simp only [Act.put, List.setIfInBounds_toArray, List.set_cons_zero, List.set_cons_succ]
      refine take_opG 4 11 (v := ?_) rfl rfl (by kernel_rfl) (by kernel_rfl) (by decide) (by kernel_rfl) (by kernel_rfl) (fun _ _ _ h => h) (Or.inl ⟨by rfl, ?_⟩) (by assumption) ?_
      rotate_left 1
      · (intro w hSw; (try dsimp only at hSw); go_simp; (try with_reducible rfl))
      try simp only [Act.put, List.setIfInBounds_toArray, List.set_cons_zero, List.set_cons_succ]
      refine one_opG (i := 2) (by kernel_rfl) rfl (fun K hK => ?_)
      go_simp
      refine (HTR.out _ hS.1).mono ?_
      rintro e1 YT ⟨a1, c1, t1, ht1, rfl, cp1⟩
      have hS' : Frm NoS YB YT ∧ YT.cell? ⟨w.heap.size, 0, none⟩ = some (.slice a0 n c0) ∧ YT.cell? ⟨w.heap.size, 1, none⟩ = some (.slice b1 m d1) ∧ YT.cell? ⟨w.heap.size, 2, none⟩ = some (.slice b2 k d2) := ⟨hS.1.then1 cp1.frm, cp1.frm.cell' hS.2.1 id, cp1.frm.cell' hS.2.2.1 id, cp1.frm.cell' hS.2.2.2 id⟩
      refine hK.out _ _ hS' ?_
      have HT1 := Lib.hid ht1; clear ht1
      have HX1 := Lib.hid cp1.frm
      have HP1 := Lib.hid (cp1.weaken hS.1); clear cp1
      clear hK K hS
      have hS := hS'
      clear hS'
      try simp only [Act.put, List.setIfInBounds_toArray, List.set_cons_zero, List.set_cons_succ]
      refine one_opG (i := 5) (by kernel_rfl) rfl (fun K hK => ?_)
      go_simp
      refine (HCX.out _ hS.1).mono ?_
      rintro e1 YC ⟨a2, c2, t2, ht2, rfl, cp2⟩
      have hS' : Frm NoS YB YC ∧ YC.cell? ⟨w.heap.size, 0, none⟩ = some (.slice a0 n c0) ∧ YC.cell? ⟨w.heap.size, 1, none⟩ = some (.slice b1 m d1) ∧ YC.cell? ⟨w.heap.size, 2, none⟩ = some (.slice b2 k d2) := ⟨hS.1.then1 cp2.frm, cp2.frm.cell' hS.2.1 id, cp2.frm.cell' hS.2.2.1 id, cp2.frm.cell' hS.2.2.2 id⟩
      refine hK.out _ _ hS' ?_
      have HT2 := Lib.hid ht2; clear ht2
      have HX2 := Lib.hid cp2.frm
      have HP2 := Lib.hid (cp2.weaken hS.1); clear cp2
      clear hK K hS
      have hS := hS'
      clear hS'
      try simp only [Act.put, List.setIfInBounds_toArray, List.set_cons_zero, List.set_cons_succ]
      refine one_opG (i := 6) (by kernel_rfl) rfl (fun K hK => ?_)
      refine stp_cp YB _ rfl (.tmp 9) (.tmp 12) rfl (.slice a1 t1.length c1) t1 (by first | exact HP1.out | exact HP1.out.step HX2.out) (.slice a2 t2.length c2) t2 (by simp [Act.eval]) (by simp [Act.eval]) (by first | exact HP2.out.rd | exact (HP2.out.step HX1.out).rd) (by have h1 := congrArg List.length HT1.out; have h2 := congrArg List.length HT2.out; have := HL1.out; have := HL2.out; omega) ?_
      intro ad cd Y3 t3 ht3 cp3 f3 r3
      have hnw : ∀ b, RowS (.slice a1 t1.length c1) b → b < YB.heap.size → False := fun b h hb => absurd hb (Nat.not_lt.2 (HP1.out.new b h))
      have hn : ¬ RowS (.slice a1 t1.length c1) w.heap.size := fun h => hnw _ h HNB.out
      refine hK.out _ _ ⟨hS.1.trans f3 fun j hj hs => hnw j hs hj, f3.cell' hS.2.1 hn, f3.cell' hS.2.2.1 hn, f3.cell' hS.2.2.2 hn⟩ ?_
      clear hK K hS hn hnw
      have HT3 := Lib.hid ht3; clear ht3
      have HP3 := Lib.hid cp3; clear cp3 f3 r3
      try simp only [Act.put, List.setIfInBounds_toArray, List.set_cons_zero, List.set_cons_succ]
      refine last_opG (by kernel_rfl) (by kernel_rfl) rfl (fun K hK => ?_)
      go_simp
      refine hK.out _ _ ?_
      clear hK K
      go_wp2
      go_ret
      exact ⟨ad, cd, t3, by rw [HT3.out, HT1.out, HT2.out, HFIN.out], rfl, HP3.out.weaken HYB.out⟩
  · rw [tf_false hr] at HR
    have e1 : rightT 5 [] .nil = true := by decide
    have HFIN := Lib.hid (show treeB [] .nil ++ ctxB [] = cauB es ks c by
      unfold cauB treeB ctxB
      rw [tf_false hr, e1, tf_true right_nilC]
      rfl)
    have HL1 := Lib.hid (treeB_le (es := []) (ks := .nil) (by decide))
    have HL2 := Lib.hid (ctxB_le (c := []) (by simp))
    have HTR0 := Lib.hid (fun W => r16Tree_any _ [] .nil W _ _ (tree_nil W) trOk_nil (by decide))
    have HCX0 := Lib.hid (fun W => r16Ctx_any W (.slice none 0 0) [] (.inl ⟨none, rfl, rfl, rfl⟩) (fun s hs => by cases hs) (by simp))
    clear h hok hr e1
    generalize treeB [] .nil = X1 at *
    generalize ctxB [] = X2 at *
    generalize cauB es ks c = X at *
    generalize es.length = n at *
    generalize ks.len = m at *
    generalize c.length = k at *
    have HBX := Lib.hid (heap_alloc_new w (.cells #[.slice a0 n c0, .slice b1 m d1, .slice b2 k d2] 29))
    go_enter Tryz.func15, Tryz.ntmps15
    go_wp2_with (go_at_call 14; refine (HR.out _ (Frm.alloc _ _ _)).mono ?_; rintro e w1 ⟨rfl, hw1⟩; have hb1 := hw1.blk HBX.out id; have f0 := free_at' hb1 0; have f1 := free_at' hb1 1; have f2 := free_at' hb1 2; have hlb := lt_of_block hb1; have x0 := cell_at' hb1 0 rfl; have x1 := cell_at' hb1 1 rfl; have x2 := cell_at' hb1 2 rfl; have HR3 := Lib.hid (res3 hb1 ((Frm.alloc NoS w _).then1 hw1) (Nat.le_refl _) (.slice none 0 0) (.slice none 0 0) (.slice none 0 0)); clear hw1 hb1)
    · clear x0 x1 x2 f0 f1 f2 hlb
      generalize ((w1.setCell ⟨w.heap.size, 0, none⟩ (.slice none 0 0)).setCell ⟨w.heap.size, 1, none⟩ (.slice none 0 0)).setCell ⟨w.heap.size, 2, none⟩ (.slice none 0 0) = W1 at *
      have HYB := Lib.hid (HR3.out.2.1.then1 (Frm.drew NoS _))
      have y0 := cell_at' ((Frm.drew NoS _).blk HR3.out.1 id) 0 rfl
      have y1 := cell_at' ((Frm.drew NoS _).blk HR3.out.1 id) 1 rfl
      have y2 := cell_at' ((Frm.drew NoS _).blk HR3.out.1 id) 2 rfl
      have hnb := World.block_lt_of_cell? _ _ y0
      have HNB := Lib.hid hnb; clear hnb HR3
      refine wp_region_G (S := fun w' => Frm NoS W1.drew w' ∧ w'.cell? ⟨w.heap.size, 0, none⟩ = some (.slice none 0 0) ∧ w'.cell? ⟨w.heap.size, 1, none⟩ = some (.slice none 0 0) ∧ w'.cell? ⟨w.heap.size, 2, none⟩ = some (.slice none 0 0)) 7 (by kernel_rfl) ⟨Frm.refl _ _, y0, y1, y2⟩ ?_
      intro hS
      clear y0 y1 y2
      generalize W1.drew = YB at *
      have HTR := Lib.hid (fun W (f : Frm NoS YB W) => HTR0.out W)
      have HCX := Lib.hid (fun W (f : Frm NoS YB W) => HCX0.out W)
      clear HTR0 HCX0
      refine take_opG 0 7 (v := ?_) rfl rfl (by kernel_rfl) (by kernel_rfl) (by decide) (by kernel_rfl) (by kernel_rfl) (fun _ _ _ h => h) (Or.inl ⟨by rfl, ?_⟩) (by assumption) ?_
      rotate_left 1
      · (intro w hSw; (try dsimp only at hSw); go_simp; (try with_reducible rfl))
      try simp only [Act.put, List.setIfInBounds_toArray, List.set_cons_zero, List.set_cons_succ]
      refine take_opG 1 8 (v := ?_) rfl rfl (by kernel_rfl) (by kernel_rfl) (by decide) (by kernel_rfl) (by kernel_rfl) (fun _ _ _ h => h) (Or.inl ⟨by rfl, ?_⟩) (by assumption) ?_
      rotate_left 1
      · (intro w hSw; (try dsimp only at hSw); go_simp; (try with_reducible rfl))
      try simp only [Act.put, List.setIfInBounds_toArray, List.set_cons_zero, List.set_cons_succ]
      refine take_opG 3 10 (v := ?_) rfl rfl (by kernel_rfl) (by kernel_rfl) (by decide) (by kernel_rfl) (by kernel_rfl) (fun _ _ _ h => h) (Or.inl ⟨by rfl, ?_⟩) (by assumption) ?_
      rotate_left 1
      · (intro w hSw; (try dsimp only at hSw); go_simp; (try with_reducible rfl))
      try simp only [Act.put, List.setIfInBounds_toArray, List.set_cons_zero, List.set_cons_succ]
      refine take_opG 4 11 (v := ?_) rfl rfl (by kernel_rfl) (by kernel_rfl) (by decide) (by kernel_rfl) (by kernel_rfl) (fun _ _ _ h => h) (Or.inl ⟨by rfl, ?_⟩) (by assumption) ?_
      rotate_left 1
      · (intro w hSw; (try dsimp only at hSw); go_simp; (try with_reducible rfl))
      try simp only [Act.put, List.setIfInBounds_toArray, List.set_cons_zero, List.set_cons_succ]
      refine one_opG (i := 2) (by kernel_rfl) rfl (fun K hK => ?_)
      go_simp
      refine (HTR.out _ hS.1).mono ?_
      rintro e1 YT ⟨a1, c1, t1, ht1, rfl, cp1⟩
      have hS' : Frm NoS YB YT ∧ YT.cell? ⟨w.heap.size, 0, none⟩ = some (.slice none 0 0) ∧ YT.cell? ⟨w.heap.size, 1, none⟩ = some (.slice none 0 0) ∧ YT.cell? ⟨w.heap.size, 2, none⟩ = some (.slice none 0 0) := ⟨hS.1.then1 cp1.frm, cp1.frm.cell' hS.2.1 id, cp1.frm.cell' hS.2.2.1 id, cp1.frm.cell' hS.2.2.2 id⟩
      refine hK.out _ _ hS' ?_
      have HT1 := Lib.hid ht1; clear ht1
      have HX1 := Lib.hid cp1.frm
      have HP1 := Lib.hid (cp1.weaken hS.1); clear cp1
      clear hK K hS
      have hS := hS'
      clear hS'
      try simp only [Act.put, List.setIfInBounds_toArray, List.set_cons_zero, List.set_cons_succ]
      refine one_opG (i := 5) (by kernel_rfl) rfl (fun K hK => ?_)
      go_simp
      refine (HCX.out _ hS.1).mono ?_
      rintro e1 YC ⟨a2, c2, t2, ht2, rfl, cp2⟩
      have hS' : Frm NoS YB YC ∧ YC.cell? ⟨w.heap.size, 0, none⟩ = some (.slice none 0 0) ∧ YC.cell? ⟨w.heap.size, 1, none⟩ = some (.slice none 0 0) ∧ YC.cell? ⟨w.heap.size, 2, none⟩ = some (.slice none 0 0) := ⟨hS.1.then1 cp2.frm, cp2.frm.cell' hS.2.1 id, cp2.frm.cell' hS.2.2.1 id, cp2.frm.cell' hS.2.2.2 id⟩
      refine hK.out _ _ hS' ?_
      have HT2 := Lib.hid ht2; clear ht2
      have HX2 := Lib.hid cp2.frm
      have HP2 := Lib.hid (cp2.weaken hS.1); clear cp2
      clear hK K hS
      have hS := hS'
      clear hS'
      try simp only [Act.put, List.setIfInBounds_toArray, List.set_cons_zero, List.set_cons_succ]
      refine one_opG (i := 6) (by kernel_rfl) rfl (fun K hK => ?_)
      refine stp_cp YB _ rfl (.tmp 9) (.tmp 12) rfl (.slice a1 t1.length c1) t1 (by first | exact HP1.out | exact HP1.out.step HX2.out) (.slice a2 t2.length c2) t2 (by simp [Act.eval]) (by simp [Act.eval]) (by first | exact HP2.out.rd | exact (HP2.out.step HX1.out).rd) (by have h1 := congrArg List.length HT1.out; have h2 := congrArg List.length HT2.out; have := HL1.out; have := HL2.out; omega) ?_
      intro ad cd Y3 t3 ht3 cp3 f3 r3
      have hnw : ∀ b, RowS (.slice a1 t1.length c1) b → b < YB.heap.size → False := fun b h hb => absurd hb (Nat.not_lt.2 (HP1.out.new b h))
      have hn : ¬ RowS (.slice a1 t1.length c1) w.heap.size := fun h => hnw _ h HNB.out
      refine hK.out _ _ ⟨hS.1.trans f3 fun j hj hs => hnw j hs hj, f3.cell' hS.2.1 hn, f3.cell' hS.2.2.1 hn, f3.cell' hS.2.2.2 hn⟩ ?_
      clear hK K hS hn hnw
      have HT3 := Lib.hid ht3; clear ht3
      have HP3 := Lib.hid cp3; clear cp3 f3 r3
      try simp only [Act.put, List.setIfInBounds_toArray, List.set_cons_zero, List.set_cons_succ]
      refine last_opG (by kernel_rfl) (by kernel_rfl) rfl (fun K hK => ?_)
      go_simp
      refine hK.out _ _ ?_
      clear hK K
      go_wp2
      go_ret
      exact ⟨ad, cd, t3, by rw [HT3.out, HT1.out, HT2.out, HFIN.out], rfl, HP3.out.weaken HYB.out⟩
end Go.Proofs.YtafdclkpeomomaaGreat

/- Opening what came in: slices of whatever elements, told cell by cell. -/
namespace Go.Proofs.YtafdclkpeomomaaGreat
open Go.RowKit

theorem list_of_lt {α : Type} [Inhabited α] {n : Nat} {p : Nat → α → Prop} (h : ∀ i, i < n → ∃ x, p i x) : ∃ l : List α, l.length = n ∧ ∀ i, i < n → ∀ d, p i (l.getD i d) := by
  obtain ⟨f, hf⟩ := Go.Deep.choose_lt h
  refine ⟨(List.range n).map f, by simp, fun i hi d => ?_⟩
  have : ((List.range n).map f).getD i d = f i := by simp [List.getD, hi]
  rw [this]
  exact hf i hi

section
variable {H : Type} {enc : TypeId × Value → H} {P : Program} {w : World} {base : Nat} {sp : Nat → Bool} {held : Bool}
/-- A slice that is read, spare and all: empty without capacity, or behind an address without a spot; each element's cells, and its own reading. -/
theorem open_arr {t e sz : Nat} {a0 : Option Addr} {len cap : Nat} {d : DataW H × List MemPlace} {fuel : Nat} (ht : P.underlying t = some (.slice e)) (hsz : P.cellsOf e = sz) (hpos : 0 < sz) (hsp : ∀ b, sp b = true)
    (h : DataW.trod enc P w base sp held fuel t [.slice a0 len cap] = some d) :
    (len = 0 ∧ cap = 0) ∨ ∃ b off, a0 = some ⟨b, off, none⟩ ∧ len ≤ cap ∧ cap ≤ maxLen ∧
      ∃ n, ∀ k, k < len → ∃ cs : List Value, cs.length = sz ∧ (∀ j u, cs[j]? = some u → w.cell? ⟨b, off + k * sz + j, none⟩ = some u) ∧ ∃ y, DataW.trod enc P w base sp held n e cs = some y := by
  rcases Go.Deep.open_slice ht h with ⟨hcs, _⟩ | ⟨a, len', cap', m, n, D, Pl, hcs, _, hl, hm, hmm, _, hel⟩
  · left
    simp only [List.cons.injEq, Value.slice.injEq, and_true] at hcs
    exact ⟨hcs.2.1, hcs.2.2⟩
  · simp only [List.cons.injEq, Value.slice.injEq, and_true] at hcs
    obtain ⟨rfl, rfl, rfl⟩ := hcs
    rw [hsp] at hmm
    simp only [if_true] at hmm
    subst hmm
    subst hsz
    rcases Nat.eq_zero_or_pos m with h0 | h0
    · left; omega
    · right
      obtain ⟨b, off, spot⟩ := a
      have hspot : spot = none := by
        obtain ⟨cs', hc, _⟩ := hel 0 h0
        obtain ⟨_, hlen, hcells⟩ := World.cells?_some hc
        have h00 : cs'[0]? = some (cs'[0]'(by omega)) := List.getElem?_eq_getElem _
        have := hcells 0 (by omega)
        rw [h00] at this
        have hs := World.cell?_spot this
        simpa [Addr.add] using hs
      subst hspot
      refine ⟨b, off, rfl, hl, hm, n, fun k hk => ?_⟩
      obtain ⟨cs', hc, ht'⟩ := hel k (by omega)
      obtain ⟨_, hlen, hcells⟩ := World.cells?_some hc
      refine ⟨cs', hlen, fun j u hu => ?_, _, ht'⟩
      have hj : j < P.cellsOf e := by rw [← hlen]; exact (List.getElem?_eq_some_iff.1 hu).1
      have := hcells j hj
      rw [addr_add, addr_add] at this
      rw [this, hu]
end
end Go.Proofs.YtafdclkpeomomaaGreat

/- What came in: trees, contexts, vectors. -/
namespace Go.Proofs.YtafdclkpeomomaaGreat
open Go.RowKit Go.WideShapes

theorem flatMap_get {α : Type} (f : α → List Value) (k : Nat) (hk : 0 < k) (hf : ∀ x, (f x).length = k) (d : α) : ∀ (l : List α) (j : Nat) (u : Value), (l.flatMap f)[j]? = some u → j / k < l.length ∧ (f (l.getD (j / k) d))[j % k]? = some u
  | [], j, u, h => by simp at h
  | x :: l, j, u, h => by
    rw [List.flatMap_cons] at h
    by_cases hj : j < k
    · rw [List.getElem?_append_left (by rw [hf]; exact hj)] at h
      rw [Nat.div_eq_of_lt hj, Nat.mod_eq_of_lt hj]
      exact ⟨Nat.zero_lt_succ _, h⟩
    · rw [List.getElem?_append_right (by rw [hf]; omega), hf] at h
      obtain ⟨h1, h2⟩ := flatMap_get f k hk hf d l (j - k) u h
      have e1 : j / k = (j - k) / k + 1 := by rw [Nat.div_eq_sub_div hk (by omega)]
      have e2 : j % k = (j - k) % k := Nat.mod_eq_sub_mod (by omega)
      rw [e1, e2]
      exact ⟨by simpa using h1, by simpa using h2⟩
theorem split_at (j k : Nat) (off : Nat) : off + j / k * k + j % k = off + j := by
  have := Nat.div_add_mod j k
  rw [Nat.mul_comm] at this
  omega
theorem weightsAll_mem {H : Type} {P : Program} {e : TypeId} : ∀ {l : List (DataW H)} {y : DataW H}, y ∈ l → ∀ n ∈ y.weights P e, n ∈ DataW.weightsAll P e l
  | d :: l, y, h, n, hn => by
    rw [DataW.weightsAll, List.mem_append]
    rcases List.mem_cons.1 h with rfl | h
    · exact .inl hn
    · exact .inr (weightsAll_mem h n hn)
theorem wfInt {x : Int} (h : (Lit.int .i64 x).wf = true) : -9223372036854775808 ≤ x ∧ x ≤ 9223372036854775807 := by
  simp only [Lit.wf, IntKind.min, IntKind.max, IntKind.signed, IntKind.bits] at h
  simpa using h
section
variable {H : Type} {enc : TypeId × Value → H} {P : Program} {w : World}
theorem open_arr2 {t e sz by_ : Nat} {a0 : Option Addr} {len cap : Nat} {x : DataW H × List MemPlace} {fuel : Nat} (ht : P.underlying t = some (.slice e)) (hsz : P.cellsOf e = sz) (hpos : 0 < sz) (hby : P.bytesOf e = by_)
    (h : DataW.trod enc P w 0 (fun _ => true) true fuel t [.slice a0 len cap] = some x) (hw : ∀ n ∈ x.1.weights P t, n ≤ reachBytes) :
    (len = 0 ∧ cap = 0) ∨ ∃ b off n, a0 = some ⟨b, off, none⟩ ∧ len ≤ cap ∧ cap ≤ maxLen ∧ fuel = n + 1 ∧ len * by_ ≤ reachBytes ∧
      ∀ k, k < len → ∃ cs : List Value, cs.length = sz ∧ (∀ j u, cs[j]? = some u → w.cell? ⟨b, off + k * sz + j, none⟩ = some u) ∧ ∃ y, DataW.trod enc P w 0 (fun _ => true) true n e cs = some y ∧ ∀ n ∈ y.1.weights P e, n ≤ reachBytes := by
  rcases open_arr ht hsz hpos (fun _ => rfl) h with h0 | ⟨b, off, rfl, hl, hm, _⟩
  · exact .inl h0
  right
  rcases DataW.trod_slice ht h with ⟨hcs, _⟩ | ⟨a, len', cap', elems, rest, n, hfuel, hcs, rfl, _, _, _, hlen, hel, hsp, _⟩
  · simp at hcs
  simp only [List.cons.injEq, Value.slice.injEq, Option.some.injEq, and_true] at hcs
  obtain ⟨rfl, rfl, rfl⟩ := hcs
  subst hsz
  subst hby
  simp only [DataW.weights, ht] at hw
  refine ⟨b, off, n, rfl, hl, hm, hfuel, ?_, fun k hk => ?_⟩
  · have h1 := hw _ List.mem_cons_self
    simp only [List.length_map] at h1
    rw [hlen] at h1
    exact Nat.le_trans (Nat.mul_le_mul_right _ (Nat.le_add_right _ _)) h1
  · have hke : k < elems.length := by omega
    have h1 := hel k hk
    rw [List.getElem?_eq_getElem hke, Option.bind_eq_some_iff] at h1
    obtain ⟨cs', hc, ht'⟩ := h1
    obtain ⟨_, hcl, hcells⟩ := World.cells?_some hc
    refine ⟨cs', hcl, fun j u hu => ?_, _, ht', fun m hm => ?_⟩
    · have hj : j < P.cellsOf e := by rw [← hcl]; exact (List.getElem?_eq_some_iff.1 hu).1
      have := hcells j hj
      rw [addr_add, addr_add] at this
      rw [this, hu]
    · refine hw m (List.mem_cons_of_mem _ (List.mem_append_left _ (weightsAll_mem (y := elems[k].1) ?_ m hm)))
      exact List.mem_map.2 ⟨_, List.getElem_mem hke, rfl⟩
theorem slice_of_trod {t e : Nat} {c : Value} {x : DataW H × List MemPlace} {fuel : Nat} (ht : P.underlying t = some (.slice e)) (h : DataW.trod enc P w 0 (fun _ => true) true fuel t [c] = some x) : ∃ a l k, c = .slice a l k := by
  rcases DataW.trod_slice ht h with ⟨hcs, _⟩ | ⟨a, len', cap', elems, rest, n, hfuel, hcs, _⟩
  · simp at hcs; exact ⟨_, _, _, hcs⟩
  · simp at hcs; exact ⟨_, _, _, hcs⟩
end
section
variable {H : Type} {enc : TypeId × Value → H} {w : World}
theorem Tryz.cells_entry : Tryz.prog.cellsOf 136 = 4 := by kernel_rfl
theorem Tryz.bytes_entry : Tryz.prog.bytesOf 136 = 40 := by kernel_rfl
theorem Tryz.cells_kid : Tryz.prog.cellsOf 138 = 3 := by kernel_rfl
theorem Tryz.bytes_kid : Tryz.prog.bytesOf 138 = 64 := by kernel_rfl
theorem Tryz.cells_dot : Tryz.prog.cellsOf 134 = 2 := by kernel_rfl
theorem Tryz.cells_tree : Tryz.prog.cellsOf 25 = 2 := by kernel_rfl
theorem Tryz.cells_span : Tryz.prog.cellsOf 107 = 3 := by kernel_rfl
theorem Tryz.bytes_span : Tryz.prog.bytesOf 107 = 24 := by kernel_rfl
theorem Tryz.cells_ents : Tryz.prog.cellsOf 22 = 1 := by kernel_rfl
theorem Tryz.cells_kids : Tryz.prog.cellsOf 23 = 1 := by kernel_rfl
theorem Tryz.cells_ctx : Tryz.prog.cellsOf 27 = 1 := by kernel_rfl
theorem Tryz.cells_I : Tryz.prog.cellsOf 3 = 1 := by kernel_rfl
theorem Tryz.cells_I64 : Tryz.prog.cellsOf 2 = 1 := by kernel_rfl
theorem Tryz.cells_S : Tryz.prog.cellsOf 9 = 1 := by kernel_rfl
instance : Inhabited Ent := ⟨Ent.zero⟩
instance : Inhabited KidsL := ⟨.nil⟩
theorem entC_get (l : List Ent) (j : Nat) (u : Value) (h : (entC l)[j]? = some u) : j / 4 < l.length ∧ (l.getD (j / 4) Ent.zero).cells[j % 4]? = some u := flatMap_get Ent.cells 4 (by decide) (fun _ => rfl) Ent.zero l j u h
set_option maxRecDepth 100000 in
theorem ent_of_trod {n : Nat} {cs : List Value} {y : DataW H × List MemPlace} (hl : cs.length = 4) (h : DataW.trod enc Tryz.prog w 0 (fun _ => true) true n 136 cs = some y) : ∃ e : Ent, cs = e.cells ∧ e.fits := by
  obtain ⟨c0, c1, c2, c3, rfl⟩ : ∃ c0 c1 c2 c3, cs = [c0, c1, c2, c3] := by
    match cs, hl with
    | [c0, c1, c2, c3], _ => exact ⟨c0, c1, c2, c3, rfl⟩
  obtain ⟨y0, y1, y2, m, _, _, g0, g1, g2⟩ := Go.Deep.trod_struct3 Tryz.underlying136 h
  rw [Tryz.cells_dot] at g0
  rw [Tryz.cells_S] at g1
  rw [Tryz.cells_I64] at g2
  obtain ⟨z0, z1, m2, _, _, k0, k1⟩ := Go.ChangeShapes.trod_struct2 Tryz.underlying134 g0
  rw [Tryz.cells_I] at k0
  rw [Tryz.cells_I64] at k1
  obtain ⟨d, e0, _, w0⟩ := DataW.trod_int Tryz.underlying3 k0
  obtain ⟨x, e1, _, w1⟩ := DataW.trod_int Tryz.underlying2 k1
  obtain ⟨s, e2, _, hs⟩ := DataW.trod_string Tryz.underlying9 g1
  obtain ⟨z, e3, _, w3⟩ := DataW.trod_int Tryz.underlying2 g2
  simp at e0 e1 e2 e3
  subst e0 e1 e2 e3
  exact ⟨⟨d, x, s, z⟩, rfl, wfInt w0, wfInt w1, wfInt w3, by simp only [maxLen] at hs; omega⟩
theorem open_ents {fuel : Nat} {c : Value} {x : DataW H × List MemPlace} (h : DataW.trod enc Tryz.prog w 0 (fun _ => true) true fuel 22 [c] = some x) (hw : ∀ n ∈ x.1.weights Tryz.prog 22, n ≤ reachBytes) :
    ∃ es : List Ent, RdQ (fun _ => True) w c es.length (entC es) ∧ EsOk es := by
  obtain ⟨a0, len, cap, rfl⟩ := slice_of_trod Tryz.underlying22 h
  rcases open_arr2 Tryz.underlying22 Tryz.cells_entry (by decide) Tryz.bytes_entry h hw with ⟨rfl, rfl⟩ | ⟨b, off, n, rfl, h1, h2, _, h3, hel⟩
  · exact ⟨[], ⟨.inl ⟨a0, rfl, rfl, rfl⟩, fun _ _ _ => trivial⟩, by simp, by simp⟩
  · have hx : ∀ k, k < len → ∃ e : Ent, (∀ j u, e.cells[j]? = some u → w.cell? ⟨b, off + k * 4 + j, none⟩ = some u) ∧ e.fits := fun k hk => by
      obtain ⟨cs, hl, hc, y, hy, _⟩ := hel k hk
      obtain ⟨e, rfl, hf⟩ := ent_of_trod hl hy
      exact ⟨e, hc, hf⟩
    obtain ⟨l, hl, hlp⟩ := list_of_lt hx
    have hlen : l.length ≤ 140737488351232 := by unfold reachBytes at h3; omega
    refine ⟨l, ⟨.inr ⟨b, off, cap, by rw [hl], by omega, h2, fun j u hu => ?_⟩, fun _ _ _ => trivial⟩, hlen, fun e he => ?_⟩
    · obtain ⟨g1, g2⟩ := entC_get l j u hu
      have := (hlp (j / 4) (by omega) Ent.zero).1 (j % 4) u g2
      rwa [split_at] at this
    · obtain ⟨k, hk, rfl⟩ := List.getElem_of_mem he
      have := (hlp k (by omega) Ent.zero).2
      rwa [getD_at Ent.zero hk] at this

set_option maxRecDepth 100000 in
theorem open_tree : ∀ (fuel : Nat) (ev kv : Value) (x : DataW H × List MemPlace), DataW.trod enc Tryz.prog w 0 (fun _ => true) true fuel 25 [ev, kv] = some x → (∀ n ∈ x.1.weights Tryz.prog 25, n ≤ reachBytes) →
    ∃ es ks, TreeAt (fun _ => True) w ev kv es ks ∧ TrOk es ks := by
  intro fuel
  induction fuel using Nat.strongRecOn with
  | _ fuel ih =>
    intro ev kv x h hw
    obtain ⟨xs, n, hn, rfl, _, hxl, hf⟩ := DataW.trod_struct Tryz.underlying25 h
    obtain ⟨y0, y1, rfl⟩ : ∃ y0 y1, xs = [y0, y1] := by
      match xs, hxl with
      | [y0, y1], _ => exact ⟨y0, y1, rfl⟩
    have g0 := hf 0 _ rfl
    have g1 := hf 1 _ rfl
    have g0 : DataW.trod enc Tryz.prog w 0 (fun _ => true) true n 22 [ev] = some y0 := g0
    have g1 : DataW.trod enc Tryz.prog w 0 (fun _ => true) true n 23 [kv] = some y1 := g1
    have hw2 : ∀ m ∈ y0.1.weights Tryz.prog 22 ++ (y1.1.weights Tryz.prog 23 ++ []), m ≤ reachBytes := fun m hm => hw m (by
      simp only [List.map_cons, List.map_nil, DataW.weights, Tryz.underlying25]
      exact hm)
    obtain ⟨es, he, hok⟩ := open_ents g0 fun m hm => hw2 m (List.mem_append_left _ hm)
    have hw3 : ∀ m ∈ y1.1.weights Tryz.prog 23, m ≤ reachBytes := fun m hm => hw2 m (List.mem_append_right _ (List.mem_append_left _ hm))
    obtain ⟨a0, len, cap, rfl⟩ := slice_of_trod Tryz.underlying23 g1
    rcases open_arr2 Tryz.underlying23 Tryz.cells_kid (by decide) Tryz.bytes_kid g1 hw3 with ⟨rfl, rfl⟩ | ⟨b, off, n2, rfl, h1, h2, hn2, h3, hel⟩
    · exact ⟨es, .nil, ⟨he, [], ⟨.inl ⟨a0, rfl, rfl, rfl⟩, fun _ _ _ => trivial⟩, rfl⟩, hok, by decide, trivial⟩
    · have hx : ∀ k, k < len → ∃ q : KidQ, (∀ j u, q.cells[j]? = some u → w.cell? ⟨b, off + k * 3 + j, none⟩ = some u) ∧ TreeAt (fun _ => True) w q.ev q.kv q.es q.sub ∧ q.key.size ≤ 9223372036854775807 ∧ TrOk q.es q.sub := fun k hk => by
        obtain ⟨cs, hl, hc, y, hy, hyw⟩ := hel k hk
        obtain ⟨c0, c1, c2, rfl⟩ : ∃ c0 c1 c2, cs = [c0, c1, c2] := by
          match cs, hl with
          | [c0, c1, c2], _ => exact ⟨c0, c1, c2, rfl⟩
        obtain ⟨zs, n3, hn3, rfl, _, hzl, hg⟩ := DataW.trod_struct Tryz.underlying138 hy
        obtain ⟨z0, z1, rfl⟩ : ∃ z0 z1, zs = [z0, z1] := by
          match zs, hzl with
          | [z0, z1], _ => exact ⟨z0, z1, rfl⟩
        have k0 := hg 0 _ rfl
        have k1 := hg 1 _ rfl
        have k0 : DataW.trod enc Tryz.prog w 0 (fun _ => true) true n3 9 [c0] = some z0 := k0
        have k1 : DataW.trod enc Tryz.prog w 0 (fun _ => true) true n3 25 [c1, c2] = some z1 := k1
        have hyw2 : ∀ m ∈ z0.1.weights Tryz.prog 9 ++ (z1.1.weights Tryz.prog 25 ++ []), m ≤ reachBytes := fun m hm => hyw m (by
          simp only [List.map_cons, List.map_nil, DataW.weights, Tryz.underlying138]
          exact hm)
        obtain ⟨s, e2, _, hs⟩ := DataW.trod_string Tryz.underlying9 k0
        simp at e2
        subst e2
        obtain ⟨es', ks', ht, hok'⟩ := ih n3 (by omega) c1 c2 z1 k1 fun m hm => hyw2 m (List.mem_append_right _ (List.mem_append_left _ hm))
        exact ⟨⟨s, es', ks', c1, c2⟩, hc, ht, by simp only [maxLen] at hs; show s.size ≤ _; omega, hok'⟩
      obtain ⟨l, hl, hlp⟩ := list_of_lt hx
      have hq : ∀ q ∈ l, TreeAt (fun _ => True) w q.ev q.kv q.es q.sub ∧ q.key.size ≤ 9223372036854775807 ∧ TrOk q.es q.sub := fun q hq => by
        obtain ⟨k, hk, rfl⟩ := List.getElem_of_mem hq
        have := (hlp k (by omega) default).2
        rwa [getD_at default hk] at this
      refine ⟨es, mkK l, ⟨he, outK l, ⟨.inr ⟨b, off, cap, by rw [mkK_len, hl], by rw [mkK_len]; omega, h2, fun j u hu => ?_⟩, fun _ _ _ => trivial⟩, mkK_for fun q h => (hq q h).1⟩, hok, by rw [mkK_len, hl]; unfold reachBytes at h3; omega, mkK_ok fun q h => (hq q h).2⟩
      rw [mkK_cells] at hu
      obtain ⟨g1, g2⟩ := flatMap_get KidQ.cells 3 (by decide) (fun _ => rfl) default l j u hu
      have := (hlp (j / 3) (by omega) default).1 (j % 3) u g2
      rwa [split_at] at this
theorem spC_get (l : CtxL) (j : Nat) (u : Value) (h : (spC l)[j]? = some u) : j / 3 < l.length ∧ ([.int .i64 (l.getD (j / 3) (0, 0, 0)).1, .int .i64 (l.getD (j / 3) (0, 0, 0)).2.1, .int .i64 (l.getD (j / 3) (0, 0, 0)).2.2] : List Value)[j % 3]? = some u :=
  flatMap_get (fun s : Int × Int × Int => [.int .i64 s.1, .int .i64 s.2.1, .int .i64 s.2.2]) 3 (by decide) (fun _ => rfl) (0, 0, 0) l j u h
set_option maxRecDepth 100000 in
theorem open_ctx {fuel : Nat} {c : Value} {x : DataW H × List MemPlace} (h : DataW.trod enc Tryz.prog w 0 (fun _ => true) true fuel 27 [c] = some x) (hw : ∀ n ∈ x.1.weights Tryz.prog 27, n ≤ reachBytes) :
    ∃ l : CtxL, CtxAt w c l ∧ FitsC l ∧ l.length ≤ 140737488351232 := by
  obtain ⟨a0, len, cap, rfl⟩ := slice_of_trod Tryz.underlying27 h
  rcases open_arr2 Tryz.underlying27 Tryz.cells_span (by decide) Tryz.bytes_span h hw with ⟨rfl, rfl⟩ | ⟨b, off, n, rfl, h1, h2, _, h3, hel⟩
  · exact ⟨[], .inl ⟨a0, rfl, rfl, rfl⟩, (fun s hs => by cases hs), Nat.zero_le _⟩
  · have hx : ∀ k, k < len → ∃ s : Int × Int × Int, (∀ j u, ([.int .i64 s.1, .int .i64 s.2.1, .int .i64 s.2.2] : List Value)[j]? = some u → w.cell? ⟨b, off + k * 3 + j, none⟩ = some u) ∧ (-9223372036854775808 ≤ s.1 ∧ s.1 ≤ 9223372036854775807 ∧ -9223372036854775808 ≤ s.2.1 ∧ s.2.1 ≤ 9223372036854775807 ∧ -9223372036854775808 ≤ s.2.2 ∧ s.2.2 ≤ 9223372036854775807) := fun k hk => by
      obtain ⟨cs, hl, hc, y, hy, _⟩ := hel k hk
      obtain ⟨c0, c1, c2, rfl⟩ : ∃ c0 c1 c2, cs = [c0, c1, c2] := by
        match cs, hl with
        | [c0, c1, c2], _ => exact ⟨c0, c1, c2, rfl⟩
      obtain ⟨y0, y1, y2, m, _, _, g0, g1, g2⟩ := Go.Deep.trod_struct3 Tryz.underlying107 hy
      rw [Tryz.cells_I] at g0
      rw [Tryz.cells_I64] at g1 g2
      obtain ⟨p, e0, _, w0⟩ := DataW.trod_int Tryz.underlying3 g0
      obtain ⟨q, e1, _, w1⟩ := DataW.trod_int Tryz.underlying2 g1
      obtain ⟨r, e2, _, w2⟩ := DataW.trod_int Tryz.underlying2 g2
      simp at e0 e1 e2
      subst e0 e1 e2
      exact ⟨(p, q, r), hc, (wfInt w0).1, (wfInt w0).2, (wfInt w1).1, (wfInt w1).2, (wfInt w2).1, (wfInt w2).2⟩
    obtain ⟨l, hl, hlp⟩ := list_of_lt hx
    refine ⟨l, .inr ⟨b, off, cap, by rw [hl], by omega, h2, fun j u hu => ?_⟩, fun s hs => ?_, by unfold reachBytes at h3; omega⟩
    · obtain ⟨g1, g2⟩ := spC_get l j u hu
      have := (hlp (j / 3) (by omega) (0, 0, 0)).1 (j % 3) u g2
      rwa [split_at] at this
    · obtain ⟨k, hk, rfl⟩ := List.getElem_of_mem hs
      have := (hlp k (by omega) (0, 0, 0)).2
      rwa [getD_at (0, 0, 0) hk] at this
end
end Go.Proofs.YtafdclkpeomomaaGreat

/- What came in: what is known. -/
namespace Go.Proofs.YtafdclkpeomomaaGreat
open Go.RowKit Go.WideShapes Go.ChangeShapes

theorem Tryz.cells_causal : Tryz.prog.cellsOf 29 = 3 := by kernel_rfl
theorem sized_at {H : Type} {P : Program} {ts us : List TypeId} {ds gs : List (DataW H)} (h : (DataW.weightsEach P (ts ++ us) (ds ++ gs)).all (· ≤ reachBytes) = true) {j : Nat} {t : TypeId} {d : DataW H} (ht : ts[j]? = some t) (hd : ds[j]? = some d) :
    ∀ n ∈ d.weights P t, n ≤ reachBytes := fun n hn => by
  have h1 : (ts ++ us)[j]? = some t := by rw [List.getElem?_append_left (List.getElem?_eq_some_iff.1 ht).1]; exact ht
  have h2 : (ds ++ gs)[j]? = some d := by rw [List.getElem?_append_left (List.getElem?_eq_some_iff.1 hd).1]; exact hd
  simpa using List.all_eq_true.1 h n (DataW.weights_mem_each h1 h2 n hn)
section
variable {H : Type} {enc : TypeId × Value → H} {w : World}
set_option maxRecDepth 100000 in
theorem open_causal {fuel : Nat} {ev kv cv : Value} {x : DataW H × List MemPlace} (h : DataW.trod enc Tryz.prog w 0 (fun _ => true) true fuel 29 [ev, kv, cv] = some x) (hw : ∀ n ∈ x.1.weights Tryz.prog 29, n ≤ reachBytes) :
    ∃ es ks c, CauAt (fun _ => True) w ev kv cv es ks c ∧ TrOk es ks ∧ FitsC c ∧ c.length ≤ 140737488351232 := by
  obtain ⟨xs, n, hn, rfl, _, hxl, hf⟩ := DataW.trod_struct Tryz.underlying29 h
  obtain ⟨y0, y1, rfl⟩ : ∃ y0 y1, xs = [y0, y1] := by
    match xs, hxl with
    | [y0, y1], _ => exact ⟨y0, y1, rfl⟩
  have g0 := hf 0 _ rfl
  have g1 := hf 1 _ rfl
  have g0 : DataW.trod enc Tryz.prog w 0 (fun _ => true) true n 25 [ev, kv] = some y0 := g0
  have g1 : DataW.trod enc Tryz.prog w 0 (fun _ => true) true n 27 [cv] = some y1 := g1
  have hw2 : ∀ m ∈ y0.1.weights Tryz.prog 25 ++ (y1.1.weights Tryz.prog 27 ++ []), m ≤ reachBytes := fun m hm => hw m (by
    simp only [List.map_cons, List.map_nil, DataW.weights, Tryz.underlying29]
    exact hm)
  obtain ⟨es, ks, h1, h2⟩ := open_tree _ ev kv _ g0 fun m hm => hw2 m (List.mem_append_left _ hm)
  obtain ⟨c, h3, h4, h5⟩ := open_ctx g1 fun m hm => hw2 m (List.mem_append_right _ (List.mem_append_left _ hm))
  exact ⟨es, ks, c, ⟨h1, h3⟩, h2, h4, h5⟩
/-- What is known, that came in. -/
structure CauIn (w : World) (v : Value) : Prop where
  out : ∃ (ev kv cv : Value) (es : List Ent) (ks : KidsL) (c : CtxL), v = .agg #[ev, kv, cv] ∧ CauAt (fun _ => True) w ev kv cv es ks c ∧ TrOk es ks ∧ FitsC c ∧ c.length ≤ 140737488351232
set_option maxRecDepth 100000 in
theorem open_cau {base : Nat} {v : Value} {d : DataW H} {ps : List MemPlace} (hv : Value.okWide Tryz.prog w .any base 29 v) (h : DataW.Trod enc Tryz.prog w 0 (fun _ => true) true 29 v d ps)
    (hw : ∀ n ∈ d.weights Tryz.prog 29, n ≤ reachBytes) : CauIn w v := by
  obtain ⟨cs, rfl, hsz⟩ := okWide_struct Tryz.underlying29 hv
  rw [Tryz.cells_causal] at hsz
  obtain ⟨l⟩ := cs
  match l, hsz with
  | [c0, c1, c2], _ =>
  obtain ⟨fuel, hf⟩ := h
  have hf : DataW.trod enc Tryz.prog w 0 (fun _ => true) true fuel 29 [c0, c1, c2] = some (d, ps) := hf
  obtain ⟨es, ks, c, h1, h2, h3, h4⟩ := open_causal hf hw
  exact ⟨_, _, _, es, ks, c, rfl, h1, h2, h3, h4⟩
end
end Go.Proofs.YtafdclkpeomomaaGreat

/- The law PackBytes: its walk. -/
namespace Go.Proofs.YtafdclkpeomomaaGreat
open Go.RowKit

theorem cau_small {es : List Ent} {ks : KidsL} {c : CtxL} (hok : TrOk es ks) (hf : FitsC c) (h : (decide (0 ≤ roomT es ks 40 8) && decide ((c.length : Int) ≤ 40)) = true) : CauOk es ks c ∧ sizeT es ks ≤ 40 ∧ c.length ≤ 40 := by
  simp only [Bool.and_eq_true, decide_eq_true_iff] at h
  have := roomT_size h.1
  exact ⟨⟨hok, by omega, hf, by omega⟩, by omega, by omega⟩
theorem encX_small {es : List Ent} {ks : KidsL} {c : CtxL} (h : CauRight es ks c) (h1 : sizeT es ks ≤ 40) (h2 : c.length ≤ 40) : (encX es ks c).length ≤ 6000 := by
  have g1 := encT_le h.tree (by omega)
  have g2 := encC_le h.ctx (by omega)
  unfold encX
  rw [List.length_append]
  omega
/-- Bytes of what is right and small. -/
theorem pBytes_ok (es : List Ent) (ks : KidsL) (c : CtxL) (w : World) (ev kv cv : Value) (h : CauAt (fun _ => True) w ev kv cv es ks c) (hok : CauOk es ks c) (hr : CauRight es ks c) (hl : (encX es ks c).length ≤ 60000) :
    Calls Tryz.prog 13 #[.agg #[ev, kv, cv]] w fun e w' => ∃ a c', e = .returned (.tuple #[.slice a (encX es ks c).length c', .int .i64 0]) ∧ Copy w (.slice a (encX es ks c).length c') (encX es ks c) w' :=
  (pBytes_any (fun _ => True) es ks c w ev kv cv h hok).mono fun e w' ⟨h1, _, _⟩ => by
    obtain ⟨v, k, he, hend⟩ := h1 hr
    unfold EndIs at hend
    rw [if_pos hl] at hend
    obtain ⟨rfl, hcp⟩ := hend
    obtain ⟨a, c', rfl⟩ := hcp.shape
    exact ⟨a, c', he, hcp⟩
theorem pBytes_no (es : List Ent) (ks : KidsL) (c : CtxL) (w : World) (ev kv cv : Value) (h : CauAt (fun _ => True) w ev kv cv es ks c) (hok : CauOk es ks c) (hr : ¬ CauRight es ks c) :
    Calls Tryz.prog 13 #[.agg #[ev, kv, cv]] w fun e w' => e = .returned (.tuple #[.slice none 0 0, .int .i64 1]) ∧ Frm NoS w w' :=
  (pBytes_any (fun _ => True) es ks c w ev kv cv h hok).mono fun e w' ⟨_, h1, h2⟩ => ⟨h1 hr, h2⟩
theorem pRead_ok (es : List Ent) (ks : KidsL) (c : CtxL) (w : World) (v : Value) (hr : CauRight es ks c) (hl : (encX es ks c).length ≤ 6000) (h : Rd w v (encX es ks c).length (bV (encX es ks c))) :
    Calls Tryz.prog 16 #[v] w fun e w' => ∃ ev kv cv, e = .returned (.tuple #[.agg #[ev, kv, cv], .int .i64 0]) ∧ CauAt (fun _ => True) w' ev kv cv es ks c ∧ Frm NoS w w' :=
  (pRead_any v (encX es ks c) es ks c (some []) w h (by have h0 := CauRes.make [] hr; rw [List.append_nil] at h0; exact h0) hl).mono fun e w' hp => by
    obtain ⟨ev, kv, cv, he, ht, hc⟩ := hp.yes rfl
    exact ⟨ev, kv, cv, he, ⟨ht.turn fun b _ _ => ⟨rfl, trivial⟩, hc.at_⟩, hp.frm⟩
theorem cauB_right {es : List Ent} {ks : KidsL} {c : CtxL} (hr : CauRight es ks c) : cauB es ks c = encX es ks c := by unfold cauB; rw [tf_true hr, if_pos rfl]
set_option maxHeartbeats 8000000 in
set_option maxRecDepth 1000000 in
theorem packBytes_law (w : World) (va : Value) (ha : CauIn w va) : Calls Tryz.prog 3 #[va] w fun e w' => e = .returned (.bool true) ∧ Frm (fun _ => False) w w' := by
  obtain ⟨ev, kv, cv, es, ks, c, rfl, hc, hok, hf, hcl⟩ := ha.out
  have HA := Lib.hid awake16_any
  have HS := Lib.hid (fun W (f : Frm NoS w W) => r9Small_any (fun _ => True) es ks c 40 W _ _ _ (hc.keep0 f) hok hcl (by decide) (by decide))
  obtain ⟨a0, c0, a1, c1, a2, c2, rfl, rfl, rfl⟩ := hc.shape
  have HFB := Lib.hid (Frm.alloc NoS w (.cells #[.slice a0 es.length c0, .slice a1 ks.len c1, .slice a2 c.length c2] 29))
  have HBX := Lib.hid (box3 w (.slice a0 es.length c0) (.slice a1 ks.len c1) (.slice a2 c.length c2) 29)
  cases h1 : (decide (0 ≤ roomT es ks 40 8) && decide ((c.length : Int) ≤ 40)) with
  | false =>
    rw [h1] at HS
    clear h1 hc hok hf hcl
    generalize es.length = n at *
    generalize ks.len = m at *
    generalize c.length = k at *
    go_enter Tryz.func3, Tryz.ntmps3
    go_wp2_with (first
      | (go_at_call 12; go_loud (refine (HS.out _ (HFB.out.then1 HW1.out)).mono ?_); rintro e w2 ⟨rfl, hw2⟩; clear y0 y1 y2 hbl; have HW2 := Lib.hid (HW1.out.then1 hw2); clear hw2)
      | (go_at_call 11; first | (refine (HA.out _).mono ?_; rintro e w20 ⟨rfl, hw20⟩; have HW20 := Lib.hid (HFB.out.then1 (HW2.out.then1 hw20)); clear hw20) | (go_loud (refine (HA.out _).mono ?_); rintro e w1 ⟨rfl, hw1⟩; obtain ⟨y0, y1, y2⟩ := HBX.out w1 hw1; have hbl := World.block_lt_of_cell? _ _ y0; have HW1 := Lib.hid hw1; clear hw1)))
    go_ret
    exact ⟨rfl, HW20.out⟩
  | true =>
    obtain ⟨ok, hz1, hz2⟩ := cau_small hok hf h1
    rw [h1] at HS
    clear h1
    have HR := Lib.hid (fun W (f : Frm NoS w W) => r9Right_any (fun _ => True) es ks c W _ _ _ (hc.keep0 f) ok)
    by_cases hr : CauRight es ks c
    · rw [tf_true hr] at HR
      have hl6 := encX_small hr hz1 hz2
      have HBY := Lib.hid (fun W (f : Frm NoS w W) => pBytes_ok es ks c W _ _ _ (hc.keep0 f) ok hr (by omega))
      have HRC := Lib.hid (fun W (f : Frm NoS w W) => cauB_right hr ▸ r16Causal_any (fun _ => True) es ks c W _ _ _ (hc.keep0 f) ok)
      have HRD := Lib.hid (fun W v h => pRead_ok es ks c W v hr hl6 h)
      have HSM := Lib.hid (fun W ev kv cv (h' : CauAt (fun _ => True) W ev kv cv es ks c) (f : Frm NoS w W) => tf_true (⟨⟨rfl, rfl⟩, rfl⟩ : (es = es ∧ ks = ks) ∧ c = c) ▸ r9Same_any (fun _ => True) (fun _ => True) es ks c es ks c W ev kv cv _ _ _ h' ok (hc.keep0 f) ok)
      clear hr hc hok hf hcl ok hz1 hz2 hl6
      generalize encX es ks c = X at *
      go_enter Tryz.func3, Tryz.ntmps3
      go_wp2_with (first
        | (go_at_call 11; go_loud (refine (HA.out _).mono ?_); rintro e w1 ⟨rfl, hw1⟩; obtain ⟨y0, y1, y2⟩ := HBX.out w1 hw1; have hbl := World.block_lt_of_cell? _ _ y0; have HW1 := Lib.hid hw1; clear hw1)
        | (go_at_call 12; go_loud (refine (HS.out _ (HFB.out.then1 HW1.out)).mono ?_); rintro e w2 ⟨rfl, hw2⟩; clear y0 y1 y2 hbl; obtain ⟨y0, y1, y2⟩ := HBX.out w2 (HW1.out.then1 hw2); have hbl := World.block_lt_of_cell? _ _ y0; have HW2 := Lib.hid (HW1.out.then1 hw2); clear hw2)
        | (go_at_call 13; go_loud (refine (HBY.out _ (HFB.out.then1 HW2.out)).mono ?_); rintro e w3 ⟨a3, c3, rfl, cp3⟩; clear y0 y1 y2 hbl; obtain ⟨y0, y1, y2⟩ := HBX.out w3 (HW2.out.then1 cp3.frm); have hbl := World.block_lt_of_cell? _ _ y0; have HW3 := Lib.hid (HW2.out.then1 cp3.frm); have HP3 := Lib.hid cp3; clear cp3)
        | (go_at_call 14; go_loud (refine (HR.out _ (HFB.out.then1 HW3.out)).mono ?_); rintro e w4 ⟨rfl, hw4⟩; clear y0 y1 y2 hbl; obtain ⟨y0, y1, y2⟩ := HBX.out w4 (HW3.out.then1 hw4); have hbl := World.block_lt_of_cell? _ _ y0; have HW4 := Lib.hid (HW3.out.then1 hw4); have HP4 := Lib.hid (HP3.out.step hw4); clear hw4)
        | (go_at_call 15; go_loud (refine (HRC.out _ (HFB.out.then1 HW4.out)).mono ?_); rintro e w5 ⟨a5, c5, t5, ht5, rfl, cp5⟩; subst ht5; clear y0 y1 y2 hbl; obtain ⟨y0, y1, y2⟩ := HBX.out w5 (HW4.out.then1 cp5.frm); have hbl := World.block_lt_of_cell? _ _ y0; have HW5 := Lib.hid (HW4.out.then1 cp5.frm); have HP5 := Lib.hid (HP4.out.step cp5.frm); have HC5 := Lib.hid cp5; clear cp5)
        | (go_at_call 16; go_loud (refine (HRD.out _ _ HP5.out.rd).mono ?_); rintro e w6 ⟨ev6, kv6, cv6, rfl, hc6, hf6⟩; obtain ⟨b0, d0, b1, d1, b2, d2, rfl, rfl, rfl⟩ := hc6.shape
           have hw6 := (HW5.out.then1 hf6).then1 (Frm.alloc NoS w6 (.cells #[.slice b0 es.length d0, .slice b1 ks.len d1, .slice b2 c.length d2] 29))
           have hp6 := (HP5.out.step hf6).step (Frm.alloc NoS w6 (.cells #[.slice b0 es.length d0, .slice b1 ks.len d1, .slice b2 c.length d2] 29))
           have hq6 := (HC5.out.step hf6).step (Frm.alloc NoS w6 (.cells #[.slice b0 es.length d0, .slice b1 ks.len d1, .slice b2 c.length d2] 29))
           have hcv := conv_str hp6.rd
           have hcw := conv_str hq6.rd
           have HC6 := Lib.hid (hc6.keep0 (Frm.alloc NoS w6 (.cells #[.slice b0 es.length d0, .slice b1 ks.len d1, .slice b2 c.length d2] 29)))
           clear y0 y1 y2 hbl
           obtain ⟨y0, y1, y2⟩ := HBX.out w6 (HW5.out.then1 hf6); have hbl := World.block_lt_of_cell? _ _ y0
           have HW6 := Lib.hid hw6
           clear hw6 hp6 hq6 hc6 hf6)
        | (go_at_call 17; go_loud (refine (HSM.out _ _ _ _ HC6.out (HFB.out.then1 HW6.out)).mono ?_); rintro e w7 ⟨rfl, hw7⟩; clear hcv hcw; have HW7 := Lib.hid (HFB.out.then1 (HW6.out.then1 hw7)); clear hw7))
      go_ret
      exact ⟨rfl, HW7.out⟩
    · rw [tf_false hr] at HR
      have HBY := Lib.hid (fun W (f : Frm NoS w W) => pBytes_no es ks c W _ _ _ (hc.keep0 f) ok hr)
      clear hr hc hok hf hcl ok hz1 hz2
      generalize es.length = n at *
      generalize ks.len = m at *
      generalize c.length = k at *
      go_enter Tryz.func3, Tryz.ntmps3
      go_wp2_with (first
        | (go_at_call 11; go_loud (refine (HA.out _).mono ?_); rintro e w1 ⟨rfl, hw1⟩; obtain ⟨y0, y1, y2⟩ := HBX.out w1 hw1; have hbl := World.block_lt_of_cell? _ _ y0; have HW1 := Lib.hid hw1; clear hw1)
        | (go_at_call 12; go_loud (refine (HS.out _ (HFB.out.then1 HW1.out)).mono ?_); rintro e w2 ⟨rfl, hw2⟩; clear y0 y1 y2 hbl; obtain ⟨y0, y1, y2⟩ := HBX.out w2 (HW1.out.then1 hw2); have hbl := World.block_lt_of_cell? _ _ y0; have HW2 := Lib.hid (HW1.out.then1 hw2); clear hw2)
        | (go_at_call 13; go_loud (refine (HBY.out _ (HFB.out.then1 HW2.out)).mono ?_); rintro e w3 ⟨rfl, hw3⟩; clear y0 y1 y2 hbl; obtain ⟨y0, y1, y2⟩ := HBX.out w3 (HW2.out.then1 hw3); have hbl := World.block_lt_of_cell? _ _ y0; have HW3 := Lib.hid (HW2.out.then1 hw3); clear hw3)
        | (go_at_call 14; go_loud (refine (HR.out _ (HFB.out.then1 HW3.out)).mono ?_); rintro e w4 ⟨rfl, hw4⟩; clear y0 y1 y2 hbl; have HW4 := Lib.hid (HFB.out.then1 (HW3.out.then1 hw4)); clear hw4))
      go_ret
      exact ⟨rfl, HW4.out⟩
/-- In the row's order. -/
theorem packBytes_walk (w : World) (v : Value) (h : CauIn w v) : Calls Tryz.prog 3 #[v] w fun e w' => e = .returned (.bool true) ∧ Frm (fun _ => False) w w' := packBytes_law w v h
end Go.Proofs.YtafdclkpeomomaaGreat
