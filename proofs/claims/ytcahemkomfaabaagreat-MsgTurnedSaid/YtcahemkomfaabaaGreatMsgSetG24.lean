/- Words for the law MsgSet: MsgC, Trod, TreeOpen, CauOpen, Awake0, Make, Awake, Leaf, R8d. -/
import Derived.Test.YtcahemkomfaabaaGreatMsgSetG1
import Derived.Test.YtcahemkomfaabaaGreatMsgSetG8
import Derived.Test.YtcahemkomfaabaaGreatMsgSetG9
import Derived.Test.YtcahemkomfaabaaGreatMsgSetG11
import Derived.Test.YtcahemkomfaabaaGreatMsgSetG16
import Derived.Test.YtcahemkomfaabaaGreatMsgSetG18
import Derived.Test.YtcahemkomfaabaaGreatMsgSetG20
import Derived.Test.YtcahemkomfaabaaGreatMsgSetG21
import Derived.Test.YtcahemkomfaabaaGreatMsgSetG22
import Derived.Test.YtcahemkomfaabaaGreatMsgSetG23
import Derived.Deep.Strs
import Derived.ChangeArms
import Derived.ProofKit
import Derived.OpenShut
import Derived.ChangeSame
import Derived.SizedLaws
set_option linter.unusedSimpArgs false
set_option linter.unusedVariables false
set_option maxHeartbeats 32000000
set_option maxRecDepth 1000000
namespace Go.Proofs.YtcahemkomfaabaaGreat
open Go.RowKit
theorem mRight_any (Q : Nat → Prop) (bs : List BunP) (es : List Ent) (ks : KidsL) (c : CtxL) (w : World) (kind fr tt v0 v1 v2 v3 : Int) (lv ev kv cv : Value) (hb : BunsP Q w lv bs) (hbo : ∀ p ∈ bs, CauOk p.b.es p.b.ks p.b.c) (hbl : bs.length ≤ 100000) (h : CauAt Q w ev kv cv es ks c) (hok : CauOk es ks c) :
 Calls Tryz.prog 11 #[.agg #[.int .i64 kind, .int .i64 fr, .int .i64 tt, .int .i64 v0, .int .i64 v1, .int .i64 v2, .int .i64 v3, lv, ev, kv, cv]] w fun e w' => e = .returned (.bool (tf (MsgOk kind fr tt v0 v1 v2 v3 bs es ks c))) ∧ Frm NoS w w' := by
 have HBH := Lib.hid (fun W (f : Frm NoS w W) => bunHas_any Q bs W lv (hb.keep0 f) hbo hbl)
 have HST := Lib.hid (fun W (f : Frm NoS w W) => mstate_any Q es ks c W kind fr tt v0 v1 v2 v3 lv ev kv cv (hb.rd.sl.elim fun a h => h.elim fun n h => ⟨a, _, n, h⟩) (h.keep0 f) hok)
 have HFU := Lib.hid (fun W => cFull_any W v0 v1 v2 v3)
 unfold vecV at HFU
 have HC1 := Lib.hid (fun W => mcenter_any fr W)
 have HC2 := Lib.hid (fun W => mcenter_any tt W)
 obtain ⟨a0, c0, a1, c1, a2, c2, rfl, rfl, rfl⟩ := h.shape
 obtain ⟨al, cl, rfl⟩ := hb.rd.sl
 clear h hok hb hbo
 have HBX := Lib.hid (fun W f => box11 w (.int .i64 kind) (.int .i64 fr) (.int .i64 tt) (.int .i64 v0) (.int .i64 v1) (.int .i64 v2) (.int .i64 v3) (.slice al bs.length cl) (.slice a0 es.length c0) (.slice a1 ks.len c1) (.slice a2 c.length c2) 40 W f)
 have HDEF := Lib.hid (show MsgOk kind fr tt v0 v1 v2 v3 bs es ks c ↔ MayV (vecF v0 v1 v2 v3) ∧ (0 ≤ fr ∧ fr < 4) ∧ (0 ≤ tt ∧ tt < 4) ∧ fr ≠ tt ∧ ((kind = 1 ∧ (c.length = 0 ∧ es.length = 0 ∧ ks.len = 0) ∧ 1 ≤ bs.length ∧ bs.length ≤ 16 ∧ bs.any pW = false) ∨ (kind = 2 ∧ bs.length = 0 ∧ StOk v0 v1 v2 v3 es ks c) ∨ ((kind = 3 ∨ kind = 4) ∧ (c.length = 0 ∧ es.length = 0 ∧ ks.len = 0) ∧ bs.length = 0)) from Iff.rfl)
 generalize MsgOk kind fr tt v0 v1 v2 v3 bs es ks c = P at *
 generalize hSP : StOk v0 v1 v2 v3 es ks c = SP at *
 clear hSP
 generalize bs.any pW = hv at *
 generalize bs.length = ln at *
 generalize es.length = n at *
 generalize ks.len = m at *
 generalize c.length = k at *
 generalize vecF v0 v1 v2 v3 = f at *
 have HFA := Lib.hid (show Frm NoS w (w.alloc (.cells #[.int .i64 kind, .int .i64 fr, .int .i64 tt, .int .i64 v0, .int .i64 v1, .int .i64 v2, .int .i64 v3, .slice al ln cl, .slice a0 n c0, .slice a1 m c1, .slice a2 k c2] 40)) from Frm.alloc _ _ _)
 by_cases hm : MayV f
 rotate_left 1
 · rw [tf_false (show ¬ P from fun h => hm (HDEF.out.1 h).1)]
   have HM := Lib.hid hm
   clear hm HDEF
   go_enter Tryz.func11, Tryz.ntmps11
   go_wp2_with (first
    | (go_at_call 30; refine (HFU.out _).mono ?_; rintro e w1 ⟨hw1, -, hy⟩; have he := hy HM.out; subst he; clear hy; have HW1 := Lib.hid (HFA.out.then1 hw1); clear hw1))
   go_ret
   exact ⟨rfl, HW1.out⟩
 have HFO : ∀ W, Calls Tryz.prog 30 #[.agg #[.int .i64 v0, .int .i64 v1, .int .i64 v2, .int .i64 v3]] W fun e w1 => Frm NoS W w1 ∧ ∃ av nv cv, e = .returned (.tuple #[.slice av nv cv, .int .i64 0]) := fun W => (HFU.out W).mono fun e w1 q => by
  obtain ⟨hw1, hy, -⟩ := q
  obtain ⟨v', he, ho, -⟩ := hy hm
  obtain ⟨av, cv, rfl⟩ := ho.shape
  exact ⟨hw1, av, _, cv, he⟩
 have HM := Lib.hid hm; clear hm HFU
 have HFU := Lib.hid HFO; clear HFO
 by_cases h1 : 0 ≤ fr ∧ fr < 4
 rotate_left 1
 · rw [tf_false (show ¬ P from fun h => h1 (HDEF.out.1 h).2.1)]
   rw [decide_eq_false h1] at HC1
   clear h1 HDEF
   go_enter Tryz.func11, Tryz.ntmps11
   go_wp2_with (first
    | (go_at_call 30; refine (HFU.out _).mono ?_; rintro e w1 ⟨hw1, av, nv, cv, he⟩; subst he; obtain ⟨y0, y1, y2, y3, y4, y5, y6, y7, y8, y9, y10⟩ := HBX.out w1 hw1; have HW1 := Lib.hid (HFA.out.then1 hw1); clear hw1)
    | (go_at_call 31; (first | refine (HC1.out _).mono ?_ | refine (HC2.out _).mono ?_); rintro e w9 ⟨rfl, rfl⟩))
   go_ret
   exact ⟨rfl, HW1.out⟩
 rw [decide_eq_true h1] at HC1
 by_cases h2 : 0 ≤ tt ∧ tt < 4
 rotate_left 1
 · rw [tf_false (show ¬ P from fun h => h2 (HDEF.out.1 h).2.2.1)]
   rw [decide_eq_false h2] at HC2
   clear h1 h2 HDEF
   go_enter Tryz.func11, Tryz.ntmps11
   go_wp2_with (first
    | (go_at_call 30; refine (HFU.out _).mono ?_; rintro e w1 ⟨hw1, av, nv, cv, he⟩; subst he; obtain ⟨y0, y1, y2, y3, y4, y5, y6, y7, y8, y9, y10⟩ := HBX.out w1 hw1; have HW1 := Lib.hid (HFA.out.then1 hw1); clear hw1)
    | (go_at_call 31; (first | refine (HC1.out _).mono ?_ | refine (HC2.out _).mono ?_); rintro e w9 ⟨rfl, rfl⟩))
   go_ret
   exact ⟨rfl, HW1.out⟩
 rw [decide_eq_true h2] at HC2
 by_cases h3 : fr = tt
 · rw [tf_false (show ¬ P from fun h => (HDEF.out.1 h).2.2.2.1 h3)]
   have h3' : ((fr : Int) == tt) = true := by rw [h3]; exact beq_self_eq_true _
   clear h1 h2 h3 HDEF
   go_enter Tryz.func11, Tryz.ntmps11
   go_wp2_with (first
    | (go_at_call 30; refine (HFU.out _).mono ?_; rintro e w1 ⟨hw1, av, nv, cv, he⟩; subst he; obtain ⟨y0, y1, y2, y3, y4, y5, y6, y7, y8, y9, y10⟩ := HBX.out w1 hw1; have HW1 := Lib.hid (HFA.out.then1 hw1); clear hw1)
    | (go_at_call 31; (first | refine (HC1.out _).mono ?_ | refine (HC2.out _).mono ?_); rintro e w9 ⟨rfl, rfl⟩))
   go_ret
   exact ⟨rfl, HW1.out⟩
 have X : MCtx P SP hv ln n m k kind fr tt v0 v1 v2 v3 al a0 a1 a2 cl c0 c1 c2 w := ⟨HBH.out, HST.out, HFU.out, HC1.out, HC2.out, HBX.out, h3, ⟨fun h => (HDEF.out.1 h).2.2.2.2, fun h => HDEF.out.2 ⟨HM.out, h1, h2, h3, h⟩⟩⟩
 by_cases hk : k = 0
 rotate_left 1
 · exact mRight_p1 X hk
 by_cases hn : n = 0
 rotate_left 1
 · exact mRight_p2 X hk hn
 by_cases hm : m = 0
 rotate_left 1
 · exact mRight_p3 X hk hn hm
 exact mRight_p4 X hk hn hm
theorem list_of_lt {α : Type} [Inhabited α] {n : Nat} {p : Nat → α → Prop} (h : ∀ i, i < n → ∃ x, p i x) : ∃ l : List α, l.length = n ∧ ∀ i, i < n → ∀ d, p i (l.getD i d) := by
 obtain ⟨f, hf⟩ := Go.Deep.choose_lt h
 refine ⟨(List.range n).map f, by simp, fun i hi d => ?_⟩
 have : ((List.range n).map f).getD i d = f i := by simp [List.getD, hi]
 rw [this]
 exact hf i hi
section
variable {H : Type} {enc : TypeId × Value → H} {P : Program} {w : World} {base : Nat} {sp : Nat → Bool} {held : Bool}
theorem open_arr {t e sz : Nat} {a0 : Option Addr} {len cap : Nat} {d : DataW H × List MemPlace} {fuel : Nat} (ht : P.underlying t = some (.slice e)) (hsz : P.cellsOf e = sz) (hpos : 0 < sz) (hsp : ∀ b, sp b = true)
 (h : DataW.trod enc P w base sp held fuel t [.slice a0 len cap] = some d) :
 (len = 0 ∧ cap = 0) ∨ ∃ b off, a0 = some ⟨b, off, none⟩ ∧ len ≤ cap ∧ cap ≤ maxLen ∧
  ∃ n, ∀ k, k < len → ∃ cs : List Value, cs.length = sz ∧ (∀ j u, cs[j]? = some u → w.cell? ⟨b, off + k * sz + j, none⟩ = some u) ∧ ∃ y, DataW.trod enc P w base sp held n e cs = some y := by
 rcases Go.Deep.open_slice ht h with ⟨hcs, _⟩ | ⟨a, len', cap', m, n, D, Pl, hcs, _, hl, hm, hmm, _, hel⟩
 · left
   simp only [List.cons.injEq, Value.slice.injEq, and_true] at hcs
   exact ⟨hcs.2.1, hcs.2.2⟩
 · simp only [List.cons.injEq, Value.slice.injEq, and_true] at hcs
   obtain ⟨rfl, rfl, rfl⟩ := hcs
   rw [hsp] at hmm
   simp only [if_true] at hmm
   subst hmm
   subst hsz
   rcases Nat.eq_zero_or_pos m with h0 | h0
   · left; omega
   · right
     obtain ⟨b, off, spot⟩ := a
     have hspot : spot = none := by
      obtain ⟨cs', hc, _⟩ := hel 0 h0
      obtain ⟨_, hlen, hcells⟩ := World.cells?_some hc
      have h00 : cs'[0]? = some (cs'[0]'(by omega)) := List.getElem?_eq_getElem _
      have := hcells 0 (by omega)
      rw [h00] at this
      have hs := World.cell?_spot this
      simpa [Addr.add] using hs
     subst hspot
     refine ⟨b, off, rfl, hl, hm, n, fun k hk => ?_⟩
     obtain ⟨cs', hc, ht'⟩ := hel k (by omega)
     obtain ⟨_, hlen, hcells⟩ := World.cells?_some hc
     refine ⟨cs', hlen, fun j u hu => ?_, _, ht'⟩
     have hj : j < P.cellsOf e := by rw [← hlen]; exact (List.getElem?_eq_some_iff.1 hu).1
     have := hcells j hj
     rw [addr_add, addr_add] at this
     rw [this, hu]
end
end Go.Proofs.YtcahemkomfaabaaGreat
namespace Go.Proofs.YtcahemkomfaabaaGreat
open Go.RowKit Go.WideShapes
theorem flatMap_get {α : Type} (f : α → List Value) (k : Nat) (hk : 0 < k) (hf : ∀ x, (f x).length = k) (d : α) : ∀ (l : List α) (j : Nat) (u : Value), (l.flatMap f)[j]? = some u → j / k < l.length ∧ (f (l.getD (j / k) d))[j % k]? = some u
 | [], j, u, h => by simp at h
 | x :: l, j, u, h => by
  rw [List.flatMap_cons] at h
  by_cases hj : j < k
  · rw [List.getElem?_append_left (by rw [hf]; exact hj)] at h
    rw [Nat.div_eq_of_lt hj, Nat.mod_eq_of_lt hj]
    exact ⟨Nat.zero_lt_succ _, h⟩
  · rw [List.getElem?_append_right (by rw [hf]; omega), hf] at h
    obtain ⟨h1, h2⟩ := flatMap_get f k hk hf d l (j - k) u h
    have e1 : j / k = (j - k) / k + 1 := by rw [Nat.div_eq_sub_div hk (by omega)]
    have e2 : j % k = (j - k) % k := Nat.mod_eq_sub_mod (by omega)
    rw [e1, e2]
    exact ⟨by simpa using h1, by simpa using h2⟩
theorem split_at (j k : Nat) (off : Nat) : off + j / k * k + j % k = off + j := by
 have := Nat.div_add_mod j k
 rw [Nat.mul_comm] at this
 omega
theorem weightsAll_mem {H : Type} {P : Program} {e : TypeId} : ∀ {l : List (DataW H)} {y : DataW H}, y ∈ l → ∀ n ∈ y.weights P e, n ∈ DataW.weightsAll P e l
 | d :: l, y, h, n, hn => by
  rw [DataW.weightsAll, List.mem_append]
  rcases List.mem_cons.1 h with rfl | h
  · exact .inl hn
  · exact .inr (weightsAll_mem h n hn)
theorem wfInt {x : Int} (h : (Lit.int .i64 x).wf = true) : -9223372036854775808 ≤ x ∧ x ≤ 9223372036854775807 := by
 simp only [Lit.wf, IntKind.min, IntKind.max, IntKind.signed, IntKind.bits] at h
 simpa using h
section
variable {H : Type} {enc : TypeId × Value → H} {P : Program} {w : World}
theorem open_arr2 {t e sz by_ : Nat} {a0 : Option Addr} {len cap : Nat} {x : DataW H × List MemPlace} {fuel : Nat} (ht : P.underlying t = some (.slice e)) (hsz : P.cellsOf e = sz) (hpos : 0 < sz) (hby : P.bytesOf e = by_)
 (h : DataW.trod enc P w 0 (fun _ => true) true fuel t [.slice a0 len cap] = some x) (hw : ∀ n ∈ x.1.weights P t, n ≤ reachBytes) :
 (len = 0 ∧ cap = 0) ∨ ∃ b off n, a0 = some ⟨b, off, none⟩ ∧ len ≤ cap ∧ cap ≤ maxLen ∧ fuel = n + 1 ∧ len * by_ ≤ reachBytes ∧
  ∀ k, k < len → ∃ cs : List Value, cs.length = sz ∧ (∀ j u, cs[j]? = some u → w.cell? ⟨b, off + k * sz + j, none⟩ = some u) ∧ ∃ y, DataW.trod enc P w 0 (fun _ => true) true n e cs = some y ∧ ∀ n ∈ y.1.weights P e, n ≤ reachBytes := by
 rcases open_arr ht hsz hpos (fun _ => rfl) h with h0 | ⟨b, off, rfl, hl, hm, _⟩
 · exact .inl h0
 right
 rcases DataW.trod_slice ht h with ⟨hcs, _⟩ | ⟨a, len', cap', elems, rest, n, hfuel, hcs, rfl, _, _, _, hlen, hel, hsp, _⟩
 · simp at hcs
 simp only [List.cons.injEq, Value.slice.injEq, Option.some.injEq, and_true] at hcs
 obtain ⟨rfl, rfl, rfl⟩ := hcs
 subst hsz
 subst hby
 simp only [DataW.weights, ht] at hw
 refine ⟨b, off, n, rfl, hl, hm, hfuel, ?_, fun k hk => ?_⟩
 · have h1 := hw _ List.mem_cons_self
   simp only [List.length_map] at h1
   rw [hlen] at h1
   exact Nat.le_trans (Nat.mul_le_mul_right _ (Nat.le_add_right _ _)) h1
 · have hke : k < elems.length := by omega
   have h1 := hel k hk
   rw [List.getElem?_eq_getElem hke, Option.bind_eq_some_iff] at h1
   obtain ⟨cs', hc, ht'⟩ := h1
   obtain ⟨_, hcl, hcells⟩ := World.cells?_some hc
   refine ⟨cs', hcl, fun j u hu => ?_, _, ht', fun m hm => ?_⟩
   · have hj : j < P.cellsOf e := by rw [← hcl]; exact (List.getElem?_eq_some_iff.1 hu).1
     have := hcells j hj
     rw [addr_add, addr_add] at this
     rw [this, hu]
   · refine hw m (List.mem_cons_of_mem _ (List.mem_append_left _ (weightsAll_mem (y := elems[k].1) ?_ m hm)))
     exact List.mem_map.2 ⟨_, List.getElem_mem hke, rfl⟩
theorem slice_of_trod {t e : Nat} {c : Value} {x : DataW H × List MemPlace} {fuel : Nat} (ht : P.underlying t = some (.slice e)) (h : DataW.trod enc P w 0 (fun _ => true) true fuel t [c] = some x) : ∃ a l k, c = .slice a l k := by
 rcases DataW.trod_slice ht h with ⟨hcs, _⟩ | ⟨a, len', cap', elems, rest, n, hfuel, hcs, _⟩
 · simp at hcs; exact ⟨_, _, _, hcs⟩
 · simp at hcs; exact ⟨_, _, _, hcs⟩
end
section
variable {H : Type} {enc : TypeId × Value → H} {w : World}
theorem Tryz.cells_entry : Tryz.prog.cellsOf 170 = 4 := by kernel_rfl
theorem Tryz.bytes_entry : Tryz.prog.bytesOf 170 = 40 := by kernel_rfl
theorem Tryz.cells_kid : Tryz.prog.cellsOf 172 = 3 := by kernel_rfl
theorem Tryz.bytes_kid : Tryz.prog.bytesOf 172 = 64 := by kernel_rfl
theorem Tryz.cells_dot : Tryz.prog.cellsOf 168 = 2 := by kernel_rfl
theorem Tryz.cells_span : Tryz.prog.cellsOf 122 = 3 := by kernel_rfl
theorem Tryz.bytes_span : Tryz.prog.bytesOf 122 = 24 := by kernel_rfl
theorem Tryz.cells_I : Tryz.prog.cellsOf 3 = 1 := by kernel_rfl
theorem Tryz.cells_I64 : Tryz.prog.cellsOf 2 = 1 := by kernel_rfl
theorem Tryz.cells_S : Tryz.prog.cellsOf 9 = 1 := by kernel_rfl
instance : Inhabited Ent := ⟨Ent.zero⟩
instance : Inhabited KidsL := ⟨.nil⟩
theorem entC_get (l : List Ent) (j : Nat) (u : Value) (h : (entC l)[j]? = some u) : j / 4 < l.length ∧ (l.getD (j / 4) Ent.zero).cells[j % 4]? = some u := flatMap_get Ent.cells 4 (by decide) (fun _ => rfl) Ent.zero l j u h
theorem ent_of_trod {n : Nat} {cs : List Value} {y : DataW H × List MemPlace} (hl : cs.length = 4) (h : DataW.trod enc Tryz.prog w 0 (fun _ => true) true n 170 cs = some y) : ∃ e : Ent, cs = e.cells ∧ e.fits := by
 obtain ⟨c0, c1, c2, c3, rfl⟩ : ∃ c0 c1 c2 c3, cs = [c0, c1, c2, c3] := by
  match cs, hl with
  | [c0, c1, c2, c3], _ => exact ⟨c0, c1, c2, c3, rfl⟩
 obtain ⟨y0, y1, y2, m, _, _, g0, g1, g2⟩ := Go.Deep.trod_struct3 Tryz.underlying170 h
 rw [Tryz.cells_dot] at g0
 rw [Tryz.cells_S] at g1
 rw [Tryz.cells_I64] at g2
 obtain ⟨z0, z1, m2, _, _, k0, k1⟩ := Go.ChangeShapes.trod_struct2 Tryz.underlying168 g0
 rw [Tryz.cells_I] at k0
 rw [Tryz.cells_I64] at k1
 obtain ⟨d, e0, _, w0⟩ := DataW.trod_int Tryz.underlying3 k0
 obtain ⟨x, e1, _, w1⟩ := DataW.trod_int Tryz.underlying2 k1
 obtain ⟨s, e2, _, hs⟩ := DataW.trod_string Tryz.underlying9 g1
 obtain ⟨z, e3, _, w3⟩ := DataW.trod_int Tryz.underlying2 g2
 simp at e0 e1 e2 e3
 subst e0 e1 e2 e3
 exact ⟨⟨d, x, s, z⟩, rfl, wfInt w0, wfInt w1, wfInt w3, by simp only [maxLen] at hs; omega⟩
theorem open_ents {fuel : Nat} {c : Value} {x : DataW H × List MemPlace} (h : DataW.trod enc Tryz.prog w 0 (fun _ => true) true fuel 25 [c] = some x) (hw : ∀ n ∈ x.1.weights Tryz.prog 25, n ≤ reachBytes) :
 ∃ es : List Ent, RdQ (fun _ => True) w c es.length (entC es) ∧ EsOk es := by
 obtain ⟨a0, len, cap, rfl⟩ := slice_of_trod Tryz.underlying25 h
 rcases open_arr2 Tryz.underlying25 Tryz.cells_entry (by decide) Tryz.bytes_entry h hw with ⟨rfl, rfl⟩ | ⟨b, off, n, rfl, h1, h2, _, h3, hel⟩
 · exact ⟨[], ⟨.inl ⟨a0, rfl, rfl, rfl⟩, fun _ _ _ => trivial⟩, by simp, by simp⟩
 · have hx : ∀ k, k < len → ∃ e : Ent, (∀ j u, e.cells[j]? = some u → w.cell? ⟨b, off + k * 4 + j, none⟩ = some u) ∧ e.fits := fun k hk => by
    obtain ⟨cs, hl, hc, y, hy, _⟩ := hel k hk
    obtain ⟨e, rfl, hf⟩ := ent_of_trod hl hy
    exact ⟨e, hc, hf⟩
   obtain ⟨l, hl, hlp⟩ := list_of_lt hx
   have hlen : l.length ≤ 140737488351232 := by unfold reachBytes at h3; omega
   refine ⟨l, ⟨.inr ⟨b, off, cap, by rw [hl], by omega, h2, fun j u hu => ?_⟩, fun _ _ _ => trivial⟩, hlen, fun e he => ?_⟩
   · obtain ⟨g1, g2⟩ := entC_get l j u hu
     have := (hlp (j / 4) (by omega) Ent.zero).1 (j % 4) u g2
     rwa [split_at] at this
   · obtain ⟨k, hk, rfl⟩ := List.getElem_of_mem he
     have := (hlp k (by omega) Ent.zero).2
     rwa [getD_at Ent.zero hk] at this
theorem open_tree : ∀ (fuel : Nat) (ev kv : Value) (x : DataW H × List MemPlace), DataW.trod enc Tryz.prog w 0 (fun _ => true) true fuel 28 [ev, kv] = some x → (∀ n ∈ x.1.weights Tryz.prog 28, n ≤ reachBytes) →
 ∃ es ks, TreeAt (fun _ => True) w ev kv es ks ∧ TrOk es ks := by
 intro fuel
 induction fuel using Nat.strongRecOn with
 | _ fuel ih =>
  intro ev kv x h hw
  obtain ⟨xs, n, hn, rfl, _, hxl, hf⟩ := DataW.trod_struct Tryz.underlying28 h
  obtain ⟨y0, y1, rfl⟩ : ∃ y0 y1, xs = [y0, y1] := by
   match xs, hxl with
   | [y0, y1], _ => exact ⟨y0, y1, rfl⟩
  have g0 := hf 0 _ rfl
  have g1 := hf 1 _ rfl
  have g0 : DataW.trod enc Tryz.prog w 0 (fun _ => true) true n 25 [ev] = some y0 := g0
  have g1 : DataW.trod enc Tryz.prog w 0 (fun _ => true) true n 26 [kv] = some y1 := g1
  have hw2 : ∀ m ∈ y0.1.weights Tryz.prog 25 ++ (y1.1.weights Tryz.prog 26 ++ []), m ≤ reachBytes := fun m hm => hw m (by
   simp only [List.map_cons, List.map_nil, DataW.weights, Tryz.underlying28]
   exact hm)
  obtain ⟨es, he, hok⟩ := open_ents g0 fun m hm => hw2 m (List.mem_append_left _ hm)
  have hw3 : ∀ m ∈ y1.1.weights Tryz.prog 26, m ≤ reachBytes := fun m hm => hw2 m (List.mem_append_right _ (List.mem_append_left _ hm))
  obtain ⟨a0, len, cap, rfl⟩ := slice_of_trod Tryz.underlying26 g1
  rcases open_arr2 Tryz.underlying26 Tryz.cells_kid (by decide) Tryz.bytes_kid g1 hw3 with ⟨rfl, rfl⟩ | ⟨b, off, n2, rfl, h1, h2, hn2, h3, hel⟩
  · exact ⟨es, .nil, ⟨he, [], ⟨.inl ⟨a0, rfl, rfl, rfl⟩, fun _ _ _ => trivial⟩, rfl⟩, hok, by decide, trivial⟩
  · have hx : ∀ k, k < len → ∃ q : KidQ, (∀ j u, q.cells[j]? = some u → w.cell? ⟨b, off + k * 3 + j, none⟩ = some u) ∧ TreeAt (fun _ => True) w q.ev q.kv q.es q.sub ∧ q.key.size ≤ 9223372036854775807 ∧ TrOk q.es q.sub := fun k hk => by
     obtain ⟨cs, hl, hc, y, hy, hyw⟩ := hel k hk
     obtain ⟨c0, c1, c2, rfl⟩ : ∃ c0 c1 c2, cs = [c0, c1, c2] := by
      match cs, hl with
      | [c0, c1, c2], _ => exact ⟨c0, c1, c2, rfl⟩
     obtain ⟨zs, n3, hn3, rfl, _, hzl, hg⟩ := DataW.trod_struct Tryz.underlying172 hy
     obtain ⟨z0, z1, rfl⟩ : ∃ z0 z1, zs = [z0, z1] := by
      match zs, hzl with
      | [z0, z1], _ => exact ⟨z0, z1, rfl⟩
     have k0 := hg 0 _ rfl
     have k1 := hg 1 _ rfl
     have k0 : DataW.trod enc Tryz.prog w 0 (fun _ => true) true n3 9 [c0] = some z0 := k0
     have k1 : DataW.trod enc Tryz.prog w 0 (fun _ => true) true n3 28 [c1, c2] = some z1 := k1
     have hyw2 : ∀ m ∈ z0.1.weights Tryz.prog 9 ++ (z1.1.weights Tryz.prog 28 ++ []), m ≤ reachBytes := fun m hm => hyw m (by
      simp only [List.map_cons, List.map_nil, DataW.weights, Tryz.underlying172]
      exact hm)
     obtain ⟨s, e2, _, hs⟩ := DataW.trod_string Tryz.underlying9 k0
     simp at e2
     subst e2
     obtain ⟨es', ks', ht, hok'⟩ := ih n3 (by omega) c1 c2 z1 k1 fun m hm => hyw2 m (List.mem_append_right _ (List.mem_append_left _ hm))
     exact ⟨⟨s, es', ks', c1, c2⟩, hc, ht, by simp only [maxLen] at hs; show s.size ≤ _; omega, hok'⟩
    obtain ⟨l, hl, hlp⟩ := list_of_lt hx
    have hq : ∀ q ∈ l, TreeAt (fun _ => True) w q.ev q.kv q.es q.sub ∧ q.key.size ≤ 9223372036854775807 ∧ TrOk q.es q.sub := fun q hq => by
     obtain ⟨k, hk, rfl⟩ := List.getElem_of_mem hq
     have := (hlp k (by omega) default).2
     rwa [getD_at default hk] at this
    refine ⟨es, mkK l, ⟨he, outK l, ⟨.inr ⟨b, off, cap, by rw [mkK_len, hl], by rw [mkK_len]; omega, h2, fun j u hu => ?_⟩, fun _ _ _ => trivial⟩, mkK_for fun q h => (hq q h).1⟩, hok, by rw [mkK_len, hl]; unfold reachBytes at h3; omega, mkK_ok fun q h => (hq q h).2⟩
    rw [mkK_cells] at hu
    obtain ⟨g1, g2⟩ := flatMap_get KidQ.cells 3 (by decide) (fun _ => rfl) default l j u hu
    have := (hlp (j / 3) (by omega) default).1 (j % 3) u g2
    rwa [split_at] at this
theorem spC_get (l : CtxL) (j : Nat) (u : Value) (h : (spC l)[j]? = some u) : j / 3 < l.length ∧ ([.int .i64 (l.getD (j / 3) (0, 0, 0)).1, .int .i64 (l.getD (j / 3) (0, 0, 0)).2.1, .int .i64 (l.getD (j / 3) (0, 0, 0)).2.2] : List Value)[j % 3]? = some u :=
 flatMap_get (fun s : Int × Int × Int => [.int .i64 s.1, .int .i64 s.2.1, .int .i64 s.2.2]) 3 (by decide) (fun _ => rfl) (0, 0, 0) l j u h
theorem open_ctx {fuel : Nat} {c : Value} {x : DataW H × List MemPlace} (h : DataW.trod enc Tryz.prog w 0 (fun _ => true) true fuel 30 [c] = some x) (hw : ∀ n ∈ x.1.weights Tryz.prog 30, n ≤ reachBytes) :
 ∃ l : CtxL, CtxAt w c l ∧ FitsC l ∧ l.length ≤ 140737488351232 := by
 obtain ⟨a0, len, cap, rfl⟩ := slice_of_trod Tryz.underlying30 h
 rcases open_arr2 Tryz.underlying30 Tryz.cells_span (by decide) Tryz.bytes_span h hw with ⟨rfl, rfl⟩ | ⟨b, off, n, rfl, h1, h2, _, h3, hel⟩
 · exact ⟨[], .inl ⟨a0, rfl, rfl, rfl⟩, (fun s hs => by cases hs), Nat.zero_le _⟩
 · have hx : ∀ k, k < len → ∃ s : Int × Int × Int, (∀ j u, ([.int .i64 s.1, .int .i64 s.2.1, .int .i64 s.2.2] : List Value)[j]? = some u → w.cell? ⟨b, off + k * 3 + j, none⟩ = some u) ∧ (-9223372036854775808 ≤ s.1 ∧ s.1 ≤ 9223372036854775807 ∧ -9223372036854775808 ≤ s.2.1 ∧ s.2.1 ≤ 9223372036854775807 ∧ -9223372036854775808 ≤ s.2.2 ∧ s.2.2 ≤ 9223372036854775807) := fun k hk => by
    obtain ⟨cs, hl, hc, y, hy, _⟩ := hel k hk
    obtain ⟨c0, c1, c2, rfl⟩ : ∃ c0 c1 c2, cs = [c0, c1, c2] := by
     match cs, hl with
     | [c0, c1, c2], _ => exact ⟨c0, c1, c2, rfl⟩
    obtain ⟨y0, y1, y2, m, _, _, g0, g1, g2⟩ := Go.Deep.trod_struct3 Tryz.underlying122 hy
    rw [Tryz.cells_I] at g0
    rw [Tryz.cells_I64] at g1 g2
    obtain ⟨p, e0, _, w0⟩ := DataW.trod_int Tryz.underlying3 g0
    obtain ⟨q, e1, _, w1⟩ := DataW.trod_int Tryz.underlying2 g1
    obtain ⟨r, e2, _, w2⟩ := DataW.trod_int Tryz.underlying2 g2
    simp at e0 e1 e2
    subst e0 e1 e2
    exact ⟨(p, q, r), hc, (wfInt w0).1, (wfInt w0).2, (wfInt w1).1, (wfInt w1).2, (wfInt w2).1, (wfInt w2).2⟩
   obtain ⟨l, hl, hlp⟩ := list_of_lt hx
   refine ⟨l, .inr ⟨b, off, cap, by rw [hl], by omega, h2, fun j u hu => ?_⟩, fun s hs => ?_, by unfold reachBytes at h3; omega⟩
   · obtain ⟨g1, g2⟩ := spC_get l j u hu
     have := (hlp (j / 3) (by omega) (0, 0, 0)).1 (j % 3) u g2
     rwa [split_at] at this
   · obtain ⟨k, hk, rfl⟩ := List.getElem_of_mem hs
     have := (hlp k (by omega) (0, 0, 0)).2
     rwa [getD_at (0, 0, 0) hk] at this
end
end Go.Proofs.YtcahemkomfaabaaGreat
namespace Go.Proofs.YtcahemkomfaabaaGreat
open Go.RowKit Go.WideShapes Go.ChangeShapes
theorem sized_at {H : Type} {P : Program} {ts us : List TypeId} {ds gs : List (DataW H)} (h : (DataW.weightsEach P (ts ++ us) (ds ++ gs)).all (· ≤ reachBytes) = true) {j : Nat} {t : TypeId} {d : DataW H} (ht : ts[j]? = some t) (hd : ds[j]? = some d) :
 ∀ n ∈ d.weights P t, n ≤ reachBytes := fun n hn => by
 have h1 : (ts ++ us)[j]? = some t := by rw [List.getElem?_append_left (List.getElem?_eq_some_iff.1 ht).1]; exact ht
 have h2 : (ds ++ gs)[j]? = some d := by rw [List.getElem?_append_left (List.getElem?_eq_some_iff.1 hd).1]; exact hd
 simpa using List.all_eq_true.1 h n (DataW.weights_mem_each h1 h2 n hn)
section
variable {H : Type} {enc : TypeId × Value → H} {w : World}
theorem open_causal {fuel : Nat} {ev kv cv : Value} {x : DataW H × List MemPlace} (h : DataW.trod enc Tryz.prog w 0 (fun _ => true) true fuel 32 [ev, kv, cv] = some x) (hw : ∀ n ∈ x.1.weights Tryz.prog 32, n ≤ reachBytes) :
 ∃ es ks c, CauAt (fun _ => True) w ev kv cv es ks c ∧ TrOk es ks ∧ FitsC c ∧ c.length ≤ 140737488351232 := by
 obtain ⟨xs, n, hn, rfl, _, hxl, hf⟩ := DataW.trod_struct Tryz.underlying32 h
 obtain ⟨y0, y1, rfl⟩ : ∃ y0 y1, xs = [y0, y1] := by
  match xs, hxl with
  | [y0, y1], _ => exact ⟨y0, y1, rfl⟩
 have g0 := hf 0 _ rfl
 have g1 := hf 1 _ rfl
 have g0 : DataW.trod enc Tryz.prog w 0 (fun _ => true) true n 28 [ev, kv] = some y0 := g0
 have g1 : DataW.trod enc Tryz.prog w 0 (fun _ => true) true n 30 [cv] = some y1 := g1
 have hw2 : ∀ m ∈ y0.1.weights Tryz.prog 28 ++ (y1.1.weights Tryz.prog 30 ++ []), m ≤ reachBytes := fun m hm => hw m (by
  simp only [List.map_cons, List.map_nil, DataW.weights, Tryz.underlying32]
  exact hm)
 obtain ⟨es, ks, h1, h2⟩ := open_tree _ ev kv _ g0 fun m hm => hw2 m (List.mem_append_left _ hm)
 obtain ⟨c, h3, h4, h5⟩ := open_ctx g1 fun m hm => hw2 m (List.mem_append_right _ (List.mem_append_left _ hm))
 exact ⟨es, ks, c, ⟨h1, h3⟩, h2, h4, h5⟩
end
abbrev LeafL := List (Value × Ent)
def lfC (l : LeafL) : List Value := l.flatMap fun x => x.1 :: x.2.cells
def lfE (p : Value) (es : List Ent) : LeafL := es.map fun e => (p, e)
def dotsL (l : LeafL) : RunL := l.map fun x => (x.2.dc, x.2.n)
def OneL (l : LeafL) : Prop := ∀ x ∈ l, x.1.oneCell' = true
theorem lfC_append (a b : LeafL) : lfC (a ++ b) = lfC a ++ lfC b := by simp [lfC]
theorem lfC_cons (x : Value × Ent) (l : LeafL) : lfC (x :: l) = x.1 :: .int .i64 x.2.dc :: .int .i64 x.2.n :: .string x.2.s :: .int .i64 x.2.k :: lfC l := rfl
theorem lfC_length : ∀ l : LeafL, (lfC l).length = l.length * 5
 | [] => rfl
 | x :: l => by rw [lfC_cons]; simp only [List.length_cons, lfC_length l]; omega
theorem lfC_oneCell {l : LeafL} (h : OneL l) : ∀ v ∈ lfC l, v.oneCell' = true := by
 intro v hv
 simp only [lfC, List.mem_flatMap] at hv
 obtain ⟨x, hx, hv⟩ := hv
 rcases List.mem_cons.1 hv with rfl | hv
 · exact h x hx
 · simp [Ent.cells] at hv
   rcases hv with rfl | rfl | rfl | rfl <;> rfl
theorem lfC_at : ∀ (l : LeafL) (k : Nat), k < l.length → (lfC l)[k * 5 + 1]? = some (.int .i64 (l.getD k (.bool true, Ent.zero)).2.dc) ∧ (lfC l)[k * 5 + 2]? = some (.int .i64 (l.getD k (.bool true, Ent.zero)).2.n)
 | [], _, h => by cases h
 | x :: l, 0, _ => ⟨rfl, rfl⟩
 | x :: l, k + 1, h => by
  obtain ⟨h1, h2⟩ := lfC_at l k (by simpa using h)
  rw [lfC_cons, show (k + 1) * 5 + 1 = (k * 5 + 1) + 1 + 1 + 1 + 1 + 1 by omega, show (k + 1) * 5 + 2 = (k * 5 + 2) + 1 + 1 + 1 + 1 + 1 by omega]
  exact ⟨h1, h2⟩
theorem lf_at {w : World} {b off c n : Nat} {l : LeafL} (h : Rd w (.slice (some ⟨b, off, none⟩) n c) n (lfC l)) (k : Nat) (hk : k < l.length) :
 w.cell? ⟨b, off + k * 5 + 1, none⟩ = some (.int .i64 (l.getD k (.bool true, Ent.zero)).2.dc) ∧ w.cell? ⟨b, off + k * 5 + 2, none⟩ = some (.int .i64 (l.getD k (.bool true, Ent.zero)).2.n) := by
 obtain ⟨h1, h2⟩ := lfC_at l k hk
 exact ⟨h.cell (k * 5 + 1) _ h1, h.cell (k * 5 + 2) _ h2⟩
theorem dotsL_take_succ {l : LeafL} {k : Nat} (hk : k < l.length) : dotsL (l.take (k + 1)) = dotsL (l.take k) ++ [((l.getD k (.bool true, Ent.zero)).2.dc, (l.getD k (.bool true, Ent.zero)).2.n)] := by
 rw [take_succ (.bool true, Ent.zero) hk]; simp [dotsL]
theorem dotsL_append (a b : LeafL) : dotsL (a ++ b) = dotsL a ++ dotsL b := by simp [dotsL]
theorem dotsL_length (l : LeafL) : (dotsL l).length = l.length := by simp [dotsL]
theorem dotsL_lfE (p : Value) (es : List Ent) : dotsL (lfE p es) = dotsE es := by simp [dotsL, lfE, dotsE]
theorem lfE_length (p : Value) (es : List Ent) : (lfE p es).length = es.length := by simp [lfE]
theorem OneL.lfE {p : Value} (h : p.oneCell' = true) (es : List Ent) : OneL (lfE p es) := fun x hx => by
 obtain ⟨e, _, rfl⟩ := List.mem_map.1 hx
 exact h
theorem OneL.append {a b : LeafL} (ha : OneL a) (hb : OneL b) : OneL (a ++ b) := fun x hx => (List.mem_append.1 hx).elim (ha x) (hb x)
theorem lfE_take_succ {p : Value} {es : List Ent} {k : Nat} (hk : k < es.length) : lfC (lfE p (es.take (k + 1))) = lfC (lfE p (es.take k)) ++ [p, .int .i64 (es.getD k Ent.zero).dc, .int .i64 (es.getD k Ent.zero).n, .string (es.getD k Ent.zero).s, .int .i64 (es.getD k Ent.zero).k] := by
 rw [take_succ Ent.zero hk, show lfE p (es.take k ++ [es.getD k Ent.zero]) = lfE p (es.take k) ++ [(p, es.getD k Ent.zero)] by simp [lfE], lfC_append]
 rfl
def stV (l : List ByteArray) : List Value := l.map .string
theorem stV_append (a b : List ByteArray) : stV (a ++ b) = stV a ++ stV b := by simp [stV]
@[simp] theorem stV_length (l : List ByteArray) : (stV l).length = l.length := by simp [stV]
theorem stV_oneCell (l : List ByteArray) : ∀ v ∈ stV l, v.oneCell' = true := by
 intro v hv
 simp only [stV, List.mem_map] at hv
 obtain ⟨r, _, rfl⟩ := hv
 rfl
theorem info_leaf : (Tryz.prog.info? 181).map (fun i => (i.zero, i.size, i.bytes)) = some (some (.agg #[.slice none 0 0, .int .i64 0, .int .i64 0, .string ByteArray.empty, .int .i64 0]), 5, 64) := by kernel_rfl
theorem info_string : (Tryz.prog.info? 9).map (fun i => (i.zero, i.size, i.bytes)) = some (some (.string ByteArray.empty), 1, 16) := by kernel_rfl
def BelowPost (w : World) (es : List Ent) (ks : KidsL) (e : Ending) (w' : World) : Prop :=
 ∃ (v' : Value) (l : LeafL), e = .returned v' ∧ OwnAt w w' 181 5 v' l.length (lfC l) ∧ dotsL l = dotsT es ks ∧ OneL l
theorem r8below_any (Q : Nat → Prop) : ∀ (N : Nat) (es : List Ent) (ks : KidsL) (w : World) (ev kv pv : Value) (pl : List ByteArray), sizeK ks < N → TreeAt Q w ev kv es ks → sizeT es ks ≤ 100000 → Rd w pv pl.length (stV pl) → pl.length + N ≤ 200000 →
 Calls Tryz.prog 155 #[.agg #[ev, kv], pv] w (BelowPost w es ks) := by
 intro N
 induction N with
 | zero => intros; exfalso; omega
 | succ N IHN =>
  intro es ks w ev kv pv pl hN ht hsz hp hpl
  obtain ⟨i0, hi, hz0, hz1, hz2⟩ := info_parts info_leaf
  obtain ⟨j0, hji, hy0, hy1, hy2⟩ := info_parts info_string
  obtain ⟨ae, ce, rfl⟩ := ht.ents.rd.sl
  obtain ⟨os, hkr, hfor⟩ := ht.kids
  obtain ⟨ak, ck, rfl⟩ := hkr.rd.sl
  obtain ⟨ap, cp, rfl⟩ := hp.sl
  have HP := Lib.hid hp; clear hp
  have HE := Lib.hid ht.ents.rd
  have HKR := Lib.hid hkr.rd; clear hkr ht
  have HFOR := Lib.hid hfor; clear hfor
  have IH := Lib.hid IHN; clear IHN
  have HWB := Lib.hid (Frm.alloc NoS w (.cells #[.slice ae es.length ce, .slice ak ks.len ck] 28))
  have box0 : (w.alloc (.cells #[.slice ae es.length ce, .slice ak ks.len ck] 28)).cell? ⟨w.heap.size, 0, none⟩ = some (.slice ae es.length ce) := cell_at' (heap_alloc_new w _) 0 rfl
  have box1 : (w.alloc (.cells #[.slice ae es.length ce, .slice ak ks.len ck] 28)).cell? ⟨w.heap.size, 1, none⟩ = some (.slice ak ks.len ck) := cell_at' (heap_alloc_new w _) 1 rfl
  have B0 := Lib.hid box0; clear box0
  have B1 := Lib.hid box1; clear box1
  have HDL := Lib.hid (Nat.le_trans (dotsT_length_le es ks) hsz)
  have hn5 : es.length ≤ 100000 := by unfold sizeT at hsz; omega
  have hm5 : ks.len ≤ 100000 := by have := len_le_sizeK ks; unfold sizeT at hsz; omega
  have HSZ := Lib.hid hsz; clear hsz
  have HNN := Lib.hid hN; clear hN
  have hq5 : pl.length ≤ 200000 := by omega
  have HPL := Lib.hid hpl; clear hpl
  generalize hes : es.length = n at *
  have HN := Lib.hid hes; clear hes
  generalize hkl : ks.len = m at *
  have HM := Lib.hid hkl; clear hkl
  generalize hql : pl.length = q at *
  have HQ := Lib.hid hql; clear hql
  go_enter Tryz.func155, Tryz.ntmps155
  go_wp2_with fail
  have b0 := B0.out
  go_wp2
  clear b0
  go_loopw [5, 12] (fun v i ww => ∃ k : Nat, k ≤ n ∧ i = .int .i64 k ∧ OwnAt (w.alloc (.cells #[.slice ae n ce, .slice ak m ck] 28)) ww 181 5 v k (lfC (lfE (.slice ap q cp) (es.take k)))) (fun _ i _ => n - (intOf i).toNat)
  case atStart => exact ⟨0, Nat.zero_le _, rfl, OwnAt.nil (Frm.refl _ _) _ _⟩
  case round =>
   obtain ⟨k, hk, rfl, ho⟩ := hrel
   obtain ⟨av, cv, rfl⟩ := ho.shape
   have HO := Lib.hid ho; clear ho
   by_cases hlt : k < n
   · rcases Rd.shape HE.out with ⟨ad, he, h0⟩ | ⟨b, off, cc, he, hmax⟩
     · exfalso; have := HN.out; omega
     · injection he with e1 e2 e3
       subst e1 e3
       clear e2
       have hlk : k < es.length := by rw [HN.out]; exact hlt
       obtain ⟨p0, p1, p2, p3⟩ := ent_at HE.out k hlk
       have f2 := HWB.out.then1 HO.out.frm
       have q0 := f2.cell' p0 id
       have q1 := f2.cell' p1 id
       have q2 := f2.cell' p2 id
       have q3 := f2.cell' p3 id
       have b0 := HO.out.frm.cell' B0.out id
       clear p0 p1 p2 p3 f2
       have hE := lfE_take_succ (p := .slice ap q cp) hlk
       generalize es.getD k Ent.zero = e at *
       have HEE := Lib.hid hE; clear hE
       go_wp2_with (at_builtin; refine wpList_appO _ _ [.slice ap q cp, .int .i64 e.dc, .int .i64 e.n, .string e.s, .int .i64 e.k] rfl (.tmp 15) (.tmp 23) 177 rfl 181 i0 _ 5 64 Tryz.underlying177 hi hz0 hz1 hz2 (by decide) (by decide) _ _ _ HO.out 1 1 rfl (by simp [Act.eval]) rfl (by simp [Value.oneCell']) (by simp only [maxLen]; omega) (by omega) ?_; intro ad2 cc2 w2 own2; have OW := Lib.hid own2; clear own2)
       go_roundw
       case rel => exact ⟨k + 1, by omega, by go_num, by rw [HEE.out]; exact OW.out⟩
       case measure => simp [intOf]; omega
   · obtain rfl : n = k := by omega
     rw [List.take_of_length_le (by rw [HN.out]; exact Nat.le_refl _)] at HO
     have b1 := HO.out.frm.cell' B1.out id
     go_wp2
     clear b1
     go_loopw [5, 29] (fun v i ww => ∃ (k : Nat) (l : LeafL), k ≤ m ∧ i = .int .i64 k ∧ OwnAt (w.alloc (.cells #[.slice ae n ce, .slice ak m ck] 28)) ww 181 5 v l.length (lfC l) ∧ dotsT es ks = dotsL l ++ dotsK (ks.drop k) ∧ OneL l) (fun _ i _ => m - (intOf i).toNat)
     case atStart => exact ⟨0, lfE (.slice ap q cp) es, Nat.zero_le _, rfl, by rw [lfE_length, HN.out]; exact HO.out, by rw [dotsL_lfE]; rfl, OneL.lfE rfl es⟩
     case round =>
      obtain ⟨k, l, hk, rfl, ho, hd, hone⟩ := hrel
      obtain ⟨av, cv, rfl⟩ := ho.shape
      have HOK := Lib.hid ho; clear ho
      have HD := Lib.hid hd; clear hd
      have HONE := Lib.hid hone; clear hone
      by_cases hlt : k < m
      · obtain ⟨key, es', sub, rest, hdr⟩ := KidsL.drop_some (n := k) (ks := ks) (by rw [HM.out]; exact hlt)
        rcases Rd.shape HKR.out with ⟨ad, he, h0⟩ | ⟨b, off, cc, he, hmax⟩
        · exfalso; have := HM.out; omega
        · injection he with e1 e2 e3
          subst e1 e3
          clear e2
          have f2 := HWB.out.then1 HOK.out.frm
          obtain ⟨ev', kv', c0, c1, c2, hta⟩ := kid_at (HKR.out.keep0 f2) (HFOR.out.keep0 f2) hdr
          obtain ⟨ae', ce', rfl⟩ := hta.ents.rd.sl
          obtain ⟨os', hkr', hfor'⟩ := hta.kids
          obtain ⟨ak', ck', rfl⟩ := hkr'.rd.sl
          clear hkr' hfor'
          have hpr := HP.out.keep0 f2
          have HPR := Lib.hid hpr; clear hpr f2
          have b1 := HOK.out.frm.cell' B1.out id
          have HDS := Lib.hid (dotsK_drop hdr)
          have HSS := Lib.hid (size_sub k hdr)
          have HST := Lib.hid (sizeT_sub k hdr)
          have HTA := Lib.hid hta; clear hta
          have HIH := Lib.hid (fun w' (h : Frm NoS wr w') pv (hpv : Rd w' pv (pl ++ [key]).length (stV (pl ++ [key]))) => IH.out es' sub w' _ _ pv (pl ++ [key]) (by have := HSS.out; have := HNN.out; omega) (HTA.out.keep0 h) (by have := HST.out; have := HSZ.out; unfold sizeT at *; omega) hpv (by have := HPL.out; have := HQ.out; simp; omega))
          have hlen : l.length + (dotsT es' sub).length ≤ 100000 := by
           have h1 := HDL.out
           rw [HD.out, HDS.out, List.length_append, List.length_append, dotsL_length] at h1
           omega
          have HLEN := Lib.hid hlen; clear hlen
          clear hdr
          generalize es'.length = n' at *
          generalize sub.len = m' at *
          go_wp2_with fail
          refine wp_region_G (S := fun w' => w'.cell? ⟨w.heap.size, 1, none⟩ = some (.slice (some ⟨b, off, none⟩) m ck) ∧ w'.cell? ⟨b, off + k * 3, none⟩ = some (.string key)) 11 (by kernel_rfl) ⟨b1, c0⟩ ?_
          intro hS
          have hFY : Frm NoS wr wr.drew := Frm.drew _ _
          have hFY0 := Lib.hid hFY
          generalize wr.drew = Y at *
          refine tkG 1 33 rfl rfl (v := ?_) (.inl ⟨by rfl, ?_⟩) ?_
          rotate_left 1
          · (intro w hSw; (try dsimp only at hSw); go_simp; (try with_reducible rfl))
          refine tkG 3 35 rfl rfl (v := ?_) (.inl ⟨by rfl, ?_⟩) ?_
          rotate_left 1
          · (intro w hSw; (try dsimp only at hSw); go_simp; (try with_reducible rfl))
          try simp only [Act.put, List.setIfInBounds_toArray, List.set_cons_zero, List.set_cons_succ]
          refine tkG 4 36 rfl rfl (v := ?_) (.inl ⟨by rfl, ?_⟩) ?_
          rotate_left 1
          · (intro w hSw; (try dsimp only at hSw); go_simp; (try with_reducible rfl))
          refine tkG 5 37 rfl rfl (v := ?_) (.inl ⟨by rfl, ?_⟩) ?_
          rotate_left 1
          · (intro w hSw; (try dsimp only at hSw); go_simp; (try with_reducible rfl))
          try simp only [Act.put, List.setIfInBounds_toArray, List.set_cons_zero, List.set_cons_succ]
          refine tkG 6 38 rfl rfl (v := ?_) (.inl ⟨by rfl, ?_⟩) ?_
          rotate_left 1
          · (intro w hSw; (try dsimp only at hSw); go_simp; (try with_reducible rfl))
          refine tkG 7 39 rfl rfl (v := ?_) (.inl ⟨by rfl, ?_⟩) ?_
          rotate_left 1
          · (intro w hSw; (try dsimp only at hSw); go_simp; (try with_reducible rfl))
          try simp only [Act.put, List.setIfInBounds_toArray, List.set_cons_zero, List.set_cons_succ]
          refine tkG 8 40 rfl rfl (v := ?_) (.inl ⟨by rfl, ?_⟩) ?_
          rotate_left 1
          · (intro w hSw; (try dsimp only at hSw); go_simp; (try with_reducible rfl))
          try simp only [Act.put, List.setIfInBounds_toArray, List.set_cons_zero, List.set_cons_succ]
          refine two_opG (i := 0) (j := 9) (by kernel_rfl) rfl rfl (fun K hK => ?_) (fun K hK => ?_)
          · go_simp
            have hfA : Frm NoS Y (Y.alloc (.cells #[] 9)) := Frm.alloc _ _ _
            have hE : OwnAt wr (Y.alloc (.cells #[] 9)) 9 1 (.slice (some ⟨Y.heap.size, 0, none⟩) 0 0) 0 [] := OwnAt.empty hFY _ _
            have hS : (Y.alloc (.cells #[] 9)).cell? ⟨w.heap.size, 1, none⟩ = some (.slice (some ⟨b, off, none⟩) m ck) ∧ (Y.alloc (.cells #[] 9)).cell? ⟨b, off + k * 3, none⟩ = some (.string key) := ⟨hfA.cell' hS.1 id, hfA.cell' hS.2 id⟩
            have hFY := hFY.then1 hfA
            (try have hne : kb ≠ Y.heap.size := by have := hkb; omega)
            (try have hKy := hKy.keep0 hfA)
            refine hK.out _ _ hS ?_
            clear hK K hfA
            obtain ⟨eb, heb⟩ : ∃ eb, Y.heap.size = eb := ⟨_, rfl⟩
            rw [heb] at hE ⊢
            have hlte : eb < (Y.alloc (.cells #[] 9)).heap.size := by rw [← heb]; simp
            (try rw [heb] at hne)
            clear heb
            generalize Y.alloc (.cells #[] 9) = Y at *
            try simp only [Act.put, List.setIfInBounds_toArray, List.set_cons_zero, List.set_cons_succ]
            refine two_opG (i := 2) (j := 9) (by kernel_rfl) rfl rfl (fun K hK => ?_) (fun K hK => ?_)
            · refine step_appR wr Y (stV pl) rfl (.tmp 32) (.tmp 33) 179 179 rfl 9 9 j0 _ 1 16 Tryz.underlying179 Tryz.underlying179 hji hy0 hy1 hy2 (by decide) (by decide) _ 0 [] hE _ q (by simp [Act.eval]) (by simp [Act.eval]) (HPR.out.keep0 hFY) (by rw [stV_length, HQ.out]; omega) (stV_oneCell _) (by simp only [maxLen]; omega) (by omega) ?_
              intro ad3 cc3 Y2 hP fmP frP
              rw [Nat.zero_add] at hP
              rw [List.nil_append] at hP
              have hS : Y2.cell? ⟨w.heap.size, 1, none⟩ = some (.slice (some ⟨b, off, none⟩) m ck) ∧ Y2.cell? ⟨b, off + k * 3, none⟩ = some (.string key) := ⟨hP.frm.cell' b1 id, hP.frm.cell' c0 id⟩
              have hFY := hP.frm
              (try have hKy := hKy.keep fmP (fun x hx hr => by simp [RowS, Value.ownBlock] at hx hr; omega))
              rw [Nat.zero_add]
              refine hK.out _ _ hS ?_
              clear hK K fmP frP hE hlte
              generalize Y2 = Y at *
              try simp only [Act.put, List.setIfInBounds_toArray, List.set_cons_zero, List.set_cons_succ]
              refine one_opG (i := 9) (by kernel_rfl) rfl (fun K hK => ?_)
              go_simp
              have hfA : Frm NoS Y (Y.alloc (.cells #[.string key] 9)) := Frm.alloc _ _ _
              have hS : (Y.alloc (.cells #[.string key] 9)).cell? ⟨w.heap.size, 1, none⟩ = some (.slice (some ⟨b, off, none⟩) m ck) ∧ (Y.alloc (.cells #[.string key] 9)).cell? ⟨b, off + k * 3, none⟩ = some (.string key) := ⟨hfA.cell' hS.1 id, hfA.cell' hS.2 id⟩
              have hFY := hFY.then1 hfA
              (try have hne : Y.heap.size ≠ eb := by have := hlte; omega)
              (try have hE := hE.keep hfA)
              (try have hP := hP.keep hfA)
              have hKy : Rd (Y.alloc (.cells #[.string key] 9)) (.slice (some ⟨Y.heap.size, 0, none⟩) 1 1) 1 [.string key] := .inr ⟨Y.heap.size, 0, 1, rfl, Nat.le_refl _, by decide, fun j u hu => by rw [Nat.zero_add]; exact cell_at' (heap_alloc_new Y _) j (by simpa using hu)⟩
              refine hK.out _ _ hS ?_
              clear hK K hfA
              obtain ⟨kb, hkb0⟩ : ∃ kb, Y.heap.size = kb := ⟨_, rfl⟩
              rw [hkb0] at hKy ⊢
              have hkb : kb < (Y.alloc (.cells #[.string key] 9)).heap.size := by rw [← hkb0]; simp
              (try rw [hkb0] at hne)
              clear hkb0
              generalize Y.alloc (.cells #[.string key] 9) = Y at *
              try simp only [Act.put, List.setIfInBounds_toArray, List.set_cons_zero, List.set_cons_succ]
              refine one_opG (i := 10) (by kernel_rfl) rfl (fun K hK => ?_)
              refine step_appR wr Y [.string key] rfl (.tmp 34) (.tmp 41) 179 179 rfl 9 9 j0 _ 1 16 Tryz.underlying179 Tryz.underlying179 hji hy0 hy1 hy2 (by decide) (by decide) _ q (stV pl) hP _ 1 (by simp [Act.eval]) (by simp [Act.eval]) hKy rfl (by simp [Value.oneCell']) (by simp only [maxLen]; omega) (by omega) ?_
              intro ad4 cc4 Y3 hP4 fmP4 frP4
              have hS : Y3.cell? ⟨w.heap.size, 1, none⟩ = some (.slice (some ⟨b, off, none⟩) m ck) ∧ Y3.cell? ⟨b, off + k * 3, none⟩ = some (.string key) := ⟨hP4.frm.cell' b1 id, hP4.frm.cell' c0 id⟩
              refine hK.out _ _ hS ?_
              clear hK K fmP4 frP4 hP
              have HP4 := Lib.hid hP4; clear hP4
              try simp only [Act.put, List.setIfInBounds_toArray, List.set_cons_zero, List.set_cons_succ]
              refine last_opG (by kernel_rfl) (by kernel_rfl) rfl (fun K hK => ?_)
              go_simp
              refine hK.out _ _ ?_
              clear hK K hKy hS
              have c1 := HP4.out.frm.cell' c1 id
              have c2 := HP4.out.frm.cell' c2 id
              have b1 := HP4.out.frm.cell' b1 id
              go_wp2_with (first
               | (go_at_call 155; refine (HIH.out _ HP4.out.frm _ (by have := HP4.out.rd; rw [stV_append, List.length_append, HQ.out]; exact this)).mono ?_; rintro e w3 ⟨v3, l3, rfl, ho3, hd3, hone3⟩; obtain ⟨a3, c3, rfl⟩ := ho3.shape; have HO3 := Lib.hid ho3; clear ho3; have HD3 := Lib.hid hd3; clear hd3; have HONE3 := Lib.hid hone3; clear hone3; have HKK := Lib.hid (HOK.out.keep (HP4.out.frm.then1 HO3.out.frm)))
               | (at_builtin; refine wpList_appR _ _ _ rfl (.tmp 43) (.tmp 51) 177 177 rfl 181 181 i0 _ 5 64 Tryz.underlying177 Tryz.underlying177 hi hz0 hz1 hz2 (by decide) (by decide) _ _ _ HKK.out _ l3.length rfl rfl HO3.out.rd (by rw [lfC_length]) (lfC_oneCell HONE3.out) (by have := HLEN.out; rw [← HD3.out, dotsL_length] at this; simp only [maxLen]; omega) (by have := HLEN.out; rw [← HD3.out, dotsL_length] at this; omega) ?_; intro ad5 cc5 w5 own5; have OW := Lib.hid own5; clear own5))
              go_roundw
              case rel => exact ⟨k + 1, l ++ l3, by omega, by go_num, by rw [List.length_append, lfC_append]; exact OW.out, by rw [HD.out, HDS.out, dotsL_append, HD3.out, List.append_assoc], HONE.out.append HONE3.out⟩
              case measure => simp [intOf]; omega
            · go_simp
              have hfA : Frm NoS Y (Y.alloc (.cells #[.string key] 9)) := Frm.alloc _ _ _
              have hS : (Y.alloc (.cells #[.string key] 9)).cell? ⟨w.heap.size, 1, none⟩ = some (.slice (some ⟨b, off, none⟩) m ck) ∧ (Y.alloc (.cells #[.string key] 9)).cell? ⟨b, off + k * 3, none⟩ = some (.string key) := ⟨hfA.cell' hS.1 id, hfA.cell' hS.2 id⟩
              have hFY := hFY.then1 hfA
              (try have hne : Y.heap.size ≠ eb := by have := hlte; omega)
              (try have hE := hE.keep hfA)
              (try have hP := hP.keep hfA)
              have hKy : Rd (Y.alloc (.cells #[.string key] 9)) (.slice (some ⟨Y.heap.size, 0, none⟩) 1 1) 1 [.string key] := .inr ⟨Y.heap.size, 0, 1, rfl, Nat.le_refl _, by decide, fun j u hu => by rw [Nat.zero_add]; exact cell_at' (heap_alloc_new Y _) j (by simpa using hu)⟩
              refine hK.out _ _ hS ?_
              clear hK K hfA
              obtain ⟨kb, hkb0⟩ : ∃ kb, Y.heap.size = kb := ⟨_, rfl⟩
              rw [hkb0] at hKy ⊢
              have hkb : kb < (Y.alloc (.cells #[.string key] 9)).heap.size := by rw [← hkb0]; simp
              (try rw [hkb0] at hne)
              clear hkb0
              generalize Y.alloc (.cells #[.string key] 9) = Y at *
              try simp only [Act.put, List.setIfInBounds_toArray, List.set_cons_zero, List.set_cons_succ]
              refine one_opG (i := 2) (by kernel_rfl) rfl (fun K hK => ?_)
              refine step_appR wr Y (stV pl) rfl (.tmp 32) (.tmp 33) 179 179 rfl 9 9 j0 _ 1 16 Tryz.underlying179 Tryz.underlying179 hji hy0 hy1 hy2 (by decide) (by decide) _ 0 [] hE _ q (by simp [Act.eval]) (by simp [Act.eval]) (HPR.out.keep0 hFY) (by rw [stV_length, HQ.out]; omega) (stV_oneCell _) (by simp only [maxLen]; omega) (by omega) ?_
              intro ad3 cc3 Y2 hP fmP frP
              rw [Nat.zero_add] at hP
              rw [List.nil_append] at hP
              have hS : Y2.cell? ⟨w.heap.size, 1, none⟩ = some (.slice (some ⟨b, off, none⟩) m ck) ∧ Y2.cell? ⟨b, off + k * 3, none⟩ = some (.string key) := ⟨hP.frm.cell' b1 id, hP.frm.cell' c0 id⟩
              have hFY := hP.frm
              (try have hKy := hKy.keep fmP (fun x hx hr => by simp [RowS, Value.ownBlock] at hx hr; omega))
              rw [Nat.zero_add]
              refine hK.out _ _ hS ?_
              clear hK K fmP frP hE hlte
              generalize Y2 = Y at *
              try simp only [Act.put, List.setIfInBounds_toArray, List.set_cons_zero, List.set_cons_succ]
              refine one_opG (i := 10) (by kernel_rfl) rfl (fun K hK => ?_)
              refine step_appR wr Y [.string key] rfl (.tmp 34) (.tmp 41) 179 179 rfl 9 9 j0 _ 1 16 Tryz.underlying179 Tryz.underlying179 hji hy0 hy1 hy2 (by decide) (by decide) _ q (stV pl) hP _ 1 (by simp [Act.eval]) (by simp [Act.eval]) hKy rfl (by simp [Value.oneCell']) (by simp only [maxLen]; omega) (by omega) ?_
              intro ad4 cc4 Y3 hP4 fmP4 frP4
              have hS : Y3.cell? ⟨w.heap.size, 1, none⟩ = some (.slice (some ⟨b, off, none⟩) m ck) ∧ Y3.cell? ⟨b, off + k * 3, none⟩ = some (.string key) := ⟨hP4.frm.cell' b1 id, hP4.frm.cell' c0 id⟩
              refine hK.out _ _ hS ?_
              clear hK K fmP4 frP4 hP
              have HP4 := Lib.hid hP4; clear hP4
              try simp only [Act.put, List.setIfInBounds_toArray, List.set_cons_zero, List.set_cons_succ]
              refine last_opG (by kernel_rfl) (by kernel_rfl) rfl (fun K hK => ?_)
              go_simp
              refine hK.out _ _ ?_
              clear hK K hKy hS
              have c1 := HP4.out.frm.cell' c1 id
              have c2 := HP4.out.frm.cell' c2 id
              have b1 := HP4.out.frm.cell' b1 id
              go_wp2_with (first
               | (go_at_call 155; refine (HIH.out _ HP4.out.frm _ (by have := HP4.out.rd; rw [stV_append, List.length_append, HQ.out]; exact this)).mono ?_; rintro e w3 ⟨v3, l3, rfl, ho3, hd3, hone3⟩; obtain ⟨a3, c3, rfl⟩ := ho3.shape; have HO3 := Lib.hid ho3; clear ho3; have HD3 := Lib.hid hd3; clear hd3; have HONE3 := Lib.hid hone3; clear hone3; have HKK := Lib.hid (HOK.out.keep (HP4.out.frm.then1 HO3.out.frm)))
               | (at_builtin; refine wpList_appR _ _ _ rfl (.tmp 43) (.tmp 51) 177 177 rfl 181 181 i0 _ 5 64 Tryz.underlying177 Tryz.underlying177 hi hz0 hz1 hz2 (by decide) (by decide) _ _ _ HKK.out _ l3.length rfl rfl HO3.out.rd (by rw [lfC_length]) (lfC_oneCell HONE3.out) (by have := HLEN.out; rw [← HD3.out, dotsL_length] at this; simp only [maxLen]; omega) (by have := HLEN.out; rw [← HD3.out, dotsL_length] at this; omega) ?_; intro ad5 cc5 w5 own5; have OW := Lib.hid own5; clear own5))
              go_roundw
              case rel => exact ⟨k + 1, l ++ l3, by omega, by go_num, by rw [List.length_append, lfC_append]; exact OW.out, by rw [HD.out, HDS.out, dotsL_append, HD3.out, List.append_assoc], HONE.out.append HONE3.out⟩
              case measure => simp [intOf]; omega
          · go_simp
            have hfA : Frm NoS Y (Y.alloc (.cells #[.string key] 9)) := Frm.alloc _ _ _
            have hS : (Y.alloc (.cells #[.string key] 9)).cell? ⟨w.heap.size, 1, none⟩ = some (.slice (some ⟨b, off, none⟩) m ck) ∧ (Y.alloc (.cells #[.string key] 9)).cell? ⟨b, off + k * 3, none⟩ = some (.string key) := ⟨hfA.cell' hS.1 id, hfA.cell' hS.2 id⟩
            have hFY := hFY.then1 hfA
            (try have hne : Y.heap.size ≠ eb := by have := hlte; omega)
            (try have hE := hE.keep hfA)
            (try have hP := hP.keep hfA)
            have hKy : Rd (Y.alloc (.cells #[.string key] 9)) (.slice (some ⟨Y.heap.size, 0, none⟩) 1 1) 1 [.string key] := .inr ⟨Y.heap.size, 0, 1, rfl, Nat.le_refl _, by decide, fun j u hu => by rw [Nat.zero_add]; exact cell_at' (heap_alloc_new Y _) j (by simpa using hu)⟩
            refine hK.out _ _ hS ?_
            clear hK K hfA
            obtain ⟨kb, hkb0⟩ : ∃ kb, Y.heap.size = kb := ⟨_, rfl⟩
            rw [hkb0] at hKy ⊢
            have hkb : kb < (Y.alloc (.cells #[.string key] 9)).heap.size := by rw [← hkb0]; simp
            (try rw [hkb0] at hne)
            clear hkb0
            generalize Y.alloc (.cells #[.string key] 9) = Y at *
            try simp only [Act.put, List.setIfInBounds_toArray, List.set_cons_zero, List.set_cons_succ]
            refine one_opG (i := 0) (by kernel_rfl) rfl (fun K hK => ?_)
            go_simp
            have hfA : Frm NoS Y (Y.alloc (.cells #[] 9)) := Frm.alloc _ _ _
            have hE : OwnAt wr (Y.alloc (.cells #[] 9)) 9 1 (.slice (some ⟨Y.heap.size, 0, none⟩) 0 0) 0 [] := OwnAt.empty hFY _ _
            have hS : (Y.alloc (.cells #[] 9)).cell? ⟨w.heap.size, 1, none⟩ = some (.slice (some ⟨b, off, none⟩) m ck) ∧ (Y.alloc (.cells #[] 9)).cell? ⟨b, off + k * 3, none⟩ = some (.string key) := ⟨hfA.cell' hS.1 id, hfA.cell' hS.2 id⟩
            have hFY := hFY.then1 hfA
            (try have hne : kb ≠ Y.heap.size := by have := hkb; omega)
            (try have hKy := hKy.keep0 hfA)
            refine hK.out _ _ hS ?_
            clear hK K hfA
            obtain ⟨eb, heb⟩ : ∃ eb, Y.heap.size = eb := ⟨_, rfl⟩
            rw [heb] at hE ⊢
            have hlte : eb < (Y.alloc (.cells #[] 9)).heap.size := by rw [← heb]; simp
            (try rw [heb] at hne)
            clear heb
            generalize Y.alloc (.cells #[] 9) = Y at *
            try simp only [Act.put, List.setIfInBounds_toArray, List.set_cons_zero, List.set_cons_succ]
            refine one_opG (i := 2) (by kernel_rfl) rfl (fun K hK => ?_)
            refine step_appR wr Y (stV pl) rfl (.tmp 32) (.tmp 33) 179 179 rfl 9 9 j0 _ 1 16 Tryz.underlying179 Tryz.underlying179 hji hy0 hy1 hy2 (by decide) (by decide) _ 0 [] hE _ q (by simp [Act.eval]) (by simp [Act.eval]) (HPR.out.keep0 hFY) (by rw [stV_length, HQ.out]; omega) (stV_oneCell _) (by simp only [maxLen]; omega) (by omega) ?_
            intro ad3 cc3 Y2 hP fmP frP
            rw [Nat.zero_add] at hP
            rw [List.nil_append] at hP
            have hS : Y2.cell? ⟨w.heap.size, 1, none⟩ = some (.slice (some ⟨b, off, none⟩) m ck) ∧ Y2.cell? ⟨b, off + k * 3, none⟩ = some (.string key) := ⟨hP.frm.cell' b1 id, hP.frm.cell' c0 id⟩
            have hFY := hP.frm
            (try have hKy := hKy.keep fmP (fun x hx hr => by simp [RowS, Value.ownBlock] at hx hr; omega))
            rw [Nat.zero_add]
            refine hK.out _ _ hS ?_
            clear hK K fmP frP hE hlte
            generalize Y2 = Y at *
            try simp only [Act.put, List.setIfInBounds_toArray, List.set_cons_zero, List.set_cons_succ]
            refine one_opG (i := 10) (by kernel_rfl) rfl (fun K hK => ?_)
            refine step_appR wr Y [.string key] rfl (.tmp 34) (.tmp 41) 179 179 rfl 9 9 j0 _ 1 16 Tryz.underlying179 Tryz.underlying179 hji hy0 hy1 hy2 (by decide) (by decide) _ q (stV pl) hP _ 1 (by simp [Act.eval]) (by simp [Act.eval]) hKy rfl (by simp [Value.oneCell']) (by simp only [maxLen]; omega) (by omega) ?_
            intro ad4 cc4 Y3 hP4 fmP4 frP4
            have hS : Y3.cell? ⟨w.heap.size, 1, none⟩ = some (.slice (some ⟨b, off, none⟩) m ck) ∧ Y3.cell? ⟨b, off + k * 3, none⟩ = some (.string key) := ⟨hP4.frm.cell' b1 id, hP4.frm.cell' c0 id⟩
            refine hK.out _ _ hS ?_
            clear hK K fmP4 frP4 hP
            have HP4 := Lib.hid hP4; clear hP4
            try simp only [Act.put, List.setIfInBounds_toArray, List.set_cons_zero, List.set_cons_succ]
            refine last_opG (by kernel_rfl) (by kernel_rfl) rfl (fun K hK => ?_)
            go_simp
            refine hK.out _ _ ?_
            clear hK K hKy hS
            have c1 := HP4.out.frm.cell' c1 id
            have c2 := HP4.out.frm.cell' c2 id
            have b1 := HP4.out.frm.cell' b1 id
            go_wp2_with (first
             | (go_at_call 155; refine (HIH.out _ HP4.out.frm _ (by have := HP4.out.rd; rw [stV_append, List.length_append, HQ.out]; exact this)).mono ?_; rintro e w3 ⟨v3, l3, rfl, ho3, hd3, hone3⟩; obtain ⟨a3, c3, rfl⟩ := ho3.shape; have HO3 := Lib.hid ho3; clear ho3; have HD3 := Lib.hid hd3; clear hd3; have HONE3 := Lib.hid hone3; clear hone3; have HKK := Lib.hid (HOK.out.keep (HP4.out.frm.then1 HO3.out.frm)))
             | (at_builtin; refine wpList_appR _ _ _ rfl (.tmp 43) (.tmp 51) 177 177 rfl 181 181 i0 _ 5 64 Tryz.underlying177 Tryz.underlying177 hi hz0 hz1 hz2 (by decide) (by decide) _ _ _ HKK.out _ l3.length rfl rfl HO3.out.rd (by rw [lfC_length]) (lfC_oneCell HONE3.out) (by have := HLEN.out; rw [← HD3.out, dotsL_length] at this; simp only [maxLen]; omega) (by have := HLEN.out; rw [← HD3.out, dotsL_length] at this; omega) ?_; intro ad5 cc5 w5 own5; have OW := Lib.hid own5; clear own5))
            go_roundw
            case rel => exact ⟨k + 1, l ++ l3, by omega, by go_num, by rw [List.length_append, lfC_append]; exact OW.out, by rw [HD.out, HDS.out, dotsL_append, HD3.out, List.append_assoc], HONE.out.append HONE3.out⟩
            case measure => simp [intOf]; omega
      · obtain rfl : m = k := by omega
        have hd := HD.out
        rw [KidsL.drop_none (by rw [HM.out]; exact Nat.le_refl _)] at hd
        have hd2 : dotsL l = dotsT es ks := by rw [hd]; simp [dotsK]
        have HD2 := Lib.hid hd2; clear hd2 hd
        go_wp2
        go_ret
        exact ⟨_, l, rfl, HOK.out.base HWB.out, HD2.out, HONE.out⟩
end Go.Proofs.YtcahemkomfaabaaGreat
