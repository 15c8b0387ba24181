/- Words for the law MsgSet: MsgEq, Same3, HeldNone. -/
import Derived.Test.YtcahemkomfaabaaGreatMsgSetG9
import Derived.Test.YtcahemkomfaabaaGreatMsgSetG16
import Derived.Test.YtcahemkomfaabaaGreatMsgSetG18
import Derived.Test.YtcahemkomfaabaaGreatMsgSetG30
set_option linter.unusedSimpArgs false
set_option linter.unusedVariables false
set_option maxHeartbeats 32000000
set_option maxRecDepth 1000000
namespace Go.Proofs.YtcahemkomfaabaaGreat
open Go.RowKit
def allF (f : BunP → BunP → Bool) (ps qs : List BunP) : Bool := (List.range ps.length).all fun j => f (ps.getD j BunP.zero) (qs.getD j BunP.zero)
theorem allF_true {f : BunP → BunP → Bool} {ps qs : List BunP} : allF f ps qs = true ↔ ∀ j, j < ps.length → f (ps.getD j BunP.zero) (qs.getD j BunP.zero) = true := by
 unfold allF
 simp only [List.all_eq_true, List.mem_range]
theorem allF_here {f : BunP → BunP → Bool} {ps qs : List BunP} {j : Nat} (hj : j < ps.length) (h : f (ps.getD j BunP.zero) (qs.getD j BunP.zero) = false) : allF f ps qs = false := by
 rw [Bool.eq_false_iff]
 intro ht
 rw [allF_true.1 ht j hj] at h
 cases h
theorem map_eq_iff {ps qs : List BunP} (hl : ps.length = qs.length) : ps.map (·.b) = qs.map (·.b) ↔ ∀ j, j < ps.length → (ps.getD j BunP.zero).b = (qs.getD j BunP.zero).b := by
 constructor
 · intro h j hj
   have h1 := congrArg (fun l => l[j]?) h
   simp only [List.getElem?_map] at h1
   rw [List.getElem?_eq_getElem hj, List.getElem?_eq_getElem (hl ▸ hj)] at h1
   simp only [Option.map_some, Option.some.injEq] at h1
   rw [List.getD_eq_getElem?_getD, List.getD_eq_getElem?_getD, List.getElem?_eq_getElem hj, List.getElem?_eq_getElem (hl ▸ hj)]
   exact h1
 · intro h
   refine List.ext_getElem (by simpa using hl) fun j h1 h2 => ?_
   have h1' : j < ps.length := by simpa using h1
   have := h j h1'
   rw [List.getD_eq_getElem?_getD, List.getD_eq_getElem?_getD, List.getElem?_eq_getElem h1', List.getElem?_eq_getElem (hl ▸ h1')] at this
   simpa using this
abbrev BunP.eqP (p q : BunP) : Prop := BunEq p.b.dc p.b.af p.b.la p.b.v0 p.b.v1 p.b.v2 p.b.v3 q.b.dc q.b.af q.b.la q.b.v0 q.b.v1 q.b.v2 q.b.v3 p.b.es p.b.ks p.b.c q.b.es q.b.ks q.b.c
theorem bunEq_iff {p q : BunP} : p.eqP q ↔ p.b = q.b := by
 obtain ⟨⟨_, _, _, _, _, _, _, _, _, _⟩, _, _, _⟩ := p
 obtain ⟨⟨_, _, _, _, _, _, _, _, _, _⟩, _, _, _⟩ := q
 unfold BunP.eqP BunEq
 dsimp only
 simp only [BunD.mk.injEq]
 constructor
 · rintro ⟨h1, h2, h3, ⟨h4, h5, h6, h7⟩, ⟨h8, h9⟩, h10⟩; exact ⟨h1, h2, h3, h4, h5, h6, h7, h8, h9, h10⟩
 · rintro ⟨h1, h2, h3, h4, h5, h6, h7, h8, h9, h10⟩; exact ⟨h1, h2, h3, ⟨h4, h5, h6, h7⟩, ⟨h8, h9⟩, h10⟩
noncomputable def eqf (p q : BunP) : Bool := tf (p.eqP q)
theorem allF_eqf {ps qs : List BunP} (hl : ps.length = qs.length) : allF eqf ps qs = true ↔ ps.map (·.b) = qs.map (·.b) := by
 rw [allF_true, map_eq_iff hl]
 exact forall_congr' fun j => imp_congr_right fun _ => tf_iff.trans bunEq_iff
theorem r22Same_any (Q Q' : Nat → Prop) (es : List Ent) (ks : KidsL) (c : CtxL) (es' : List Ent) (ks' : KidsL) (c' : CtxL) (w : World) (dc af la v0 v1 v2 v3 dc' af' la' v0' v1' v2' v3' : Int) (ev kv cv ev' kv' cv' : Value) (h : CauAt Q w ev kv cv es ks c) (hok : CauOk es ks c) (h' : CauAt Q' w ev' kv' cv' es' ks' c') (hok' : CauOk es' ks' c') :
 Calls Tryz.prog 59 #[.agg #[.int .i64 dc, .int .i64 af, .int .i64 la, .int .i64 v0, .int .i64 v1, .int .i64 v2, .int .i64 v3, ev, kv, cv], .agg #[.int .i64 dc', .int .i64 af', .int .i64 la', .int .i64 v0', .int .i64 v1', .int .i64 v2', .int .i64 v3', ev', kv', cv']] w fun e w' => e = .returned (.bool (tf (BunEq dc af la v0 v1 v2 v3 dc' af' la' v0' v1' v2' v3' es ks c es' ks' c'))) ∧ Frm NoS w w' := by
 have HC := Lib.hid (fun W (f : Frm NoS w W) => r9Same_any Q Q' es ks c es' ks' c' W _ _ _ _ _ _ (h.keep0 f) hok (h'.keep0 f) hok')
 obtain ⟨a0, c0, a1, c1, a2, c2, rfl, rfl, rfl⟩ := h.shape
 obtain ⟨b0, d0, b1, d1, b2, d2, rfl, rfl, rfl⟩ := h'.shape
 clear h hok h' hok'
 by_cases e0 : dc = dc'
 rotate_left 1
 · rw [tf_false fun h => e0 h.1]
   have ge : ((dc : Int) == dc') = false := by simpa using e0
   clear e0 HC
   generalize es.length = n at *
   generalize ks.len = m at *
   generalize c.length = k at *
   generalize es'.length = n' at *
   generalize ks'.len = m' at *
   generalize c'.length = k' at *
   have HFB := Lib.hid ((Frm.alloc NoS w (.cells #[.int .i64 dc, .int .i64 af, .int .i64 la, .int .i64 v0, .int .i64 v1, .int .i64 v2, .int .i64 v3, .slice a0 n c0, .slice a1 m c1, .slice a2 k c2] 60)).alloc1 (o := .cells #[.int .i64 dc', .int .i64 af', .int .i64 la', .int .i64 v0', .int .i64 v1', .int .i64 v2', .int .i64 v3', .slice b0 n' d0, .slice b1 m' d1, .slice b2 k' d2] 60))
   have HBX := Lib.hid (pair10 w (.int .i64 dc) (.int .i64 af) (.int .i64 la) (.int .i64 v0) (.int .i64 v1) (.int .i64 v2) (.int .i64 v3) (.slice a0 n c0) (.slice a1 m c1) (.slice a2 k c2) (.int .i64 dc') (.int .i64 af') (.int .i64 la') (.int .i64 v0') (.int .i64 v1') (.int .i64 v2') (.int .i64 v3') (.slice b0 n' d0) (.slice b1 m' d1) (.slice b2 k' d2) 60)
   obtain ⟨⟨y0, y1, y2, y3, y4, y5, y6, y7, y8, y9⟩, z0, z1, z2, z3, z4, z5, z6, z7, z8, z9⟩ := HBX.out _ (Frm.refl _ _)
   go_enter Tryz.func59, Tryz.ntmps59
   go_wp2
   go_ret
   exact ⟨rfl, HFB.out⟩
 subst e0
 by_cases e1 : af = af'
 rotate_left 1
 · rw [tf_false fun h => e1 h.2.1]
   have ge : ((af : Int) == af') = false := by simpa using e1
   clear e1 HC
   generalize es.length = n at *
   generalize ks.len = m at *
   generalize c.length = k at *
   generalize es'.length = n' at *
   generalize ks'.len = m' at *
   generalize c'.length = k' at *
   have HFB := Lib.hid ((Frm.alloc NoS w (.cells #[.int .i64 dc, .int .i64 af, .int .i64 la, .int .i64 v0, .int .i64 v1, .int .i64 v2, .int .i64 v3, .slice a0 n c0, .slice a1 m c1, .slice a2 k c2] 60)).alloc1 (o := .cells #[.int .i64 dc, .int .i64 af', .int .i64 la', .int .i64 v0', .int .i64 v1', .int .i64 v2', .int .i64 v3', .slice b0 n' d0, .slice b1 m' d1, .slice b2 k' d2] 60))
   have HBX := Lib.hid (pair10 w (.int .i64 dc) (.int .i64 af) (.int .i64 la) (.int .i64 v0) (.int .i64 v1) (.int .i64 v2) (.int .i64 v3) (.slice a0 n c0) (.slice a1 m c1) (.slice a2 k c2) (.int .i64 dc) (.int .i64 af') (.int .i64 la') (.int .i64 v0') (.int .i64 v1') (.int .i64 v2') (.int .i64 v3') (.slice b0 n' d0) (.slice b1 m' d1) (.slice b2 k' d2) 60)
   obtain ⟨⟨y0, y1, y2, y3, y4, y5, y6, y7, y8, y9⟩, z0, z1, z2, z3, z4, z5, z6, z7, z8, z9⟩ := HBX.out _ (Frm.refl _ _)
   go_enter Tryz.func59, Tryz.ntmps59
   go_wp2
   go_ret
   exact ⟨rfl, HFB.out⟩
 subst e1
 by_cases e2 : la = la'
 rotate_left 1
 · rw [tf_false fun h => e2 h.2.2.1]
   have ge : ((la : Int) == la') = false := by simpa using e2
   clear e2 HC
   generalize es.length = n at *
   generalize ks.len = m at *
   generalize c.length = k at *
   generalize es'.length = n' at *
   generalize ks'.len = m' at *
   generalize c'.length = k' at *
   have HFB := Lib.hid ((Frm.alloc NoS w (.cells #[.int .i64 dc, .int .i64 af, .int .i64 la, .int .i64 v0, .int .i64 v1, .int .i64 v2, .int .i64 v3, .slice a0 n c0, .slice a1 m c1, .slice a2 k c2] 60)).alloc1 (o := .cells #[.int .i64 dc, .int .i64 af, .int .i64 la', .int .i64 v0', .int .i64 v1', .int .i64 v2', .int .i64 v3', .slice b0 n' d0, .slice b1 m' d1, .slice b2 k' d2] 60))
   have HBX := Lib.hid (pair10 w (.int .i64 dc) (.int .i64 af) (.int .i64 la) (.int .i64 v0) (.int .i64 v1) (.int .i64 v2) (.int .i64 v3) (.slice a0 n c0) (.slice a1 m c1) (.slice a2 k c2) (.int .i64 dc) (.int .i64 af) (.int .i64 la') (.int .i64 v0') (.int .i64 v1') (.int .i64 v2') (.int .i64 v3') (.slice b0 n' d0) (.slice b1 m' d1) (.slice b2 k' d2) 60)
   obtain ⟨⟨y0, y1, y2, y3, y4, y5, y6, y7, y8, y9⟩, z0, z1, z2, z3, z4, z5, z6, z7, z8, z9⟩ := HBX.out _ (Frm.refl _ _)
   go_enter Tryz.func59, Tryz.ntmps59
   go_wp2
   go_ret
   exact ⟨rfl, HFB.out⟩
 subst e2
 by_cases e3 : v0 = v0' ∧ v1 = v1' ∧ v2 = v2' ∧ v3 = v3'
 rotate_left 1
 · rw [tf_false fun h => e3 h.2.2.2.1]
   have hveq := vec_eq_false e3
   clear e3 HC
   generalize es.length = n at *
   generalize ks.len = m at *
   generalize c.length = k at *
   generalize es'.length = n' at *
   generalize ks'.len = m' at *
   generalize c'.length = k' at *
   have HFB := Lib.hid ((Frm.alloc NoS w (.cells #[.int .i64 dc, .int .i64 af, .int .i64 la, .int .i64 v0, .int .i64 v1, .int .i64 v2, .int .i64 v3, .slice a0 n c0, .slice a1 m c1, .slice a2 k c2] 60)).alloc1 (o := .cells #[.int .i64 dc, .int .i64 af, .int .i64 la, .int .i64 v0', .int .i64 v1', .int .i64 v2', .int .i64 v3', .slice b0 n' d0, .slice b1 m' d1, .slice b2 k' d2] 60))
   have HBX := Lib.hid (pair10 w (.int .i64 dc) (.int .i64 af) (.int .i64 la) (.int .i64 v0) (.int .i64 v1) (.int .i64 v2) (.int .i64 v3) (.slice a0 n c0) (.slice a1 m c1) (.slice a2 k c2) (.int .i64 dc) (.int .i64 af) (.int .i64 la) (.int .i64 v0') (.int .i64 v1') (.int .i64 v2') (.int .i64 v3') (.slice b0 n' d0) (.slice b1 m' d1) (.slice b2 k' d2) 60)
   obtain ⟨⟨y0, y1, y2, y3, y4, y5, y6, y7, y8, y9⟩, z0, z1, z2, z3, z4, z5, z6, z7, z8, z9⟩ := HBX.out _ (Frm.refl _ _)
   go_enter Tryz.func59, Tryz.ntmps59
   go_wp2
   go_ret
   exact ⟨rfl, HFB.out⟩
 have hveq := vec_eq_true e3
 have hall : tf (BunEq dc af la v0 v1 v2 v3 dc af la v0' v1' v2' v3' es ks c es' ks' c') = tf ((es = es' ∧ ks = ks') ∧ c = c') := tf_congr ⟨fun h => h.2.2.2.2, fun h => ⟨rfl, rfl, rfl, e3, h⟩⟩
 rw [hall]
 clear hall e3
 generalize tf ((es = es' ∧ ks = ks') ∧ c = c') = y at *
 generalize es.length = n at *
 generalize ks.len = m at *
 generalize c.length = k at *
 generalize es'.length = n' at *
 generalize ks'.len = m' at *
 generalize c'.length = k' at *
 have HFB := Lib.hid ((Frm.alloc NoS w (.cells #[.int .i64 dc, .int .i64 af, .int .i64 la, .int .i64 v0, .int .i64 v1, .int .i64 v2, .int .i64 v3, .slice a0 n c0, .slice a1 m c1, .slice a2 k c2] 60)).alloc1 (o := .cells #[.int .i64 dc, .int .i64 af, .int .i64 la, .int .i64 v0', .int .i64 v1', .int .i64 v2', .int .i64 v3', .slice b0 n' d0, .slice b1 m' d1, .slice b2 k' d2] 60))
 have HBX := Lib.hid (pair10 w (.int .i64 dc) (.int .i64 af) (.int .i64 la) (.int .i64 v0) (.int .i64 v1) (.int .i64 v2) (.int .i64 v3) (.slice a0 n c0) (.slice a1 m c1) (.slice a2 k c2) (.int .i64 dc) (.int .i64 af) (.int .i64 la) (.int .i64 v0') (.int .i64 v1') (.int .i64 v2') (.int .i64 v3') (.slice b0 n' d0) (.slice b1 m' d1) (.slice b2 k' d2) 60)
 obtain ⟨⟨y0, y1, y2, y3, y4, y5, y6, y7, y8, y9⟩, z0, z1, z2, z3, z4, z5, z6, z7, z8, z9⟩ := HBX.out _ (Frm.refl _ _)
 go_enter Tryz.func59, Tryz.ntmps59
 go_wp2_with (go_at_call 39; refine (HC.out _ HFB.out).mono ?_; rintro e w3 ⟨rfl, hw3⟩; have HW3 := Lib.hid (HFB.out.then1 hw3); clear hw3)
 go_ret
 exact ⟨rfl, HW3.out⟩
end Go.Proofs.YtcahemkomfaabaaGreat
