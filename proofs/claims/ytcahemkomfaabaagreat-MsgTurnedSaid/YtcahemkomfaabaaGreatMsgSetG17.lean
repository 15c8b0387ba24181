/- Words for the law MsgSet: BunEnc, Op1, Op2, MsgA, Vec, Solid, Front, SolidA. -/
import Derived.Test.YtcahemkomfaabaaGreatMsgSetG2
import Derived.Test.YtcahemkomfaabaaGreatMsgSetG6
import Derived.Test.YtcahemkomfaabaaGreatMsgSetG7
import Derived.Test.YtcahemkomfaabaaGreatMsgSetG9
import Derived.Test.YtcahemkomfaabaaGreatMsgSetG10
import Derived.Test.YtcahemkomfaabaaGreatMsgSetG11
import Derived.Test.YtcahemkomfaabaaGreatMsgSetG14
import Derived.Test.YtcahemkomfaabaaGreatMsgSetG16
import Derived.Shelf.Abstract
set_option linter.unusedSimpArgs false
set_option linter.unusedVariables false
set_option maxHeartbeats 32000000
set_option maxRecDepth 1000000
namespace Go.Proofs.YtcahemkomfaabaaGreat
open Go.RowKit
def encB (dc af la v0 v1 v2 v3 : Int) (es : List Ent) (ks : KidsL) (c : CtxL) : List UInt8 := numB dc ++ (numB af ++ (numB la ++ (encV v0 v1 v2 v3 ++ encX es ks c)))
structure BunD where
 dc : Int
 af : Int
 la : Int
 v0 : Int
 v1 : Int
 v2 : Int
 v3 : Int
 es : List Ent
 ks : KidsL
 c : CtxL
def BunD.enc (b : BunD) : List UInt8 := encB b.dc b.af b.la b.v0 b.v1 b.v2 b.v3 b.es b.ks b.c
def BunD.right (b : BunD) : Prop := BunRight b.dc b.af b.la (vecF b.v0 b.v1 b.v2 b.v3) b.es b.ks b.c
def BunD.zero : BunD := ⟨0, 0, 0, 0, 0, 0, 0, [], .nil, []⟩
theorem encB_pfx {a b : BunD} {x y : List UInt8} (h : a.enc ++ x = b.enc ++ y) : a = b ∧ x = y := by
 unfold BunD.enc encB at h
 simp only [List.append_assoc] at h
 replace h := numB_prefix h
 obtain ⟨h1, h⟩ := h
 replace h := numB_prefix h
 obtain ⟨h2, h⟩ := h
 replace h := numB_prefix h
 obtain ⟨h3, h⟩ := h
 replace h := encV_pfx h
 obtain ⟨⟨h4, h5, h6, h7⟩, h⟩ := h
 replace h := encX_pfx h
 obtain ⟨⟨⟨h8, h9⟩, h10⟩, h⟩ := h
 cases a
 cases b
 simp only at h1 h2 h3 h4 h5 h6 h7 h8 h9 h10
 subst h1 h2 h3 h4 h5 h6 h7 h8 h9 h10
 exact ⟨rfl, h⟩
def BunRes (st : Option (List UInt8)) (b : BunD) (s : Option (List UInt8)) : Prop :=
 (∃ rest, st = some (b.enc ++ rest) ∧ b.right ∧ s = some rest) ∨ (s = none ∧ b = BunD.zero ∧ ∀ (b' : BunD) rest, st = some (b'.enc ++ rest) → ¬ b'.right)
theorem BunRes.det {st s s' : Option (List UInt8)} {a b : BunD} (h : BunRes st a s) (k : BunRes st b s') : a = b ∧ s = s' := by
 rcases h with ⟨r, h1, h2, h3⟩ | ⟨h1, h2, h3⟩ <;> rcases k with ⟨r', k1, k2, k3⟩ | ⟨k1, k2, k3⟩
 · rw [h1] at k1
   injection k1 with k1
   obtain ⟨e, rfl⟩ := encB_pfx k1
   exact ⟨e, by rw [h3, k3]⟩
 · exact absurd h2 (k3 _ _ h1)
 · exact absurd k2 (h3 _ _ k1)
 · exact ⟨by rw [h2, k2], by rw [h1, k1]⟩
theorem BunRes.total (st : Option (List UInt8)) : ∃ b s, BunRes st b s := by
 by_cases h : ∃ (b : BunD) (rest : List UInt8), st = some (b.enc ++ rest) ∧ b.right
 · obtain ⟨b, rest, h1, h2⟩ := h
   exact ⟨b, some rest, .inl ⟨rest, h1, h2, rfl⟩⟩
 · exact ⟨BunD.zero, none, .inr ⟨rfl, rfl, fun b rest h1 h2 => h ⟨b, rest, h1, h2⟩⟩⟩
theorem bun_good {m1 m2 : Int} {st s1 s2 s3 s4 : Option (List UInt8)} {b : BunD} {r : List UInt8} (h1 : NumStep st m1 b.dc s1) (h2 : NumStep s1 m2 b.af s2) (h3 : NumStep s2 m2 b.la s3) (h4 : VecRes s3 b.v0 b.v1 b.v2 b.v3 s4) (h5 : CauRes s4 b.es b.ks b.c (some r)) (hr : b.right) : BunRes st b (some r) := by
 rcases h5 with ⟨r', rfl, _, h⟩ | ⟨h, _⟩
 · injection h with h; subst h
   rcases h4 with ⟨r2, rfl, _, h⟩ | ⟨h, _⟩
   · injection h with h; subst h
     obtain ⟨rfl, _⟩ := num_good h3
     obtain ⟨rfl, _⟩ := num_good h2
     obtain ⟨rfl, _⟩ := num_good h1
     exact .inl ⟨r, by unfold BunD.enc encB; simp only [List.append_assoc], hr, rfl⟩
   · cases h
 · cases h
theorem bun_bad {m1 m2 : Int} (hm1 : 4 ≤ m1) (hm1' : m1 ≤ 9223372036854775807) (hm2 : 1099511627776 ≤ m2) (hm2' : m2 ≤ 9223372036854775807) {st s1 s2 s3 s4 s5 : Option (List UInt8)} {b : BunD} (h1 : NumStep st m1 b.dc s1) (h2 : NumStep s1 m2 b.af s2) (h3 : NumStep s2 m2 b.la s3) (h4 : VecRes s3 b.v0 b.v1 b.v2 b.v3 s4) (h5 : CauRes s4 b.es b.ks b.c s5)
 (hb : s5 = none ∨ ¬ b.right) : BunRes st BunD.zero none := by
 refine .inr ⟨rfl, rfl, fun b' rest hs hr => ?_⟩
 subst hs
 have hn := BunRight.nums hr
 obtain ⟨n1, n2, n3, n4, n5, n6, n7⟩ := hn
 unfold BunD.enc encB at h1
 simp only [List.append_assoc] at h1
 obtain ⟨e1, rfl⟩ := h1.det (num_make _ ⟨by omega, by omega⟩ hm1')
 obtain ⟨e2, rfl⟩ := h2.det (num_make _ ⟨by omega, by omega⟩ hm2')
 obtain ⟨e3, rfl⟩ := h3.det (num_make _ ⟨by omega, by omega⟩ hm2')
 obtain ⟨⟨e4, e5, e6, e7⟩, rfl⟩ := h4.det (VecRes.make _ n7)
 obtain ⟨⟨⟨e8, e9⟩, e10⟩, rfl⟩ := h5.det (CauRes.make _ (BunRight.cau hr))
 rcases hb with hb | hb
 · cases hb
 · cases b
   cases b'
   simp only at e1 e2 e3 e4 e5 e6 e7 e8 e9 e10
   subst e1 e2 e3 e4 e5 e6 e7 e8 e9 e10
   exact hb hr
def BunFit (st : Option (List UInt8)) : Prop := ∀ (m1 m2 dc af la v0 v1 v2 v3 : Int) (s1 s2 s3 s4 : Option (List UInt8)), 4 ≤ m1 → m1 ≤ 9223372036854775807 → 1099511627776 ≤ m2 → m2 ≤ 9223372036854775807 →
 NumStep st m1 dc s1 → NumStep s1 m2 af s2 → NumStep s2 m2 la s3 → VecRes s3 v0 v1 v2 v3 s4 → CauFit s4
theorem BunFit.small {st : Option (List UInt8)} (hl : (leftOf st).length ≤ 6000) : BunFit st := fun m1 m2 dc af la v0 v1 v2 v3 s1 s2 s3 s4 _ _ _ _ g1 g2 g3 g4 => .small (by
 have q1 := g1.left
 have q2 := g2.left
 have q3 := g3.left
 have q4 := g4.left
 omega)
theorem BunFit.known {b : BunD} {r : List UInt8} (hr : b.right) (hk : CauOk b.es b.ks b.c) : BunFit (some (b.enc ++ r)) := fun m1 m2 dc af la v0 v1 v2 v3 s1 s2 s3 s4 hm1 hm1' hm2 hm2' h1 h2 h3 h4 => by
 have hn := BunRight.nums hr
 obtain ⟨n1, n2, n3, n4, n5, n6, n7⟩ := hn
 unfold BunD.enc encB at h1
 simp only [List.append_assoc] at h1
 obtain ⟨-, rfl⟩ := h1.det (num_make _ ⟨by omega, by omega⟩ hm1')
 obtain ⟨-, rfl⟩ := h2.det (num_make _ ⟨by omega, by omega⟩ hm2')
 obtain ⟨-, rfl⟩ := h3.det (num_make _ ⟨by omega, by omega⟩ hm2')
 obtain ⟨-, rfl⟩ := h4.det (VecRes.make _ n7)
 exact .known (BunRight.cau hr) hk
theorem BunRes.okF {st s : Option (List UInt8)} {b : BunD} (hf : BunFit st) (h : BunRes st b s) : CauOk b.es b.ks b.c := by
 rcases h with ⟨r, rfl, hr, rfl⟩ | ⟨rfl, rfl, _⟩
 · obtain ⟨n1, n2, n3, n4, n5, n6, n7⟩ := BunRight.nums hr
   have hh : CauFit (some (encX b.es b.ks b.c ++ r)) := by
    unfold BunD.enc encB at hf
    simp only [List.append_assoc] at hf
    exact hf 1099511627776 1099511627776 b.dc b.af b.la b.v0 b.v1 b.v2 b.v3 _ _ _ _ (by decide) (by decide) (by decide) (by decide) (num_make _ ⟨by omega, by omega⟩ (by decide)) (num_make _ ⟨by omega, by omega⟩ (by decide)) (num_make _ ⟨by omega, by omega⟩ (by decide)) (VecRes.make _ n7)
   exact hh.ok (CauRes.make r (BunRight.cau hr))
 · exact ⟨trOk_nil, Nat.zero_le _, (fun s hs => by cases hs), Nat.zero_le _⟩
def kindB (x : Int) : Int := if x = 102 then 1 else if x = 115 then 2 else if x = 99 then 3 else if x = 114 then 4 else if x = 109 then 5 else 0
def kindOf (s : ByteArray) : Int := if h : 0 < s.size then kindB (s[0].toNat : Int) else 0
def p1 (s : ByteArray) : Bool := decide (30 < s.size) || (kindOf s == 0)
def p2 (s : ByteArray) : Bool := !(kindOf s == 5)
structure IdxPost (b : Bool) (w : World) (e : Ending) (w' : World) : Prop where
 frm : Frm NoS w w'
 yes : b = true → ∃ k : Nat, e = .returned (.int .i64 k)
 no : b = false → e = .returned (.int .i64 (-1))
structure BunP where
 b : BunD
 ev : Value
 kv : Value
 cv : Value
def BunP.cells (p : BunP) : List Value := [.int .i64 p.b.dc, .int .i64 p.b.af, .int .i64 p.b.la, .int .i64 p.b.v0, .int .i64 p.b.v1, .int .i64 p.b.v2, .int .i64 p.b.v3, p.ev, p.kv, p.cv]
def BunP.zero : BunP := ⟨BunD.zero, .bool false, .bool false, .bool false⟩
def bunC (ps : List BunP) : List Value := ps.flatMap BunP.cells
theorem bunC_at : ∀ (ps : List BunP) (k : Nat), k < ps.length → ∀ i, i < 10 → (bunC ps)[k * 10 + i]? = (ps.getD k BunP.zero).cells[i]?
 | [], _, h, _, _ => by cases h
 | p :: ps, 0, _, i, hi => by
  have e : bunC (p :: ps) = p.cells ++ bunC ps := rfl
  rw [e, Nat.zero_mul, Nat.zero_add, List.getElem?_append_left (by simpa [BunP.cells] using hi)]
  rfl
 | p :: ps, k + 1, h, i, hi => by
  have e : bunC (p :: ps) = p.cells ++ bunC ps := rfl
  have hl : p.cells.length = 10 := rfl
  rw [e, show (k + 1) * 10 + i = 10 + (k * 10 + i) by omega, List.getElem?_append_right (by rw [hl]; omega), hl, Nat.add_sub_cancel_left]
  exact bunC_at ps k (by simpa using h) i hi
structure BunsP (Q : Nat → Prop) (w : World) (v : Value) (ps : List BunP) : Prop where
 rd : Rd w v ps.length (bunC ps)
 cau : ∀ p ∈ ps, CauAt Q w p.ev p.kv p.cv p.b.es p.b.ks p.b.c
theorem BunsP.keep0 {Q : Nat → Prop} {w w' : World} {v : Value} {ps : List BunP} (h : BunsP Q w v ps) (f : Frm NoS w w') : BunsP Q w' v ps := ⟨Rd.keep0 h.rd f, fun p hp => (h.cau p hp).keep0 f⟩
theorem bun_at {w : World} {b off c n : Nat} {ps : List BunP} (h : Rd w (.slice (some ⟨b, off, none⟩) n c) n (bunC ps)) (k : Nat) (hk : k < ps.length) :
 w.cell? ⟨b, off + k * 10, none⟩ = some (.int .i64 (ps.getD k BunP.zero).b.dc) ∧ w.cell? ⟨b, off + k * 10 + 1, none⟩ = some (.int .i64 (ps.getD k BunP.zero).b.af) ∧ w.cell? ⟨b, off + k * 10 + 2, none⟩ = some (.int .i64 (ps.getD k BunP.zero).b.la) ∧
 w.cell? ⟨b, off + k * 10 + 3, none⟩ = some (.int .i64 (ps.getD k BunP.zero).b.v0) ∧ w.cell? ⟨b, off + k * 10 + 4, none⟩ = some (.int .i64 (ps.getD k BunP.zero).b.v1) ∧ w.cell? ⟨b, off + k * 10 + 5, none⟩ = some (.int .i64 (ps.getD k BunP.zero).b.v2) ∧ w.cell? ⟨b, off + k * 10 + 6, none⟩ = some (.int .i64 (ps.getD k BunP.zero).b.v3) ∧
 w.cell? ⟨b, off + k * 10 + 7, none⟩ = some (ps.getD k BunP.zero).ev ∧ w.cell? ⟨b, off + k * 10 + 8, none⟩ = some (ps.getD k BunP.zero).kv ∧ w.cell? ⟨b, off + k * 10 + 9, none⟩ = some (ps.getD k BunP.zero).cv :=
 have H := bunC_at ps k hk
 ⟨h.cell (k * 10) _ (H 0 (by omega)), h.cell (k * 10 + 1) _ (H 1 (by omega)), h.cell (k * 10 + 2) _ (H 2 (by omega)), h.cell (k * 10 + 3) _ (H 3 (by omega)), h.cell (k * 10 + 4) _ (H 4 (by omega)), h.cell (k * 10 + 5) _ (H 5 (by omega)), h.cell (k * 10 + 6) _ (H 6 (by omega)), h.cell (k * 10 + 7) _ (H 7 (by omega)), h.cell (k * 10 + 8) _ (H 8 (by omega)), h.cell (k * 10 + 9) _ (H 9 (by omega))⟩
noncomputable def pW (p : BunP) : Bool := !tf p.b.right
theorem anyP_take {p : BunP → Bool} {ss : List BunP} {k : Nat} (hk : k < ss.length) : (ss.take (k + 1)).any p = ((ss.take k).any p || p (ss.getD k BunP.zero)) := by
 rw [take_succ BunP.zero hk, List.any_append]
 simp
theorem anyP_here {p : BunP → Bool} {ss : List BunP} {k : Nat} (hk : k < ss.length) (h : p (ss.getD k BunP.zero) = true) : ss.any p = true :=
 List.any_eq_true.2 ⟨_, getD_mem BunP.zero hk, h⟩
theorem mRight1_any (Q : Nat → Prop) (es : List Ent) (ks : KidsL) (c : CtxL) (w : World) (dc af la v0 v1 v2 v3 : Int) (ev kv cv : Value) (h : CauAt Q w ev kv cv es ks c) (hok : CauOk es ks c) :
 Calls Tryz.prog 33 #[.agg #[.int .i64 dc, .int .i64 af, .int .i64 la, .int .i64 v0, .int .i64 v1, .int .i64 v2, .int .i64 v3, ev, kv, cv]] w fun e w' => e = .returned (.bool (!tf (BunRight dc af la (vecF v0 v1 v2 v3) es ks c))) ∧ Frm NoS w w' := by
 have HB := Lib.hid (fun W (f : Frm NoS w W) => bRight_any Q es ks c W dc af la v0 v1 v2 v3 ev kv cv (h.keep0 f) hok)
 obtain ⟨a0, c0, a1, c1, a2, c2, rfl, rfl, rfl⟩ := h.shape
 clear h hok
 have HFA := Lib.hid (show Frm NoS w (w.alloc (.cells #[.int .i64 dc, .int .i64 af, .int .i64 la, .int .i64 v0, .int .i64 v1, .int .i64 v2, .int .i64 v3, .slice a0 es.length c0, .slice a1 ks.len c1, .slice a2 c.length c2] 64)) from Frm.alloc _ _ _)
 generalize tf (BunRight dc af la (vecF v0 v1 v2 v3) es ks c) = y at *
 generalize es.length = n at *
 generalize ks.len = m at *
 generalize c.length = k at *
 go_enter Tryz.func33, Tryz.ntmps33
 go_wp2_with (go_at_call 34; refine (HB.out _ HFA.out).mono ?_; rintro e w1 ⟨rfl, hw1⟩; have HW1 := Lib.hid (HFA.out.then1 hw1); clear hw1)
 go_ret
 exact ⟨rfl, HW1.out⟩
theorem bunIdx_any (Q : Nat → Prop) (ps : List BunP) (w : World) (v : Value) (h : BunsP Q w v ps) (hok : ∀ p ∈ ps, CauOk p.b.es p.b.ks p.b.c) (hl : ps.length ≤ 100000) :
 Calls Tryz.prog 84 #[v, .func (.func 33) #[] #[]] w (IdxPost (ps.any pW) w) := by
 have eg : ∀ args w, (callFunc 33 args).run Tryz.prog w = .ok (.enter 33 args) w := enters_of Tryz.func33 (by kernel_rfl) rfl
 have HP := Lib.hid (fun p hp W (f : Frm NoS w W) => mRight1_any Q p.b.es p.b.ks p.b.c W p.b.dc p.b.af p.b.la p.b.v0 p.b.v1 p.b.v2 p.b.v3 p.ev p.kv p.cv ((h.cau p hp).keep0 f) (hok p hp))
 have HSH := Lib.hid (fun p hp => (h.cau p hp).shape)
 replace h := h.rd
 clear hok
 rcases Rd.shape h with ⟨ad, rfl, h0⟩ | ⟨b, off, c, rfl, hmax⟩
 · have HANY := Lib.hid (show ps.any pW = false by rw [List.eq_nil_of_length_eq_zero h0]; rfl)
   clear h h0
   go_enter Tryz.func84, Tryz.ntmps84
   go_wp2
   go_loop [8] (fun i => i = .int .i64 0) (fun _ => 0)
   case atStart => rfl
   case round =>
    obtain rfl := hrel
    go_wp2
    go_ret
    exact ⟨Frm.refl _ _, fun h => (by rw [HANY.out] at h; cases h), fun _ => rfl⟩
 · have HH := Lib.hid h; clear h
   generalize hn : ps.length = n at *
   have HN := Lib.hid hn; clear hn
   go_enter Tryz.func84, Tryz.ntmps84
   go_wp2
   go_loopw [8] (fun i W => ∃ k : Nat, k ≤ n ∧ i = .int .i64 k ∧ (ps.take k).any pW = false ∧ Frm NoS w W) (fun i _ => n - (intOf i).toNat)
   case atStart => exact ⟨0, Nat.zero_le _, rfl, by simp, Frm.refl _ _⟩
   case round =>
    obtain ⟨k, hk, rfl, ha, hw⟩ := hrel
    have HAN := Lib.hid ha; clear ha
    have HW := Lib.hid hw; clear hw
    by_cases hlt : k < n
    · have hlk : k < ps.length := by rw [HN.out]; exact hlt
      obtain ⟨q0, q1, q2, q3, q4, q5, q6, q7, q8, q9⟩ := bun_at HH.out k hlk
      replace q0 := HW.out.cell' q0 id
      replace q1 := HW.out.cell' q1 id
      replace q2 := HW.out.cell' q2 id
      replace q3 := HW.out.cell' q3 id
      replace q4 := HW.out.cell' q4 id
      replace q5 := HW.out.cell' q5 id
      replace q6 := HW.out.cell' q6 id
      replace q7 := HW.out.cell' q7 id
      replace q8 := HW.out.cell' q8 id
      replace q9 := HW.out.cell' q9 id
      have hm := getD_mem BunP.zero hlk
      have HC := Lib.hid (fun W f => HP.out _ hm W f)
      obtain ⟨a0, c0, a1, c1, a2, c2, e0, e1, e2⟩ := HSH.out _ hm
      have HT := Lib.hid (anyP_take (p := pW) hlk)
      have HE := Lib.hid (anyP_here (p := pW) hlk)
      rw [e0] at q7
      rw [e1] at q8
      rw [e2] at q9
      rw [e0, e1, e2] at HC
      clear hm e0 e1 e2
      have hpw : pW (ps.getD k BunP.zero) = !tf (BunRight (ps.getD k BunP.zero).b.dc (ps.getD k BunP.zero).b.af (ps.getD k BunP.zero).b.la (vecF (ps.getD k BunP.zero).b.v0 (ps.getD k BunP.zero).b.v1 (ps.getD k BunP.zero).b.v2 (ps.getD k BunP.zero).b.v3) (ps.getD k BunP.zero).b.es (ps.getD k BunP.zero).b.ks (ps.getD k BunP.zero).b.c) := rfl
      rw [← hpw] at HC
      clear hpw
      generalize pW (ps.getD k BunP.zero) = y at *
      generalize (ps.getD k BunP.zero).b.es.length = n0 at *
      generalize (ps.getD k BunP.zero).b.ks.len = n1 at *
      generalize (ps.getD k BunP.zero).b.c.length = n2 at *
      generalize (ps.getD k BunP.zero).b.dc = x0 at *
      generalize (ps.getD k BunP.zero).b.af = x1 at *
      generalize (ps.getD k BunP.zero).b.la = x2 at *
      generalize (ps.getD k BunP.zero).b.v0 = x3 at *
      generalize (ps.getD k BunP.zero).b.v1 = x4 at *
      generalize (ps.getD k BunP.zero).b.v2 = x5 at *
      generalize (ps.getD k BunP.zero).b.v3 = x6 at *
      cases y with
      | true =>
       have HEX := Lib.hid (HE.out rfl)
       clear HE HT
       go_wp2_with (go_at_call 33; refine (HC.out _ HW.out).mono ?_; rintro e w1 ⟨rfl, hw1⟩; have HW1 := Lib.hid (HW.out.then1 hw1); clear hw1)
       go_ret
       exact ⟨HW1.out, fun _ => ⟨k, rfl⟩, fun h => (by rw [HEX.out] at h; cases h)⟩
      | false =>
       have HTX := Lib.hid (show (ps.take (k + 1)).any pW = false by rw [HT.out, HAN.out]; rfl)
       clear HE HT
       go_wp2_with (go_at_call 33; refine (HC.out _ HW.out).mono ?_; rintro e w1 ⟨rfl, hw1⟩; have HW1 := Lib.hid (HW.out.then1 hw1); clear hw1)
       go_roundw
       case rel => exact ⟨k + 1, by omega, by go_num, HTX.out, HW1.out⟩
       case measure => simp [intOf]; omega
    · have hnk : n = k := by omega
      have hall : ps.any pW = false := by
       have := HAN.out
       rwa [List.take_of_length_le (by rw [HN.out, hnk]; exact Nat.le_refl _)] at this
      have HALL := Lib.hid hall; clear hall
      go_wp2
      go_ret
      exact ⟨HW.out, fun h => (by rw [HALL.out] at h; cases h), fun _ => rfl⟩
theorem bunHas_any (Q : Nat → Prop) (ps : List BunP) (w : World) (v : Value) (h : BunsP Q w v ps) (hok : ∀ p ∈ ps, CauOk p.b.es p.b.ks p.b.c) (hl : ps.length ≤ 100000) :
 Calls Tryz.prog 32 #[v, .func (.func 33) #[] #[]] w fun e w' => e = .returned (.bool (ps.any pW)) ∧ Frm NoS w w' := by
 have HI := Lib.hid (bunIdx_any Q ps w v h hok hl)
 obtain ⟨a, c, rfl⟩ := h.rd.sl
 clear h hok
 generalize ps.length = n at *
 cases ha : ps.any pW with
 | true =>
  have HA := Lib.hid ha; clear ha
  go_enter Tryz.func32, Tryz.ntmps32
  go_wp2_with (go_at_call 84; refine HI.out.mono ?_; rintro e w1 ⟨hw1, hy, -⟩; obtain ⟨k, he⟩ := hy HA.out; subst he; have HW1 := Lib.hid hw1; clear hw1 hy)
  go_ret
  exact ⟨by first | rfl | (simp; omega), HW1.out⟩
 | false =>
  have HA := Lib.hid ha; clear ha
  go_enter Tryz.func32, Tryz.ntmps32
  go_wp2_with (go_at_call 84; refine HI.out.mono ?_; rintro e w1 ⟨hw1, -, hy⟩; have he := hy HA.out; subst he; have HW1 := Lib.hid hw1; clear hw1 hy)
  go_ret
  exact ⟨by first | rfl | (simp; omega), HW1.out⟩
theorem mcenter_any (n : Int) (w : World) : Calls Tryz.prog 31 #[.int .i64 n] w fun e w' => e = .returned (.bool (decide (0 ≤ n ∧ n < 4))) ∧ w' = w := by
 by_cases h0 : 0 ≤ n
 · by_cases h4 : n < 4
   · rw [decide_eq_true (show 0 ≤ n ∧ n < 4 from ⟨h0, h4⟩)]
     go_enter Tryz.func31, Tryz.ntmps31
     go_wp2
     go_ret
     exact ⟨rfl, rfl⟩
   · rw [decide_eq_false (show ¬ (0 ≤ n ∧ n < 4) from fun h => h4 h.2)]
     go_enter Tryz.func31, Tryz.ntmps31
     go_wp2
     go_ret
     exact ⟨rfl, rfl⟩
 · rw [decide_eq_false (show ¬ (0 ≤ n ∧ n < 4) from fun h => h0 h.1)]
   go_enter Tryz.func31, Tryz.ntmps31
   go_wp2
   go_ret
   exact ⟨rfl, rfl⟩
def vecC (f : Int → Int) : Array Value := #[.int .i64 (f 0), .int .i64 (f 1), .int .i64 (f 2), .int .i64 (f 3)]
theorem vecC_at (f : Int → Int) {k : Nat} (h : k < 4) : (vecC f)[k]? = some (.int .i64 (f k)) := by
 rcases (by omega : k = 0 ∨ k = 1 ∨ k = 2 ∨ k = 3) with rfl | rfl | rfl | rfl <;> rfl
theorem vecC_set (f : Int → Int) {k : Nat} (h : k < 4) (x : Int) : (vecC f).setIfInBounds k (.int .i64 x) = vecC (setF f k x) := by
 rcases (by omega : k = 0 ∨ k = 1 ∨ k = 2 ∨ k = 3) with rfl | rfl | rfl | rfl <;> simp [vecC, setF]
theorem vecC_congr {f g : Int → Int} (h : ∀ d, 0 ≤ d → d < 4 → f d = g d) : vecC f = vecC g := by
 unfold vecC
 rw [h 0 (by decide) (by decide), h 1 (by decide) (by decide), h 2 (by decide) (by decide), h 3 (by decide) (by decide)]
def VecAt (w : World) (g : Nat) (f : Int → Int) (T : TypeId) : Prop := w.heap[g]? = some (.cells (vecC f) T (0, 0))
theorem VecAt.cell {w : World} {g : Nat} {f : Int → Int} {T : TypeId} (h : VecAt w g f T) {k : Nat} (hk : k < 4) : w.cell? ⟨g, k, none⟩ = some (.int .i64 (f k)) := cell_at' h k (vecC_at f hk)
theorem VecAt.free {w : World} {g : Nat} {f : Int → Int} {T : TypeId} (h : VecAt w g f T) (k : Nat) : w.frozen? ⟨g, k, none⟩ = false := free_at' h k
theorem VecAt.set {w : World} {g : Nat} {f : Int → Int} {T : TypeId} (h : VecAt w g f T) {k : Nat} (hk : k < 4) (x : Int) : VecAt (w.setCell ⟨g, k, none⟩ (.int .i64 x)) g (setF f k x) T := by
 have := set_at' h k (.int .i64 x)
 rw [vecC_set f hk] at this
 exact this
theorem VecAt.keep {w w' : World} {g : Nat} {f : Int → Int} {T : TypeId} (h : VecAt w g f T) (fr : Frm NoS w w') : VecAt w' g f T := fr.blk h id
theorem VecAt.congr {w : World} {g : Nat} {f f' : Int → Int} {T : TypeId} (h : VecAt w g f T) (he : ∀ d, 0 ≤ d → d < 4 → f d = f' d) : VecAt w g f' T := by
 unfold VecAt at *
 rw [← vecC_congr he]
 exact h
theorem VecAt.set4 {w : World} {b : Nat} {f : Int → Int} {T : TypeId} (h : VecAt w b f T) (g : Int → Int) : VecAt ((((w.setCell ⟨b, 0, none⟩ (.int .i64 (g 0))).setCell ⟨b, 1, none⟩ (.int .i64 (g 1))).setCell ⟨b, 2, none⟩ (.int .i64 (g 2))).setCell ⟨b, 3, none⟩ (.int .i64 (g 3))) b g T :=
 set_at' (set_at' (set_at' (set_at' h 0 _) 1 _) 2 _) 3 _
theorem Frm.set4 {w0 w : World} {b : Nat} (f : Frm NoS w0 w) (hb : w0.heap.size ≤ b) (v0 v1 v2 v3 : Value) : Frm NoS w0 ((((w.setCell ⟨b, 0, none⟩ v0).setCell ⟨b, 1, none⟩ v1).setCell ⟨b, 2, none⟩ v2).setCell ⟨b, 3, none⟩ v3) :=
 (((f.set1 (p := ⟨b, 0, none⟩) (.inr hb)).set1 (p := ⟨b, 1, none⟩) (.inr hb)).set1 (p := ⟨b, 2, none⟩) (.inr hb)).set1 (p := ⟨b, 3, none⟩) (.inr hb)
def upZ (f : Int → Int) (k : Nat) (d : Int) : Int := if d < k then f d else 0
theorem upZ_step (f : Int → Int) (k : Nat) (d : Int) : setF (upZ f k) k (f k) d = upZ f (k + 1) d := by
 unfold setF upZ
 by_cases h : d = k
 · subst h; simp; intro h3; omega
 · rw [if_neg h]
   by_cases h2 : d < k
   · rw [if_pos h2, if_pos (by omega)]
   · rw [if_neg h2, if_neg (by omega)]
theorem upZ_all (f : Int → Int) {d : Int} (h : d < 4) : upZ f 4 d = f d := by unfold upZ; exact if_pos (by omega)
structure VecMk (w w1 ww : World) (f : Int → Int) (T : TypeId) : Prop where
 a : VecAt ww (w.heap.size + 1) f T
 r : VecAt ww w.heap.size (fun _ => 0) T
 frm : Frm NoS w ww
 old : Frm (fun b => b = w.heap.size + 1) w1 ww
theorem VecMk.keep {w w1 ww w' : World} {f : Int → Int} {T : TypeId} (h : VecMk w w1 ww f T) (fr : Frm NoS ww w') : VecMk w w1 w' f T := ⟨h.a.keep fr, h.r.keep fr, h.frm.then1 fr, h.old.then1 fr⟩
theorem VecMk.set {w w1 ww : World} {f : Int → Int} {T : TypeId} (h : VecMk w w1 ww f T) {k : Nat} (hk : k < 4) (x : Int) : VecMk w w1 (ww.setCell ⟨w.heap.size + 1, k, none⟩ (.int .i64 x)) (setF f k x) T :=
 ⟨h.a.set hk x, (set_else (by omega)).trans h.r, h.frm.set1 (.inr (Nat.le_succ _)), h.old.set1 (.inl rfl)⟩
theorem VecMk.congr {w w1 ww : World} {f f' : Int → Int} {T : TypeId} (h : VecMk w w1 ww f T) (he : ∀ d, 0 ≤ d → d < 4 → f d = f' d) : VecMk w w1 ww f' T := ⟨h.a.congr he, h.r, h.frm, h.old⟩
def frontL : RunL → Int
 | [] => 0
 | r :: _ => if r.1 = 1 then r.2 else 0
theorem frontL_ne {l : RunL} (h : l ≠ []) : frontL l = if (l.getD 0 (0, 0)).1 = 1 then (l.getD 0 (0, 0)).2 else 0 := by
 cases l with
 | nil => exact absurd rfl h
 | cons r l => rfl
theorem sFront_any (w : World) (v : Value) (l : RunL) (h : RunAt w v l) (hr : RightR l) : Calls Tryz.prog 136 #[v] w fun e w' => e = .returned (.int .i64 (frontL l)) ∧ Frm NoS w w' := by
 have HR := Lib.hid (tf_true hr ▸ sRight_any w v l h hr.fits)
 rcases Rd.shape h with ⟨ad, rfl, h0⟩ | ⟨b, off, c, rfl, hmax⟩
 · obtain rfl : l = [] := List.eq_nil_of_length_eq_zero h0
   clear h hr
   go_enter Tryz.func136, Tryz.ntmps136
   go_wp2_with (go_at_call 171; refine HR.out.mono ?_; rintro e w1 ⟨rfl, hw1⟩; have HW1 := Lib.hid hw1; clear hw1)
   go_ret
   exact ⟨rfl, HW1.out⟩
 · by_cases hl : l = []
   · subst hl
     clear h hr
     go_enter Tryz.func136, Tryz.ntmps136
     go_wp2_with (go_at_call 171; refine HR.out.mono ?_; rintro e w1 ⟨rfl, hw1⟩; have HW1 := Lib.hid hw1; clear hw1)
     go_ret
     exact ⟨rfl, HW1.out⟩
   · have hp : 0 < l.length := List.length_pos_iff.2 hl
     obtain ⟨c0, c1⟩ := run_at h rfl 0 hp
     rw [Nat.zero_mul, Nat.add_zero] at c0 c1
     have HF := Lib.hid (frontL_ne hl)
     have C0 := Lib.hid c0; clear c0
     have C1 := Lib.hid c1; clear c1
     have hn0 : ((l.length : Int) == 0) = false := beq_false_of_ne (by omega)
     have hn1 : (1 : Int) ≤ l.length := by omega
     generalize (l.getD 0 (0, 0)).1 = x at *
     generalize (l.getD 0 (0, 0)).2 = y at *
     clear h hr hl hp
     generalize l.length = n at *
     by_cases hx : x = 1
     · subst hx
       rw [if_pos rfl] at HF
       go_enter Tryz.func136, Tryz.ntmps136
       go_wp2_with (go_at_call 171; refine HR.out.mono ?_; rintro e w1 ⟨rfl, hw1⟩; have d0 := hw1.cell' C0.out id; have d1 := hw1.cell' C1.out id; have HW1 := Lib.hid hw1; clear hw1)
       go_ret
       exact ⟨by rw [HF.out]; rfl, HW1.out⟩
     · rw [if_neg hx] at HF
       have hxb : ((x : Int) != 1) = true := by simp [bne, hx]
       clear hx
       go_enter Tryz.func136, Tryz.ntmps136
       go_wp2_with (go_at_call 171; refine HR.out.mono ?_; rintro e w1 ⟨rfl, hw1⟩; have d0 := hw1.cell' C0.out id; have d1 := hw1.cell' C1.out id; have HW1 := Lib.hid hw1; clear hw1)
       go_ret
       exact ⟨by rw [HF.out]; rfl, HW1.out⟩
theorem runs_two {l : RunL} {lo : Int} (h : RunsFrom lo l) (hlo : 2 ≤ lo) : ∀ r ∈ l, r.1 ≠ 1 := by
 induction l generalizing lo with
 | nil => intro r hr; cases hr
 | cons a l ih =>
  intro r hr
  obtain ⟨h1, h2, h3⟩ := h
  rcases List.mem_cons.1 hr with rfl | hr
  · omega
  · exact ih h3 (by omega) r hr
theorem r6Front_any (w : World) (v : Value) (l : RunL) (h : RunAt w v l) (hr : ∀ k, 0 < k → k < l.length → (l.getD k (0, 0)).1 ≠ 1) : Calls Tryz.prog 92 #[v] w fun e w' => e = .returned (.int .i64 (frontL l)) ∧ Frm NoS w w' := by
 obtain ⟨a, c, rfl⟩ := Rd.sl h
 have HH := Lib.hid h; clear h
 have HR := Lib.hid hr; clear hr
 generalize hn : l.length = n at *
 have HN := Lib.hid hn; clear hn
 go_enter Tryz.func92, Tryz.ntmps92
 go_wp2
 go_loopw [6] (fun i W => ∃ k : Nat, k ≤ n ∧ i = .int .i64 k ∧ (0 < k → frontL l = 0) ∧ W = w) (fun i _ => n - (intOf i).toNat)
 case atStart => exact ⟨0, Nat.zero_le _, rfl, fun h => absurd h (by omega), rfl⟩
 case round =>
  obtain ⟨k, hk, rfl, hz, rfl⟩ := hrel
  have HZ := Lib.hid hz; clear hz
  by_cases hlt : k < n
  · have hkl : k < l.length := by rw [HN.out]; exact hlt
    have hrd := HH.out
    rcases Rd.shape hrd with ⟨ad, he, h0⟩ | ⟨b, off, cc, he, hmax⟩
    · exfalso; have := HN.out; omega
    injection he with e1 e2 e3
    subst e1 e3
    clear e2
    obtain ⟨q0, q1⟩ := run_at HH.out HN.out.symm k hkl
    have hmx : (n : Int) ≤ 9223372036854775807 := by have := HN.out; omega
    clear hrd hmax
    have HK0 := Lib.hid (fun h0 : 0 < k => HR.out k h0 hlt)
    have HF0 := Lib.hid (show k = 0 → frontL l = if (l.getD k (0, 0)).1 = 1 then (l.getD k (0, 0)).2 else 0 from fun h0 => by subst h0; exact frontL_ne (l := l) (fun e => by rw [e] at hkl; cases hkl))
    generalize (l.getD k (0, 0)).1 = x at *
    generalize (l.getD k (0, 0)).2 = y at *
    by_cases hx : x = 1
    · have hk0 : k = 0 := by
       by_cases h0 : 0 < k
       · exact absurd hx (HK0.out h0)
       · omega
      have HF := Lib.hid (HF0.out hk0)
      rw [if_pos hx] at HF
      subst hx
      clear HK0 HF0 hk0
      go_wp2
      go_ret
      exact ⟨by rw [HF.out]; rfl, Frm.refl _ _⟩
    · have hxb : ((x : Int) == 1) = false := beq_false_of_ne hx
      have HZ2 := Lib.hid (show 0 < k + 1 → frontL l = 0 from fun _ => by
       by_cases h0 : 0 < k
       · exact HZ.out h0
       · rw [HF0.out (by omega), if_neg hx])
      clear HK0 HF0 hx
      go_wp2
      go_roundw
      case rel => exact ⟨k + 1, by omega, by go_num, HZ2.out, trivial⟩
      case measure => simp [intOf]; omega
  · obtain rfl : n = k := by omega
    have HF := Lib.hid (show frontL l = 0 by
     by_cases h0 : 0 < n
     · exact HZ.out h0
     · obtain rfl : l = [] := List.eq_nil_of_length_eq_zero (by rw [HN.out]; omega)
       rfl)
    go_wp2
    go_ret
    exact ⟨by rw [HF.out]; rfl, Frm.refl _ _⟩
theorem cVector_any (w : World) (v : Value) (ct : CtxL) (h : CtxAt w v ct) (hr : RightC ct) (hl : ct.length ≤ 100000) : Calls Tryz.prog 91 #[v] w fun e w' => e = .returned (.agg (vecC fun d => frontL (partL ct d))) ∧ Frm NoS w w' := by
 have HC := Lib.hid (fun W (fr : Frm NoS w W) => capart_any W v ct (Rd.keep0 h fr) hr.fits (by omega))
 obtain ⟨a, c, rfl⟩ := Rd.sl h
 have HRT := Lib.hid hr
 have HPR := Lib.hid (fun d h0 h4 => (hr.2 d h0 h4 : RightR (partL ct d)))
 clear h hr
 generalize hf : (fun d => frontL (partL ct d)) = f at *
 have HFF := Lib.hid (fun d => (by rw [← hf] : f d = frontL (partL ct d)))
 clear hf
 generalize ct.length = n at *
 obtain ⟨hb1, hfb, hbs⟩ := two_blocks w (.cells #[.int .i64 0, .int .i64 0, .int .i64 0, .int .i64 0] 23) #[.int .i64 0, .int .i64 0, .int .i64 0, .int .i64 0] 23
 have hb0 : ((w.alloc (.cells #[.int .i64 0, .int .i64 0, .int .i64 0, .int .i64 0] 23)).alloc (.cells #[.int .i64 0, .int .i64 0, .int .i64 0, .int .i64 0] 23)).heap[w.heap.size]? = some (.cells #[.int .i64 0, .int .i64 0, .int .i64 0, .int .i64 0] 23 (0, 0)) := (Frm.alloc NoS _ _).blk (heap_alloc_new w _) id
 have HB1 := Lib.hid hb1; clear hb1
 have HB0 := Lib.hid hb0; clear hb0
 have HFB := Lib.hid hfb; clear hfb
 have HBS := Lib.hid hbs; clear hbs
 go_enter Tryz.func91, Tryz.ntmps91
 go_wp2_with (go_at_call 135; refine (HC.out _ HFB.out).mono ?_; rintro e w1 ⟨hf1, hp1, -⟩; obtain ⟨A, rfl, hpt⟩ := hp1 HRT.out; clear hp1; have HF1 := Lib.hid hf1; clear hf1; have HPT := Lib.hid hpt; clear hpt)
 have hix : ∀ (k : Nat), k < 4 → ∀ W, (Instr.index 190 (.agg #[.slice (A 0).1 (A 0).2.1 (A 0).2.2, .slice (A 1).1 (A 1).2.1 (A 1).2.2, .slice (A 2).1 (A 2).2.1 (A 2).2.2, .slice (A 3).1 (A 3).2.1 (A 3).2.2]) (.int .i64 (k : Int))).run Tryz.prog W = .ok (.slice (A k).1 (A k).2.1 (A k).2.2) W := fun k hk => by
  rcases (by omega : k = 0 ∨ k = 1 ∨ k = 2 ∨ k = 3) with rfl | rfl | rfl | rfl <;> exact fun _ => by kernel_rfl
 have HIX := Lib.hid hix; clear hix
 have hfa : Frm NoS w1 (w1.alloc (.cells #[.slice (A 0).1 (A 0).2.1 (A 0).2.2, .slice (A 1).1 (A 1).2.1 (A 1).2.2, .slice (A 2).1 (A 2).2.1 (A 2).2.2, .slice (A 3).1 (A 3).2.1 (A 3).2.2] 190)) := Frm.alloc _ _ _
 have hst : VecMk w w1 (w1.alloc (.cells #[.slice (A 0).1 (A 0).2.1 (A 0).2.2, .slice (A 1).1 (A 1).2.1 (A 1).2.2, .slice (A 2).1 (A 2).2.1 (A 2).2.2, .slice (A 3).1 (A 3).2.1 (A 3).2.2] 190)) (fun _ => 0) 23 :=
  ⟨hfa.blk (HF1.out.blk HB1.out id) id, hfa.blk (HF1.out.blk HB0.out id) id, (HFB.out.then1 HF1.out).then1 hfa, hfa.mono fun _ _ h => h.elim⟩
 have HST := Lib.hid hst; clear hst hfa
 go_loopw [15] (fun i ww => ∃ k : Nat, k ≤ 4 ∧ i = .int .i64 k ∧ VecMk w w1 ww (upZ f k) 23) (fun i _ => 4 - (intOf i).toNat)
 case atStart => exact ⟨0, Nat.zero_le _, rfl, HST.out.congr fun d h0 h4 => by unfold upZ; rw [if_neg (by omega)]⟩
 case round =>
  obtain ⟨k, hk, rfl, hv⟩ := hrel
  have HV := Lib.hid hv; clear hv
  by_cases hlt : k < 4
  · have hki : (k : Int) < 4 := by omega
    have hx := HIX.out k hlt
    have ho := HPT.out.own k hlt
    have hsz1 := HBS.out
    have hrun : RunAt wr (.slice (A k).1 (A k).2.1 (A k).2.2) (partL ct k) := ho.rd.keep HV.out.old fun b hb he => by have := ho.new b hb; omega
    have HFR := Lib.hid (HFF.out k ▸ sFront_any wr _ (partL ct k) hrun (HPR.out k (by omega) hki))
    have HUP := Lib.hid (fun d => upZ_step f k d)
    clear ho hrun hsz1
    obtain ⟨ak, lk, ck, hak⟩ : ∃ ak lk ck, A k = (ak, lk, ck) := ⟨_, _, _, rfl⟩
    rw [hak] at hx HFR
    clear hak
    generalize f k = x at *
    go_wp2_with (go_at_call 136; refine HFR.out.mono ?_; rintro e w2 ⟨rfl, hw2⟩; have HV2 := Lib.hid (HV.out.keep hw2); clear hw2; have z0 := HV2.out.a.cell hlt; have g0 := HV2.out.a.free k; have HV3 := Lib.hid (HV2.out.set hlt x))
    clear z0 g0
    go_roundw
    case rel => exact ⟨k + 1, by omega, by go_num, HV3.out.congr fun d h0 h4 => HUP.out d⟩
    case measure => simp [intOf]; omega
  · obtain rfl : k = 4 := by omega
    have HV2 := Lib.hid (HV.out.congr fun d h0 h4 => upZ_all f h4)
    have a0' := HV2.out.a.cell (k := 0) (by decide)
    have a1' := HV2.out.a.cell (k := 1) (by decide)
    have a2' := HV2.out.a.cell (k := 2) (by decide)
    have a3' := HV2.out.a.cell (k := 3) (by decide)
    have r0 := HV2.out.r.cell (k := 0) (by decide)
    have r1 := HV2.out.r.cell (k := 1) (by decide)
    have r2 := HV2.out.r.cell (k := 2) (by decide)
    have r3 := HV2.out.r.cell (k := 3) (by decide)
    have g0 := HV2.out.r.free 0
    have g1 := HV2.out.r.free 1
    have g2 := HV2.out.r.free 2
    have g3 := HV2.out.r.free 3
    have HR := Lib.hid (HV2.out.r.set4 f)
    have HF := Lib.hid (HV2.out.frm.set4 (b := w.heap.size) (Nat.le_refl _) (.int .i64 (f 0)) (.int .i64 (f 1)) (.int .i64 (f 2)) (.int .i64 (f 3)))
    go_wp2
    clear a0' a1' a2' a3' r0 r1 r2 r3 g0 g1 g2 g3
    have r0 := HR.out.cell (k := 0) (by decide)
    have r1 := HR.out.cell (k := 1) (by decide)
    have r2 := HR.out.cell (k := 2) (by decide)
    have r3 := HR.out.cell (k := 3) (by decide)
    exact bodyPost_ret (v := .agg (vecC f)) (by simp [results, Tryz.results91, go_sem, r0, r1, r2, r3, vecC]) rfl ⟨rfl, HF.out⟩
def solB : RunL → Bool
 | [] => true
 | [r] => r.1 == 1
 | _ => false
def solK (c : CtxL) (k : Nat) : Bool := (List.range k).all fun d => solB (partL c d)
theorem solK_succ (c : CtxL) (k : Nat) : solK c (k + 1) = (solK c k && solB (partL c k)) := by
 unfold solK
 rw [List.range_succ, List.all_append]
 simp
def frV (c : CtxL) (d : Int) : Int := frontL (partL c d)
theorem full_front {l : RunL} (h : RightR l) : fullP (frontL l) = l ↔ solB l = true := by
 match l, h with
 | [], _ => exact ⟨fun _ => rfl, fun _ => rfl⟩
 | [(a, b)], h =>
  have h1 : 1 ≤ a ∧ a ≤ b := by
   obtain ⟨⟨g1, g2, _⟩, _⟩ := h
   exact ⟨g1, g2⟩
  by_cases ha : a = 1
  · subst ha
    refine ⟨fun _ => rfl, fun _ => ?_⟩
    show fullP (if (1 : Int) = 1 then b else 0) = _
    rw [if_pos rfl]
    exact if_pos (by omega)
  · constructor
    · intro e
      exfalso
      have e2 : frontL [(a, b)] = 0 := if_neg ha
      rw [e2] at e
      cases e
    · intro e
      exact absurd (eq_of_beq (show (a == 1) = true from e)) ha
 | r :: r2 :: l, _ =>
  constructor
  · intro e
    exfalso
    have e2 := congrArg List.length e
    unfold fullP at e2
    split at e2
    · simp at e2
    · simp at e2
  · intro e
    cases e
theorem solid_iff {c : CtxL} (h : RightC c) : solK c 4 = true ↔ c = fullL (frV c) := by
 have e4 : solK c 4 = (solB (partL c 0) && (solB (partL c 1) && (solB (partL c 2) && solB (partL c 3)))) := by
  unfold solK
  simp [List.range, List.range.loop, Bool.and_assoc]
 have p : ∀ d : Int, 0 ≤ d → d < 4 → (fullP (frV c d) = partL c d ↔ solB (partL c d) = true) := fun d h0 h4 => full_front (h.2 d h0 h4)
 rw [e4]
 simp only [Bool.and_eq_true]
 constructor
 · rintro ⟨g0, g1, g2, g3⟩
   have e0 := (p 0 (by decide) (by decide)).2 g0
   have e1 := (p 1 (by decide) (by decide)).2 g1
   have e2 := (p 2 (by decide) (by decide)).2 g2
   have e3 := (p 3 (by decide) (by decide)).2 g3
   refine (whole_parts (Int.le_refl 0) h.1).symm.trans ?_
   show spansL 0 (partL c 0) ++ (spansL 1 (partL c 1) ++ (spansL 2 (partL c 2) ++ spansL 3 (partL c 3))) = spansL 0 (fullP (frV c 0)) ++ (spansL 1 (fullP (frV c 1)) ++ (spansL 2 (fullP (frV c 2)) ++ spansL 3 (fullP (frV c 3))))
   rw [e0, e1, e2, e3]
 · intro e
   have key : ∀ d : Int, 0 ≤ d → d < 4 → solB (partL c d) = true := fun d h0 h4 => (p d h0 h4).1 (by
    have e5 : partL (fullL (frV c)) d = fullP (frV c d) := partL_whole _ h0 h4
    rw [← e] at e5
    exact e5.symm)
   exact ⟨key 0 (by decide) (by decide), key 1 (by decide) (by decide), key 2 (by decide) (by decide), key 3 (by decide) (by decide)⟩
theorem cSolid_any (w : World) (v : Value) (ct : CtxL) (h : CtxAt w v ct) (hr : RightC ct) (hl : ct.length ≤ 100000) : Calls Tryz.prog 90 #[v] w fun e w' => e = .returned (.bool (solK ct 4)) ∧ Frm NoS w w' := by
 have HC := Lib.hid (capart_any w v ct h hr.fits (by omega))
 obtain ⟨a, c, rfl⟩ := Rd.sl h
 have HRT := Lib.hid hr
 clear h hr
 generalize ct.length = n at *
 go_enter Tryz.func90, Tryz.ntmps90
 go_wp2_with (go_at_call 135; refine HC.out.mono ?_; rintro e w1 ⟨hf1, hp1, -⟩; obtain ⟨A, rfl, hpt⟩ := hp1 HRT.out; clear hp1; have HF1 := Lib.hid hf1; clear hf1; have HPT := Lib.hid hpt; clear hpt)
 have hix : ∀ (k : Nat), k < 4 → ∀ W, (Instr.index 190 (.agg #[.slice (A 0).1 (A 0).2.1 (A 0).2.2, .slice (A 1).1 (A 1).2.1 (A 1).2.2, .slice (A 2).1 (A 2).2.1 (A 2).2.2, .slice (A 3).1 (A 3).2.1 (A 3).2.2]) (.int .i64 (k : Int))).run Tryz.prog W = .ok (.slice (A k).1 (A k).2.1 (A k).2.2) W := fun k hk => by
  rcases (by omega : k = 0 ∨ k = 1 ∨ k = 2 ∨ k = 3) with rfl | rfl | rfl | rfl <;> exact fun _ => by kernel_rfl
 have HIX := Lib.hid hix; clear hix
 have hfa : Frm NoS w1 (w1.alloc (.cells #[.slice (A 0).1 (A 0).2.1 (A 0).2.2, .slice (A 1).1 (A 1).2.1 (A 1).2.2, .slice (A 2).1 (A 2).2.1 (A 2).2.2, .slice (A 3).1 (A 3).2.1 (A 3).2.2] 190)) := Frm.alloc _ _ _
 have HFA := Lib.hid hfa; clear hfa
 go_loopw [4, 13] (fun o i ww => ∃ k : Nat, k ≤ 4 ∧ i = .int .i64 k ∧ o = .bool (solK ct k) ∧ Frm NoS w1 ww) (fun _ i _ => 4 - (intOf i).toNat)
 case atStart => exact ⟨0, Nat.zero_le _, rfl, rfl, HFA.out⟩
 case round =>
  obtain ⟨k, hk, rfl, rfl, hw⟩ := hrel
  have HW := Lib.hid hw; clear hw
  by_cases hlt : k < 4
  · have hki : (k : Int) < 4 := by omega
    have hx := HIX.out k hlt
    have ho := HPT.out.own k hlt
    have HS := Lib.hid (solK_succ ct k)
    obtain ⟨ak, lk, ck, hak⟩ : ∃ ak lk ck, A k = (ak, lk, ck) := ⟨_, _, _, rfl⟩
    rw [hak] at hx ho
    have hro : Rd wr (.slice ak lk ck) (partL ct k).length (ruC (partL ct k)) := ho.rd.keep0 HW.out
    generalize partL ct k = l at *
    obtain ⟨a', c', e⟩ := hro.sl
    injection e with e1 e2 e3
    subst e1 e2 e3
    clear ho hak
    cases hq : solK ct k with
    | false =>
     rw [hq] at HS
     clear hro
     generalize l.length = ln at *
     go_wp2
     go_roundw
     case rel => exact ⟨k + 1, by omega, by go_num, by rw [HS.out]; rfl, HW.out⟩
     case measure => simp [intOf]; omega
    | true =>
     rw [hq] at HS
     rcases l with _ | ⟨r, _ | ⟨r2, l'⟩⟩
     · simp only [List.length_nil] at hx
       clear hro
       go_wp2
       go_roundw
       case rel => exact ⟨k + 1, by omega, by go_num, by rw [HS.out]; rfl, HW.out⟩
       case measure => simp [intOf]; omega
     · replace hx : ∀ W, _ = Result.ok (Value.slice _ 1 _) W := hx
       rcases Rd.shape hro with ⟨ad, he, h0⟩ | ⟨g, off, cc, he, hmax⟩
       · cases h0
       injection he with e4 e5 e6
       subst e4
       have c0 := (run_at (l := [r]) (n := 1) (c := ck) (show RunAt wr (.slice (some ⟨g, off, none⟩) 1 ck) [r] from hro) rfl 0 (Nat.succ_pos _)).1
       rw [Nat.zero_mul, Nat.add_zero] at c0
       replace c0 : wr.cell? ⟨g, off, none⟩ = some (.int .i64 r.1) := c0
       have HS2 := Lib.hid (show solK ct (k + 1) = (true && (r.1 == 1)) from HS.out)
       generalize r.1 = x at *
       clear hro hmax HS e5 e6
       by_cases hx1 : x = 1
       · subst hx1
         go_wp2
         go_roundw
         case rel => exact ⟨k + 1, by omega, by go_num, by rw [HS2.out]; rfl, HW.out⟩
         case measure => simp [intOf]; omega
       · have hxb : ((x : Int) == 1) = false := beq_false_of_ne hx1
         rw [hxb] at HS2
         clear hx1
         go_wp2
         go_roundw
         case rel => exact ⟨k + 1, by omega, by go_num, by rw [HS2.out]; rfl, HW.out⟩
         case measure => simp [intOf]; omega
     · have hl0 : (((r :: r2 :: l').length : Int) == 0) = false := beq_false_of_ne (by simp; omega)
       have hl1 : (((r :: r2 :: l').length : Int) == 1) = false := beq_false_of_ne (by simp; omega)
       have HS2 := Lib.hid (show solK ct (k + 1) = (true && false) from HS.out)
       clear hro HS
       generalize (r :: r2 :: l').length = ln at *
       go_wp2
       go_roundw
       case rel => exact ⟨k + 1, by omega, by go_num, by rw [HS2.out]; rfl, HW.out⟩
       case measure => simp [intOf]; omega
  · obtain rfl : k = 4 := by omega
    go_wp2
    go_ret
    exact ⟨rfl, HF1.out.then1 HW.out⟩
end Go.Proofs.YtcahemkomfaabaaGreat
