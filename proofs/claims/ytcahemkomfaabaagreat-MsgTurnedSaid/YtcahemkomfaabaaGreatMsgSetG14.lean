/- Words for the law MsgSet: Enc2, VecEnc, RTake, RTake2, RIn, RIText, Takes0, Puts0, PackGet, GetAt. -/
import Derived.Test.YtcahemkomfaabaaGreatMsgSetG4
import Derived.Test.YtcahemkomfaabaaGreatMsgSetG9
import Derived.Test.YtcahemkomfaabaaGreatMsgSetG12
import Derived.Test.YtcahemkomfaabaaGreatMsgSetG13
import Derived.Deep.RegionWith
import Derived.Deep.RegionHeld3
import Derived.Deep.RegionLaw
set_option linter.unusedSimpArgs false
set_option linter.unusedVariables false
set_option maxHeartbeats 32000000
set_option maxRecDepth 1000000
namespace Go.Proofs.YtcahemkomfaabaaGreat
open Go.RowKit
structure GetOk (B : Lim) (d : Nat) (bs : List UInt8) (es : List Ent) (ks : KidsL) (rest : List UInt8) : Prop where
 eq : bs = encT es ks ++ rest
 ebd : ∀ e ∈ es, e.bd B
 kbd : ks.bd B
 deep : deepK ks + 1 ≤ d
structure KsOk (B : Lim) (d : Nat) (bs : List UInt8) (m : Nat) (ks : KidsL) (rest : List UInt8) : Prop where
 eq : bs = encK ks ++ rest
 len : ks.len = m
 kbd : ks.bd B
 deep : deepK ks ≤ d
def GetRes (B : Lim) (d : Nat) (st : Option (List UInt8)) (es : List Ent) (ks : KidsL) (s : Option (List UInt8)) : Prop :=
 (∃ bs rest, st = some bs ∧ s = some rest ∧ GetOk B d bs es ks rest) ∨ (s = none ∧ ∀ bs es ks rest, st = some bs → ¬ GetOk B d bs es ks rest)
theorem encK_app : ∀ (l : List KidQ) (r : KidsL), encK (appK l r) = encK (mkK l) ++ encK r
 | [], _ => rfl
 | q :: l, r => by
  show encK (.cons q.key q.es q.sub (appK l r)) = encK (.cons q.key q.es q.sub (mkK l)) ++ _
  rw [encK_cons, encK_cons, encK_app l r]
  simp only [List.append_assoc]
theorem appK_bd {B : Lim} : ∀ {l : List KidQ} {r : KidsL}, (mkK l).bd B → r.bd B → (appK l r).bd B
 | [], _, _, h => h
 | q :: l, r, h, k => ⟨h.1, h.2.1, h.2.2.1, appK_bd (l := l) h.2.2.2 k⟩
theorem appK_deep {d : Nat} : ∀ {l : List KidQ} {r : KidsL}, deepK (mkK l) ≤ d → deepK r ≤ d → deepK (appK l r) ≤ d
 | [], _, _, h => h
 | q :: l, r, h, k => by
  have h : max (1 + deepK q.sub) (deepK (mkK l)) ≤ d := h
  have := appK_deep (l := l) (r := r) (d := d) (by omega) k
  show max (1 + deepK q.sub) (deepK (appK l r)) ≤ d
  omega
def KidsL.takeQ : Nat → KidsL → List KidQ
 | 0, _ => []
 | _ + 1, .nil => []
 | n + 1, .cons key es sub rest => ⟨key, es, sub, .slice none 0 0, .slice none 0 0⟩ :: KidsL.takeQ n rest
theorem KidsL.take_drop : ∀ (n : Nat) (ks : KidsL), ks = appK (ks.takeQ n) (ks.drop n)
 | 0, _ => rfl
 | _ + 1, .nil => rfl
 | n + 1, .cons key es sub rest => by
  show _ = KidsL.cons key es sub (appK (rest.takeQ n) (rest.drop n))
  rw [← KidsL.take_drop n rest]
theorem KidsL.takeQ_len : ∀ (n : Nat) (ks : KidsL), n ≤ ks.len → (ks.takeQ n).length = n
 | 0, _, _ => rfl
 | _ + 1, .nil, h => by cases h
 | n + 1, .cons _ _ _ rest, h => by
  show (rest.takeQ n).length + 1 = n + 1
  rw [KidsL.takeQ_len n rest (by have h : n + 1 ≤ rest.len + 1 := h; omega)]
theorem KsOk.next {B : Lim} {d m : Nat} {b3 r rest : List UInt8} {ks : KidsL} {l : List KidQ} (h : KsOk B d b3 m ks rest) (hb : b3 = encK (mkK l) ++ r) (hk : l.length < m) :
 ∃ key es sub q, r = textB key ++ (encT es sub ++ q) ∧ (key.size : Int) ≤ B.s ∧ GetOk B d (encT es sub ++ q) es sub q := by
 have hlen := h.len
 obtain ⟨key, es, sub, rst, hd⟩ := KidsL.drop_some (n := l.length) (ks := ks) (by omega)
 have hq : (ks.takeQ l.length).length = l.length := KidsL.takeQ_len _ _ (by omega)
 have he := h.eq
 rw [KidsL.take_drop l.length ks, encK_app, hb, List.append_assoc] at he
 obtain ⟨_, hr⟩ := encK_pfx (by rw [mkK_len, mkK_len, hq]) he
 rw [hd, encK_cons] at hr
 have hbd := h.kbd.drop l.length
 rw [hd] at hbd
 have hdp := deepK_drop l.length ks
 rw [hd] at hdp
 have hdp : max (1 + deepK sub) (deepK rst) ≤ deepK ks := hdp
 have := h.deep
 exact ⟨key, es, sub, encK rst ++ rest, by rw [hr]; simp only [List.append_assoc], hbd.1, rfl, hbd.2.1, hbd.2.2.1, by omega⟩
structure KGood (B : Lim) (d : Nat) (b3 : List UInt8) (l : List KidQ) (r : List UInt8) : Prop where
 eq : b3 = encK (mkK l) ++ r
 bd : (mkK l).bd B
 deep : deepK (mkK l) ≤ d
def KInv (B : Lim) (d : Nat) (s3 : Option (List UInt8)) (m : Nat) (l : List KidQ) (s : Option (List UInt8)) : Prop :=
 (∃ b3 r, s3 = some b3 ∧ s = some r ∧ KGood B d b3 l r) ∨ (s = none ∧ ∀ b3 ks rest, s3 = some b3 → ¬ KsOk B d b3 m ks rest)
theorem KInv.start (B : Lim) (d : Nat) (s3 : Option (List UInt8)) (m : Nat) : KInv B d s3 m [] s3 := by
 cases s3 with
 | none => exact .inr ⟨rfl, fun _ _ _ h => by cases h⟩
 | some b => exact .inl ⟨b, b, rfl, rfl, rfl, trivial, Nat.zero_le _⟩
theorem KInv.good {B : Lim} {d m : Nat} {s3 : Option (List UInt8)} {l : List KidQ} {r : List UInt8} (h : KInv B d s3 m l (some r)) : ∃ b3, s3 = some b3 ∧ KGood B d b3 l r := by
 rcases h with ⟨b3, r', h1, h2, h3⟩ | ⟨h1, _⟩
 · injection h2 with h2; subst h2; exact ⟨b3, h1, h3⟩
 · cases h1
theorem KInv.step {B : Lim} {d m : Nat} {s3 t1 t2 : Option (List UInt8)} {l : List KidQ} {r : List UInt8} (h : KInv B d s3 m l (some r)) (hB : B.Ok) (hk : l.length < m) {q : KidQ}
 (ht : TextStep (some r) B.s q.key t1) (hg : GetRes B d t1 q.es q.sub t2) : KInv B d s3 m (l ++ [q]) t2 := by
 obtain ⟨b3, rfl, hb⟩ := h.good
 cases t2 with
 | some r2 =>
  rcases hg with ⟨bs, rest, rfl, hr, hg⟩ | ⟨hg, _⟩
  · injection hr with hr; subst hr
    obtain ⟨hr, hs⟩ := text_good ht
    injection hr with hr
    refine .inl ⟨b3, r2, rfl, rfl, ?_, ?_, ?_⟩
    · show b3 = encK (appK (l ++ [q]) .nil) ++ r2
      rw [appK_snoc, encK_app, encK_cons, hb.eq, hr, hg.eq]
      simp only [List.append_assoc, encK, List.nil_append]
    · show (appK (l ++ [q]) .nil).bd B
      rw [appK_snoc]
      exact appK_bd hb.bd ⟨hs, hg.ebd, hg.kbd, trivial⟩
    · show deepK (appK (l ++ [q]) .nil) ≤ d
      rw [appK_snoc]
      have := hg.deep
      exact appK_deep hb.deep (by show max (1 + deepK q.sub) 0 ≤ d; omega)
  · cases hg
 | none =>
  refine .inr ⟨rfl, fun b ks rest hb3 hks => ?_⟩
  injection hb3 with hb3; subst hb3
  obtain ⟨key, es, sub, x, hr, hs, hgk⟩ := hks.next hb.eq hk
  subst hr
  obtain ⟨_, rfl⟩ := ht.det (text_make _ hs hB.s.2)
  rcases hg with ⟨_, _, _, hg, _⟩ | ⟨_, hg⟩
  · cases hg
  · exact hg _ _ _ _ rfl hgk
theorem encT_ge (es : List Ent) (ks : KidsL) : es.length ≤ (encEs es).length ∧ ks.len ≤ (encK ks).length := ⟨flat_pos encE_pos es, encK_pos ks⟩
theorem get_parts {B : Lim} (hB : B.Ok) {M : Int} (hM : M ≤ 9223372036854775807) {d n m : Nat} {st s1 s2 s3 : Option (List UInt8)} {es : List Ent} (hl : ((leftOf st).length : Int) ≤ M) (h1 : CntStep st M n s1) (h2 : EsRun B s1 n es s2) (h3 : CntStep s2 M m s3)
 {bs : List UInt8} {es' : List Ent} {ks' : KidsL} {rest : List UInt8} (hs : st = some bs) (hg : GetOk B (d + 1) bs es' ks' rest) : es' = es ∧ ∃ b3, s3 = some b3 ∧ KsOk B d b3 m ks' rest := by
 subst hs
 have he := hg.eq
 unfold encT at he
 simp only [List.append_assoc] at he
 subst he
 have hge := encT_ge es' ks'
 have hl : ((numB es'.length ++ (encEs es' ++ (numB ks'.len ++ (encK ks' ++ rest)))).length : Int) ≤ M := hl
 simp only [List.length_append] at hl
 obtain ⟨rfl, rfl⟩ := h1.det (CntStep.make (by simp only [List.length_append]; omega) (by omega) hM)
 obtain ⟨rfl, rfl⟩ := Run.det (R := EntStep B) (fun h k => EntStep.det h k) h2 (EsRun.make hB _ hg.ebd)
 obtain ⟨rfl, rfl⟩ := h3.det (CntStep.make (by simp only [List.length_append]; omega) (by omega) hM)
 have := hg.deep
 exact ⟨rfl, _, rfl, rfl, rfl, hg.kbd, by omega⟩
theorem get_done {B : Lim} (hB : B.Ok) {M : Int} (hM : M ≤ 9223372036854775807) {d n m : Nat} {st s1 s2 s3 s : Option (List UInt8)} {es : List Ent} {l : List KidQ} (hl : ((leftOf st).length : Int) ≤ M) (h1 : CntStep st M n s1) (h2 : EsRun B s1 n es s2) (h3 : CntStep s2 M m s3)
 (hk : KInv B d s3 m l s) (hm : l.length = m) : GetRes B (d + 1) st es (mkK l) s := by
 cases s with
 | some r =>
  obtain ⟨b3, rfl, hb⟩ := hk.good
  obtain ⟨rfl, _, _⟩ := h3.good
  obtain ⟨rfl, hes⟩ := h2.good
  obtain ⟨rfl, _, _⟩ := h1.good
  have hd := hb.deep
  refine .inl ⟨_, r, rfl, rfl, ?_, hes, hb.bd, by omega⟩
  unfold encT
  rw [hb.eq, h2.len, mkK_len, hm]
  simp only [List.append_assoc]
 | none =>
  refine .inr ⟨rfl, fun bs es' ks' rest hs hg => ?_⟩
  obtain ⟨_, b3, h4, h5⟩ := get_parts hB hM hl h1 h2 h3 hs hg
  rcases hk with ⟨_, _, _, h6, _⟩ | ⟨_, h6⟩
  · cases h6
  · exact h6 _ _ _ h4 h5
theorem get_early {B : Lim} (hB : B.Ok) {M : Int} (hM : M ≤ 9223372036854775807) {d n m : Nat} {st s1 s2 s3 : Option (List UInt8)} {es : List Ent} {l : List KidQ} (hl : ((leftOf st).length : Int) ≤ M) (h1 : CntStep st M n s1) (h2 : EsRun B s1 n es s2) (h3 : CntStep s2 M m s3)
 (hk : KInv B d s3 m l none) (es' : List Ent) (ks' : KidsL) : GetRes B (d + 1) st es' ks' none := by
 refine .inr ⟨rfl, fun bs es' ks' rest hs hg => ?_⟩
 obtain ⟨_, b3, h4, h5⟩ := get_parts hB hM hl h1 h2 h3 hs hg
 rcases hk with ⟨_, _, _, h6, _⟩ | ⟨_, h6⟩
 · cases h6
 · exact h6 _ _ _ h4 h5
theorem get_zero (B : Lim) (st : Option (List UInt8)) (es : List Ent) (ks : KidsL) : GetRes B 0 st es ks none := .inr ⟨rfl, fun _ _ _ _ _ h => by have := h.deep; omega⟩
theorem entB_bd {e : Ent} (h : entB e = true) : e.bd bdP := by
 unfold entB dotB at h
 simp only [Bool.and_eq_true, decide_eq_true_eq] at h
 obtain ⟨⟨h1, h2, h3, h4⟩, h5, h6, h7⟩ := h
 exact ⟨by simp only [bdP]; omega, by simp only [bdP]; omega, by simp only [bdP]; omega, by simp only [bdP]; omega⟩
theorem rightEs_bd : ∀ {p : Option Ent} {es : List Ent}, rightEs p es = true → ∀ e ∈ es, e.bd bdP
 | _, [], _, e, he => by cases he
 | p, x :: es, h, e, he => by
  simp only [rightEs, Bool.and_eq_true] at h
  rcases List.mem_cons.1 he with rfl | he
  · exact entB_bd h.1.1
  · exact rightEs_bd h.2 e he
theorem rightKs_bd : ∀ {ks : KidsL} {d : Nat} {p : Option ByteArray}, rightKs ks d p = true → ks.bd bdP ∧ deepK ks ≤ d
 | .nil, _, _, _ => ⟨trivial, Nat.zero_le _⟩
 | .cons key es sub rest, d, p, h => by
  simp only [rightKs, Bool.and_eq_true, decide_eq_true_eq] at h
  obtain ⟨⟨⟨⟨h1, _⟩, _⟩, ⟨h2, h3⟩, h4⟩, h5⟩ := h
  obtain ⟨g1, g2⟩ := rightKs_bd h4
  obtain ⟨g3, g4⟩ := rightKs_bd h5
  unfold keyB at h1
  simp only [decide_eq_true_eq] at h1
  exact ⟨⟨by simp only [bdP]; omega, rightEs_bd h3, g1, g3⟩, by show max (1 + deepK sub) (deepK rest) ≤ d; omega⟩
def Wide (B : Lim) : Prop := (∀ e : Ent, e.bd bdP → e.bd B) ∧ (∀ ks : KidsL, ks.bd bdP → ks.bd B) ∧ ∀ s, spBd bdP s → spBd B s
theorem wideP : Wide bdP := ⟨fun _ h => h, fun _ h => h, fun _ h => h⟩
theorem right_ok {B : Lim} (hW : Wide B) {es : List Ent} {ks : KidsL} {rest : List UInt8} (h : rightT 5 es ks = true) : GetOk B 5 (encT es ks ++ rest) es ks rest := by
 unfold rightT at h
 simp only [Bool.and_eq_true, decide_eq_true_eq] at h
 obtain ⟨⟨_, h1⟩, h2⟩ := h
 obtain ⟨g1, g2⟩ := rightKs_bd h2
 exact ⟨rfl, fun e he => hW.1 e (rightEs_bd h1 e he), hW.2.1 ks g1, by omega⟩
def TreeRes (st : Option (List UInt8)) (es : List Ent) (ks : KidsL) (s : Option (List UInt8)) : Prop :=
 (∃ rest, st = some (encT es ks ++ rest) ∧ rightT 5 es ks = true ∧ s = some rest) ∨ (s = none ∧ es = [] ∧ ks = .nil ∧ ∀ es ks rest, st = some (encT es ks ++ rest) → rightT 5 es ks = false)
theorem tree_good {B : Lim} {st : Option (List UInt8)} {es : List Ent} {ks : KidsL} {rest : List UInt8} (h : GetRes B 5 st es ks (some rest)) (hr : rightT 5 es ks = true) : TreeRes st es ks (some rest) := by
 rcases h with ⟨bs, r, rfl, h2, h3⟩ | ⟨h, _⟩
 · injection h2 with h2; subst h2
   exact .inl ⟨rest, by rw [h3.eq], hr, rfl⟩
 · cases h
theorem tree_wrong {B : Lim} {st : Option (List UInt8)} {es : List Ent} {ks : KidsL} {rest : List UInt8} (h : GetRes B 5 st es ks (some rest)) (hr : rightT 5 es ks = false) : TreeRes st [] .nil none := by
 rcases h with ⟨bs, r, rfl, h2, h3⟩ | ⟨h, _⟩
 · refine .inr ⟨rfl, rfl, rfl, fun es' ks' rest' hs => ?_⟩
   injection hs with hs
   rw [h3.eq] at hs
   obtain ⟨⟨rfl, rfl⟩, _⟩ := encT_pfx hs
   exact hr
 · cases h
theorem tree_bad {B : Lim} (hW : Wide B) {st : Option (List UInt8)} {es : List Ent} {ks : KidsL} (h : GetRes B 5 st es ks none) : TreeRes st [] .nil none := by
 rcases h with ⟨_, _, _, h2, _⟩ | ⟨_, h⟩
 · cases h2
 · refine .inr ⟨rfl, rfl, rfl, fun es' ks' rest' hs => ?_⟩
   cases hr : rightT 5 es' ks' with
   | false => rfl
   | true => exact absurd (right_ok hW hr) (h _ _ _ _ hs)
theorem TreeRes.det {st s s' : Option (List UInt8)} {es es' : List Ent} {ks ks' : KidsL} (h : TreeRes st es ks s) (k : TreeRes st es' ks' s') : (es = es' ∧ ks = ks') ∧ s = s' := by
 rcases h with ⟨r, h1, h2, h3⟩ | ⟨h1, h2, h3, h4⟩ <;> rcases k with ⟨r', k1, k2, k3⟩ | ⟨k1, k2, k3, k4⟩
 · rw [h1] at k1
   injection k1 with k1
   obtain ⟨e, rfl⟩ := encT_pfx k1
   exact ⟨e, by rw [h3, k3]⟩
 · rw [k4 _ _ _ h1] at h2; cases h2
 · rw [h4 _ _ _ k1] at k2; cases k2
 · exact ⟨⟨by rw [h2, k2], by rw [h3, k3]⟩, by rw [h1, k1]⟩
theorem TreeRes.make {es : List Ent} {ks : KidsL} (rest : List UInt8) (h : rightT 5 es ks = true) : TreeRes (some (encT es ks ++ rest)) es ks (some rest) := .inl ⟨rest, rfl, h, rfl⟩
theorem RightC.each {c : CtxL} (h : RightC c) : ∀ s ∈ c, spBd bdP s := fun s hs => by
 have hd : ∀ {c : CtxL} {lo : Int}, DcFrom lo c → ∀ s ∈ c, lo ≤ s.1 ∧ s.1 < 4 := by
  intro c
  induction c with
  | nil => intro lo _ s hs; cases hs
  | cons x c ih =>
   intro lo h s hs
   rcases List.mem_cons.1 hs with rfl | hs
   · exact ⟨h.1, h.2.1⟩
   · have := ih h.2.2 s hs
     have := h.1
     omega
 obtain ⟨h0, h4⟩ := hd h.1 s hs
 have hr := h.2 s.1 h0 h4
 have hm : s.2 ∈ partL c s.1 := by
  unfold partL
  exact List.mem_map.2 ⟨s, List.mem_filter.2 ⟨hs, by simp⟩, rfl⟩
 have g1 := runsFrom_ge hr.1 _ hm
 have g2 := hr.2 _ hm
 refine ⟨?_, ?_, ?_⟩ <;> simp only [bdP] <;> omega
def CtxRes (st : Option (List UInt8)) (c : CtxL) (s : Option (List UInt8)) : Prop :=
 (∃ rest, st = some (encC c ++ rest) ∧ RightC c ∧ s = some rest) ∨ (s = none ∧ c = [] ∧ ∀ c rest, st = some (encC c ++ rest) → ¬ RightC c)
theorem ctx_parts {B : Lim} (hB : B.Ok) (hW : Wide B) {M : Int} (hM : M ≤ 9223372036854775807) {n : Nat} {st s1 s2 : Option (List UInt8)} {c : CtxL} (hl : ((leftOf st).length : Int) ≤ M) (h1 : CntStep st M n s1) (h2 : SpRun B s1 n c s2)
 {c' : CtxL} {rest : List UInt8} (hs : st = some (encC c' ++ rest)) (hr : RightC c') : c' = c ∧ s2 = some rest := by
 subst hs
 have hge : c'.length ≤ (encSs c').length := flat_pos encS_pos c'
 have hl : ((encC c' ++ rest).length : Int) ≤ M := hl
 unfold encC at hl h1
 rw [List.append_assoc] at hl h1
 simp only [List.length_append] at hl
 obtain ⟨rfl, rfl⟩ := h1.det (CntStep.make (by simp only [List.length_append]; omega) (by omega) hM)
 obtain ⟨rfl, rfl⟩ := Run.det (R := SpStep B) (fun h k => SpStep.det h k) h2 (SpRun.make hB _ fun s hs => hW.2.2 s (hr.each s hs))
 exact ⟨rfl, rfl⟩
theorem ctx_good {B : Lim} {M : Int} {n : Nat} {st s1 : Option (List UInt8)} {c : CtxL} {rest : List UInt8} (h1 : CntStep st M n s1) (h2 : SpRun B s1 n c (some rest)) (hr : RightC c) : CtxRes st c (some rest) := by
 obtain ⟨rfl, _⟩ := h2.good
 obtain ⟨rfl, _, _⟩ := h1.good
 refine .inl ⟨rest, ?_, hr, rfl⟩
 unfold encC
 rw [h2.len, List.append_assoc]
theorem ctx_bad {B : Lim} (hB : B.Ok) (hW : Wide B) {M : Int} (hM : M ≤ 9223372036854775807) {n : Nat} {st s1 s2 : Option (List UInt8)} {c : CtxL} (hl : ((leftOf st).length : Int) ≤ M) (h1 : CntStep st M n s1) (h2 : SpRun B s1 n c s2) (h : s2 = none ∨ ¬ RightC c) : CtxRes st [] none := by
 refine .inr ⟨rfl, rfl, fun c' rest hs hr => ?_⟩
 obtain ⟨rfl, h3⟩ := ctx_parts hB hW hM hl h1 h2 hs hr
 rcases h with h | h
 · rw [h] at h3; cases h3
 · exact h hr
theorem CtxRes.det {st s s' : Option (List UInt8)} {c c' : CtxL} (h : CtxRes st c s) (k : CtxRes st c' s') : c = c' ∧ s = s' := by
 rcases h with ⟨r, h1, h2, h3⟩ | ⟨h1, h2, h4⟩ <;> rcases k with ⟨r', k1, k2, k3⟩ | ⟨k1, k2, k4⟩
 · rw [h1] at k1
   injection k1 with k1
   obtain ⟨e, rfl⟩ := encC_pfx k1
   exact ⟨e, by rw [h3, k3]⟩
 · exact absurd h2 (k4 _ _ h1)
 · exact absurd k2 (h4 _ _ k1)
 · exact ⟨by rw [h2, k2], by rw [h1, k1]⟩
theorem CtxRes.make {c : CtxL} (rest : List UInt8) (h : RightC c) : CtxRes (some (encC c ++ rest)) c (some rest) := .inl ⟨rest, rfl, h, rfl⟩
def CauRes (st : Option (List UInt8)) (es : List Ent) (ks : KidsL) (c : CtxL) (s : Option (List UInt8)) : Prop :=
 (∃ rest, st = some (encX es ks c ++ rest) ∧ CauRight es ks c ∧ s = some rest) ∨ (s = none ∧ es = [] ∧ ks = .nil ∧ c = [] ∧ ∀ es ks c rest, st = some (encX es ks c ++ rest) → ¬ CauRight es ks c)
theorem cau_parts {st s1 s2 : Option (List UInt8)} {es es' : List Ent} {ks ks' : KidsL} {c c' : CtxL} {rest : List UInt8} (h1 : TreeRes st es ks s1) (h2 : CtxRes s1 c s2) (hs : st = some (encX es' ks' c' ++ rest)) (hr : CauRight es' ks' c') :
 es' = es ∧ ks' = ks ∧ c' = c ∧ s2 = some rest := by
 subst hs
 unfold encX at h1
 rw [List.append_assoc] at h1
 obtain ⟨⟨rfl, rfl⟩, rfl⟩ := h1.det (TreeRes.make _ hr.tree)
 obtain ⟨rfl, rfl⟩ := h2.det (CtxRes.make _ hr.ctx)
 exact ⟨rfl, rfl, rfl, rfl⟩
theorem cau_both {st s1 : Option (List UInt8)} {es : List Ent} {ks : KidsL} {c : CtxL} {rest : List UInt8} (h1 : TreeRes st es ks s1) (h2 : CtxRes s1 c (some rest)) : st = some (encX es ks c ++ rest) ∧ rightT 5 es ks = true ∧ RightC c := by
 rcases h2 with ⟨r, rfl, k2, k3⟩ | ⟨k1, _⟩
 · injection k3 with k3; subst k3
   rcases h1 with ⟨r', rfl, h2, h3⟩ | ⟨h1, _⟩
   · injection h3 with h3; subst h3
     exact ⟨by unfold encX; rw [List.append_assoc], h2, k2⟩
   · cases h1
 · cases k1
theorem cau_good {st s1 : Option (List UInt8)} {es : List Ent} {ks : KidsL} {c : CtxL} {rest : List UInt8} (h1 : TreeRes st es ks s1) (h2 : CtxRes s1 c (some rest)) (hr : CauRight es ks c) : CauRes st es ks c (some rest) :=
 .inl ⟨rest, (cau_both h1 h2).1, hr, rfl⟩
theorem cau_bad {st s1 s2 : Option (List UInt8)} {es : List Ent} {ks : KidsL} {c : CtxL} (h1 : TreeRes st es ks s1) (h2 : CtxRes s1 c s2) (h : s2 = none ∨ ¬ CauRight es ks c) : CauRes st [] .nil [] none := by
 refine .inr ⟨rfl, rfl, rfl, rfl, fun es' ks' c' rest hs hr => ?_⟩
 obtain ⟨rfl, rfl, rfl, h3⟩ := cau_parts h1 h2 hs hr
 rcases h with h | h
 · rw [h] at h3; cases h3
 · exact h hr
theorem CauRes.det {st s s' : Option (List UInt8)} {es es' : List Ent} {ks ks' : KidsL} {c c' : CtxL} (h : CauRes st es ks c s) (k : CauRes st es' ks' c' s') : ((es = es' ∧ ks = ks') ∧ c = c') ∧ s = s' := by
 rcases h with ⟨r, h1, h2, h3⟩ | ⟨h1, h2, h3, h5, h4⟩ <;> rcases k with ⟨r', k1, k2, k3⟩ | ⟨k1, k2, k3, k5, k4⟩
 · rw [h1] at k1
   injection k1 with k1
   obtain ⟨e, rfl⟩ := encX_pfx k1
   exact ⟨e, by rw [h3, k3]⟩
 · exact absurd h2 (k4 _ _ _ _ h1)
 · exact absurd k2 (h4 _ _ _ _ k1)
 · exact ⟨⟨⟨by rw [h2, k2], by rw [h3, k3]⟩, by rw [h5, k5]⟩, by rw [h1, k1]⟩
theorem CauRes.make {es : List Ent} {ks : KidsL} {c : CtxL} (rest : List UInt8) (h : CauRight es ks c) : CauRes (some (encX es ks c ++ rest)) es ks c (some rest) := .inl ⟨rest, rfl, h, rfl⟩
theorem numB_le {v m : Int} (h : -m ≤ v ∧ v ≤ m) (hm : m ≤ 9223372036854775807) : (numB v).length ≤ 10 := numB_le10 (by omega) (by omega)
theorem encE_le {e : Ent} (h : e.bd bdP) : (encE e).length ≤ 70 := by
 have h1 := numB_le h.dc bdP_ok.dc.2
 have h2 := numB_le h.n bdP_ok.n.2
 have h4 := numB_le h.k bdP_ok.k.2
 have h3 := h.s
 have h5 : (numB e.s.size).length ≤ 10 := numB_le10 (by simp only [bdP] at h3; omega) (by simp only [bdP] at h3; omega)
 have h6 : e.s.data.toList.length = e.s.size := Array.length_toList
 unfold encE textB
 simp only [List.length_append, bdP] at *
 omega
theorem encS_le {s : Int × Int × Int} (h : spBd bdP s) : (encS s).length ≤ 30 := by
 have h1 := numB_le h.1 bdP_ok.dc.2
 have h2 := numB_le h.2.1 bdP_ok.n.2
 have h3 := numB_le h.2.2 bdP_ok.n.2
 unfold encS
 simp only [List.length_append]
 omega
theorem numN_le {n : Nat} (h : n ≤ 9223372036854775807) : (numB n).length ≤ 10 := numB_le10 (by omega) (by omega)
theorem encK_le : ∀ {ks : KidsL}, ks.bd bdP → sizeK ks ≤ 9223372036854775807 → (encK ks).length ≤ 75 * sizeK ks
 | .nil, _, _ => Nat.zero_le _
 | .cons key es sub rest, h, hs => by
  have hs' : 1 + es.length + sizeK sub + sizeK rest ≤ 9223372036854775807 := hs
  have h1 := encK_le h.2.2.1 (by omega)
  have h2 := encK_le h.2.2.2 (by omega)
  have h3 : (encEs es).length ≤ 70 * es.length := flat_le fun e he => encE_le (h.2.1 e he)
  have h4 := h.1
  have h5 : (numB key.size).length ≤ 10 := numB_le10 (by simp only [bdP] at h4; omega) (by simp only [bdP] at h4; omega)
  have h6 : key.data.toList.length = key.size := Array.length_toList
  have h7 := numN_le (n := es.length) (by omega)
  have h9 : sub.len ≤ sizeK sub := len_le_sizeK sub
  have h8 := numN_le (n := sub.len) (by omega)
  simp only [bdP] at h4
  unfold encK sizeK textB
  simp only [List.length_append]
  omega
theorem encT_le {es : List Ent} {ks : KidsL} (h : rightT 5 es ks = true) (hs : sizeT es ks ≤ 9223372036854775807) : (encT es ks).length ≤ 20 + 75 * sizeT es ks := by
 have hg := right_ok wideP (rest := []) h
 have hs' : es.length + sizeK ks ≤ 9223372036854775807 := hs
 have h1 := encK_le hg.kbd (by omega)
 have h3 : (encEs es).length ≤ 70 * es.length := flat_le fun e he => encE_le (hg.ebd e he)
 have h9 : ks.len ≤ sizeK ks := len_le_sizeK ks
 have h7 := numN_le (n := es.length) (by omega)
 have h8 := numN_le (n := ks.len) (by omega)
 unfold encT sizeT
 simp only [List.length_append]
 omega
theorem encC_le {c : CtxL} (h : RightC c) (hl : c.length ≤ 9223372036854775807) : (encC c).length ≤ 10 + 30 * c.length := by
 have h3 : (encSs c).length ≤ 30 * c.length := flat_le fun s hs => encS_le (h.each s hs)
 have h7 := numN_le (n := c.length) hl
 unfold encC
 simp only [List.length_append]
 omega
def encV (v0 v1 v2 v3 : Int) : List UInt8 := numB v0 ++ (numB v1 ++ (numB v2 ++ numB v3))
theorem encV_pfx {a b c d a' b' c' d' : Int} {x y : List UInt8} (h : encV a b c d ++ x = encV a' b' c' d' ++ y) : (a = a' ∧ b = b' ∧ c = c' ∧ d = d') ∧ x = y := by
 unfold encV at h
 simp only [List.append_assoc] at h
 replace h := numB_prefix h
 obtain ⟨h1, h⟩ := h
 replace h := numB_prefix h
 obtain ⟨h2, h⟩ := h
 replace h := numB_prefix h
 obtain ⟨h3, h⟩ := h
 replace h := numB_prefix h
 obtain ⟨h4, h⟩ := h
 exact ⟨⟨h1, h2, h3, h4⟩, h⟩
def VecRes (st : Option (List UInt8)) (v0 v1 v2 v3 : Int) (s : Option (List UInt8)) : Prop :=
 (∃ rest, st = some (encV v0 v1 v2 v3 ++ rest) ∧ MayV (vecF v0 v1 v2 v3) ∧ s = some rest) ∨ (s = none ∧ v0 = 0 ∧ v1 = 0 ∧ v2 = 0 ∧ v3 = 0 ∧ ∀ u0 u1 u2 u3 rest, st = some (encV u0 u1 u2 u3 ++ rest) → ¬ MayV (vecF u0 u1 u2 u3))
theorem mayV4 {v0 v1 v2 v3 : Int} (h : MayV (vecF v0 v1 v2 v3)) : (0 ≤ v0 ∧ v0 ≤ 1099511627776) ∧ (0 ≤ v1 ∧ v1 ≤ 1099511627776) ∧ (0 ≤ v2 ∧ v2 ≤ 1099511627776) ∧ 0 ≤ v3 ∧ v3 ≤ 1099511627776 :=
 ⟨h 0 (by decide) (by decide), h 1 (by decide) (by decide), h 2 (by decide) (by decide), h 3 (by decide) (by decide)⟩
theorem VecRes.det {st s s' : Option (List UInt8)} {a b c d a' b' c' d' : Int} (h : VecRes st a b c d s) (k : VecRes st a' b' c' d' s') : (a = a' ∧ b = b' ∧ c = c' ∧ d = d') ∧ s = s' := by
 rcases h with ⟨r, h1, h2, h3⟩ | ⟨h1, h2, h3, h4, h5, h6⟩ <;> rcases k with ⟨r', k1, k2, k3⟩ | ⟨k1, k2, k3, k4, k5, k6⟩
 · rw [h1] at k1
   injection k1 with k1
   obtain ⟨e, rfl⟩ := encV_pfx k1
   exact ⟨e, by rw [h3, k3]⟩
 · exact absurd h2 (k6 _ _ _ _ _ h1)
 · exact absurd k2 (h6 _ _ _ _ _ k1)
 · subst h2 h3 h4 h5 k2 k3 k4 k5
   exact ⟨⟨rfl, rfl, rfl, rfl⟩, by rw [h1, k1]⟩
theorem VecRes.total (st : Option (List UInt8)) : ∃ v0 v1 v2 v3 s, VecRes st v0 v1 v2 v3 s := by
 by_cases h : ∃ v0 v1 v2 v3 rest, st = some (encV v0 v1 v2 v3 ++ rest) ∧ MayV (vecF v0 v1 v2 v3)
 · obtain ⟨v0, v1, v2, v3, rest, h1, h2⟩ := h
   exact ⟨v0, v1, v2, v3, some rest, .inl ⟨rest, h1, h2, rfl⟩⟩
 · exact ⟨0, 0, 0, 0, none, .inr ⟨rfl, rfl, rfl, rfl, rfl, fun u0 u1 u2 u3 rest h1 h2 => h ⟨u0, u1, u2, u3, rest, h1, h2⟩⟩⟩
theorem VecRes.make {v0 v1 v2 v3 : Int} (rest : List UInt8) (h : MayV (vecF v0 v1 v2 v3)) : VecRes (some (encV v0 v1 v2 v3 ++ rest)) v0 v1 v2 v3 (some rest) := .inl ⟨rest, rfl, h, rfl⟩
theorem VecRes.left {st s : Option (List UInt8)} {v0 v1 v2 v3 : Int} (h : VecRes st v0 v1 v2 v3 s) : (leftOf s).length ≤ (leftOf st).length := by
 rcases h with ⟨r, rfl, _, rfl⟩ | ⟨rfl, _⟩
 · show r.length ≤ (encV v0 v1 v2 v3 ++ r).length
   rw [List.length_append]; omega
 · exact Nat.zero_le _
def V4 (m : Int) (st : Option (List UInt8)) (v0 v1 v2 v3 : Int) (s4 : Option (List UInt8)) : Prop :=
 ∃ s1 s2 s3, NumStep st m v0 s1 ∧ NumStep s1 m v1 s2 ∧ NumStep s2 m v2 s3 ∧ NumStep s3 m v3 s4
theorem vec_good {m : Int} {st : Option (List UInt8)} {v0 v1 v2 v3 : Int} {r : List UInt8} (h : V4 m st v0 v1 v2 v3 (some r)) (hm : MayV (vecF v0 v1 v2 v3)) : VecRes st v0 v1 v2 v3 (some r) := by
 obtain ⟨s1, s2, s3, h1, h2, h3, h4⟩ := h
 obtain ⟨rfl, _, _⟩ := num_good h4
 obtain ⟨rfl, _, _⟩ := num_good h3
 obtain ⟨rfl, _, _⟩ := num_good h2
 obtain ⟨rfl, _, _⟩ := num_good h1
 exact .inl ⟨r, by unfold encV; simp only [List.append_assoc], hm, rfl⟩
theorem vec_bad {m : Int} (hm1 : 1099511627776 ≤ m) (hm2 : m ≤ 9223372036854775807) {st s4 : Option (List UInt8)} {v0 v1 v2 v3 : Int} (h : V4 m st v0 v1 v2 v3 s4) (hb : s4 = none ∨ ¬ MayV (vecF v0 v1 v2 v3)) : VecRes st 0 0 0 0 none := by
 refine .inr ⟨rfl, rfl, rfl, rfl, rfl, fun u0 u1 u2 u3 rest hs hu => ?_⟩
 subst hs
 obtain ⟨s1, s2, s3, h1, h2, h3, h4⟩ := h
 obtain ⟨g0, g1, g2, g3⟩ := mayV4 hu
 unfold encV at h1
 simp only [List.append_assoc] at h1
 obtain ⟨rfl, rfl⟩ := h1.det (num_make _ ⟨by omega, by omega⟩ hm2)
 obtain ⟨rfl, rfl⟩ := h2.det (num_make _ ⟨by omega, by omega⟩ hm2)
 obtain ⟨rfl, rfl⟩ := h3.det (num_make _ ⟨by omega, by omega⟩ hm2)
 obtain ⟨rfl, rfl⟩ := h4.det (num_make _ ⟨by omega, by omega⟩ hm2)
 rcases hb with hb | hb
 · cases hb
 · exact hb hu
theorem V4.total (m : Int) (st : Option (List UInt8)) : ∃ v0 v1 v2 v3 s1 s2 s3 s4, NumStep st m v0 s1 ∧ NumStep s1 m v1 s2 ∧ NumStep s2 m v2 s3 ∧ NumStep s3 m v3 s4 := by
 obtain ⟨v0, s1, h1⟩ := NumStep.total st m
 obtain ⟨v1, s2, h2⟩ := NumStep.total s1 m
 obtain ⟨v2, s3, h3⟩ := NumStep.total s2 m
 obtain ⟨v3, s4, h4⟩ := NumStep.total s3 m
 exact ⟨v0, v1, v2, v3, s1, s2, s3, s4, h1, h2, h3, h4⟩
theorem InSt.keep {w w' : World} {ib : Nat} {st : Option (List UInt8)} (h : InSt w ib st) {S : Nat → Prop} (f : Frm S w w') (h1 : ∀ k, k ≤ ib → ¬ S k) : InSt w' ib st := by
 cases st with
 | none => exact f.blk (show w.heap[ib]? = _ from h) (h1 ib (Nat.le_refl _))
 | some bs =>
  obtain ⟨v, hv, hlt⟩ := h
  exact ⟨v, hv.keep f (h1 ib (Nat.le_refl _)) fun k hk => h1 k (Nat.le_of_lt (hlt k hk)), hlt⟩
theorem InSt.lt {w : World} {ib : Nat} {st : Option (List UInt8)} (h : InSt w ib st) : ib < w.heap.size := by
 obtain ⟨a, c, hh⟩ := h.heap
 exact lt_of_block hh
theorem two_set (w : World) (b : Nat) (u u' : Value) : Frm (Only b) w ((w.setCell ⟨b, 0, none⟩ u).setCell ⟨b, 1, none⟩ u') := (only_set w b 0 u).trans (only_set _ b 1 u') fun _ _ h => h
theorem own_lt {w : World} {e : TypeId} {size : Nat} {v : Value} {n : Nat} {xs : List Value} (h : w.ownsRow 0 e size v n xs) : ∀ k, v.ownBlock = some k → k < w.heap.size := fun k hk => (h.lt k hk).2
theorem NewV.fresh {w wi : World} {v v' : Value} (h : NewV w v) (hs : w.heap.size ≤ wi.heap.size) (f : Fresh wi v v') : NewV w v' := fun k hk => by
 rcases f k hk with h1 | h1
 · exact h k h1
 · omega
theorem OutAt.keep {w w' : World} {ob : Nat} {v : Value} {bs : List UInt8} (h : OutAt w ob v bs) {S : Nat → Prop} (f : Frm S w w') (h1 : ¬ S ob) (h2 : ∀ k, v.ownBlock = some k → ¬ S k) : OutAt w' ob v bs :=
 ⟨f.blk h.cell h1, f.owns h.own h2, h.apart⟩
theorem pcount_any (ib : Nat) (st : Option (List UInt8)) (w : World) (h : InSt w ib st) :
 Calls Tryz.prog 145 #[.pointer (some ⟨ib, 0, none⟩)] w fun e w' => ∃ (n : Nat) (st' : Option (List UInt8)), e = .returned (.int .i64 n) ∧ CntStep st 60000 n st' ∧ InSt w' ib st' ∧ Frm (Only ib) w w' := by
 obtain ⟨v, s1, hs⟩ := NumStep.total st 60000
 have hvr := num_in hs
 have HN := Lib.hid (inum_at ib st 60000 v s1 w h hs (by omega) (by omega))
 clear h
 have HS := Lib.hid hs; clear hs
 obtain ⟨L, hL⟩ : ∃ L, L = (leftOf s1).length := ⟨_, rfl⟩
 by_cases c1 : v < 0
 · have hpost : ∀ w', InSt w' ib none → CntStep st 60000 0 none := fun w' _ => ⟨v, s1, HS.out, by
    cases s1 with
    | none => exact ⟨rfl, rfl⟩
    | some r => exact .inr ⟨.inl c1, rfl, rfl⟩⟩
   have HPOST := Lib.hid hpost; clear hpost
   go_enter Tryz.func145, Tryz.ntmps145
   go_wp2_with (first
    | (go_at_call 53; refine HN.out.mono ?_; rintro e w1 ⟨rfl, hi, hf⟩; have HI := Lib.hid hi; clear hi; have HF := Lib.hid hf; clear hf)
    | (go_at_call 109; obtain ⟨a, c, hh⟩ := HI.out.heap; refine (fail_go ib _ _ w1 hh).mono ?_; rintro e w2 ⟨rfl, hi2, hf2⟩; have HI2 := Lib.hid hi2; clear hi2 hh; have HF2 := Lib.hid hf2; clear hf2))
   go_ret
   exact ⟨0, none, rfl, HPOST.out w2 HI2.out, HI2.out, HF.out.trans HF2.out fun _ _ h => h⟩
 · by_cases c2 : (L : Int) < v
   · have hpost : ∀ w', InSt w' ib none → CntStep st 60000 0 none := fun w' _ => ⟨v, s1, HS.out, by
      cases s1 with
      | none => exact ⟨rfl, rfl⟩
      | some r => exact .inr ⟨.inr (by rw [hL] at c2; exact c2), rfl, rfl⟩⟩
     have HPOST := Lib.hid hpost; clear hpost
     have HL := Lib.hid hL; clear hL
     go_enter Tryz.func145, Tryz.ntmps145
     go_wp2_with (first
      | (go_at_call 53; refine HN.out.mono ?_; rintro e w1 ⟨rfl, hi, hf⟩; have HI := Lib.hid hi; clear hi; have HF := Lib.hid hf; clear hf)
      | (go_at_call 177; refine (left_go ib s1 w1 HI.out).mono ?_; rintro e w2 ⟨rfl, rfl⟩; rw [← HL.out])
      | (go_at_call 109; obtain ⟨a, c, hh⟩ := HI.out.heap; refine (fail_go ib _ _ w1 hh).mono ?_; rintro e w2 ⟨rfl, hi2, hf2⟩; have HI2 := Lib.hid hi2; clear hi2 hh; have HF2 := Lib.hid hf2; clear hf2))
     go_ret
     exact ⟨0, none, rfl, HPOST.out w2 HI2.out, HI2.out, HF.out.trans HF2.out fun _ _ h => h⟩
   · obtain ⟨n, rfl⟩ := Int.eq_ofNat_of_zero_le (show 0 ≤ v by omega)
     have hpost : ∃ st', CntStep st 60000 n st' ∧ st' = s1 := ⟨s1, ⟨n, s1, HS.out, by
      cases s1 with
      | none => exact ⟨by rw [hL] at c2; simp [leftOf] at c2; omega, rfl⟩
      | some r => exact .inl ⟨by omega, by rw [hL] at c2; simpa [leftOf] using c2, by omega, rfl⟩⟩, rfl⟩
     have HPOST := Lib.hid hpost; clear hpost
     have HL := Lib.hid hL; clear hL
     go_enter Tryz.func145, Tryz.ntmps145
     go_wp2_with (first
      | (go_at_call 53; refine HN.out.mono ?_; rintro e w1 ⟨rfl, hi, hf⟩; have HI := Lib.hid hi; clear hi; have HF := Lib.hid hf; clear hf)
      | (go_at_call 177; refine (left_go ib s1 w1 HI.out).mono ?_; rintro e w2 ⟨rfl, rfl⟩; rw [← HL.out]))
     go_ret
     obtain ⟨st', h1, rfl⟩ := HPOST.out
     exact ⟨n, _, rfl, h1, HI.out, HF.out⟩
structure MadeAt (S : Nat → Prop) (w ww : World) (e : TypeId) (size : Nat) (v : Value) (n : Nat) (xs : List Value) : Prop where
 own : ww.ownsRow 0 e size v n xs
 new : NewV w v
 frm : Frm S w ww
theorem MadeAt.keep {S : Nat → Prop} {w ww w' : World} {e : TypeId} {size : Nat} {v : Value} {n : Nat} {xs : List Value} (low : ∀ k, S k → k < w.heap.size) (h : MadeAt S w ww e size v n xs) (f : Frm S ww w') : MadeAt S w w' e size v n xs :=
 ⟨f.owns h.own fun b hb hs => by have := h.new b hb; have := low b hs; omega, h.new, h.frm.trans f fun _ _ h => h⟩
theorem MadeAt.step {S : Nat → Prop} {w w1 w' : World} {e e' : TypeId} {size size' : Nat} {v v' : Value} {n n' : Nat} {xs xs' : List Value} (h : MadeAt S w w1 e size v n xs) (own : w'.ownsRow 0 e' size' v' n' xs') (fm : Frm (RowS v) w1 w') (fr : Fresh w1 v v') : MadeAt S w w' e' size' v' n' xs' :=
 ⟨own, NewV.fresh (w := w) (wi := w1) (v := v) (v' := v') h.new h.frm.size fr, h.frm.trans fm fun i hi hs => by have := h.new i hs; omega⟩
theorem MadeAt.rdq {S : Nat → Prop} {w ww : World} {e : TypeId} {size : Nat} {v : Value} {n : Nat} {xs : List Value} (h : MadeAt S w ww e size v n xs) : RdQ (fun k => w.heap.size ≤ k) ww v n xs := ⟨Rd.own h.own, fun _ k hk => h.new k hk⟩
theorem SpStep.total (B : Lim) (st : Option (List UInt8)) : ∃ (a b c : Int) (s1 s2 s3 : Option (List UInt8)), NumStep st B.dc a s1 ∧ NumStep s1 B.n b s2 ∧ NumStep s2 B.n c s3 := by
 obtain ⟨a, s1, h1⟩ := NumStep.total st B.dc
 obtain ⟨b, s2, h2⟩ := NumStep.total s1 B.n
 obtain ⟨c, s3, h3⟩ := NumStep.total s2 B.n
 exact ⟨a, b, c, s1, s2, s3, h1, h2, h3⟩
theorem SpRun.fits {B : Lim} {st t : Option (List UInt8)} {k : Nat} {c : CtxL} (h : SpRun B st k c t) : FitsC c := fun s hs => by
 obtain ⟨h1, h2, h3⟩ := Run.all (P := fun s => inR s.1 ∧ inR s.2.1 ∧ inR s.2.2) (fun h => SpStep.fits h) h s hs
 exact ⟨h1.1, h1.2, h2.1, h2.2, h3.1, h3.2⟩
theorem spC_snoc (c : CtxL) (a b d : Int) : spC c ++ [.int .i64 a, .int .i64 b, .int .i64 d] = spC (c ++ [(a, b, d)]) := by rw [spC_append]; rfl
def CtxPost (st : Option (List UInt8)) (ib : Nat) (w : World) (e : Ending) (w' : World) : Prop :=
 ∃ cv c s, e = .returned cv ∧ RdQ (fun b => w.heap.size ≤ b) w' cv c.length (spC c) ∧ CtxRes st c s ∧ FitsC c ∧ (c.length ≤ (leftOf st).length) ∧ InSt w' ib s ∧ Frm (Only ib) w w'
theorem CntStep.left {st s : Option (List UInt8)} {m : Int} {n : Nat} (h : CntStep st m n s) : n ≤ (leftOf st).length := by
 cases s with
 | some r =>
  obtain ⟨rfl, h1, _⟩ := h.good
  show n ≤ (numB n ++ r).length
  rw [List.length_append]; omega
 | none =>
  obtain ⟨v, s1, h1, h2⟩ := h
  cases s1 with
  | none => rw [h2.1]; exact Nat.zero_le _
  | some q =>
   rcases h2 with ⟨_, _, _, d⟩ | ⟨_, c, _⟩
   · cases d
   · rw [c]; exact Nat.zero_le _
theorem pGetCtx_any (ib : Nat) (st : Option (List UInt8)) (w : World) (h : InSt w ib st) (hl : (leftOf st).length ≤ 60000) :
 Calls Tryz.prog 111 #[.pointer (some ⟨ib, 0, none⟩)] w (CtxPost st ib w) := by
 obtain ⟨i0, hi, hz0, hz1, hz2⟩ := info_parts info_span
 have HC := Lib.hid (pcount_any ib st w h)
 have low : ∀ k, Only ib k → k < w.heap.size := fun k hk => by rw [show k = ib from hk]; exact h.lt
 have HLO := Lib.hid low; clear low
 clear h
 go_enter Tryz.func111, Tryz.ntmps111
 go_wp2_with (go_at_call 145; refine HC.out.mono ?_; rintro e w1 ⟨n, s1, rfl, hc1, hi1, hf1⟩; have HC1 := Lib.hid hc1; have hn : n ≤ 60000 := by { have := hc1.left; omega }; clear hc1; have HI1 := Lib.hid hi1; clear hi1; have HF1 := Lib.hid hf1; clear hf1)
 go_loopw [3, 6] (fun cv i ww => ∃ (k : Nat) (c : CtxL) (s : Option (List UInt8)), k ≤ n ∧ i = .int .i64 k ∧ SpRun bdP s1 k c s ∧ InSt ww ib s ∧ MadeAt (Only ib) w ww 122 3 cv k (spC c)) (fun _ i _ => n - (intOf i).toNat)
 case atStart => exact ⟨0, [], s1, Nat.zero_le _, rfl, .zero, HI1.out, World.ownsRow_nil _ 0 _ 3, (fun b hb => by simp [Value.ownBlock] at hb), HF1.out⟩
 case round =>
  obtain ⟨k, c, s, hk, rfl, hrun, hin, hmd⟩ := hrel
  have HRUN := Lib.hid hrun; clear hrun
  have HIN := Lib.hid hin; clear hin
  obtain ⟨aV, cV, rfl⟩ := (Rd.own hmd.own).sl
  have HMD := Lib.hid hmd; clear hmd
  by_cases hlt : k < n
  · obtain ⟨d, a, b, t1, t2, t3, g1, g2, g3⟩ := SpStep.total bdP s
    have HG1 := Lib.hid g1; clear g1
    have HG2 := Lib.hid g2; clear g2
    have HG3 := Lib.hid g3; clear g3
    go_wp2_with (first
     | (go_at_call 53; refine (inum_at ib t2 1099511627776 b t3 _ HI4.out HG3.out (by omega) (by omega)).mono ?_; rintro e w5 ⟨rfl, hi5, hf5⟩; have HI5 := Lib.hid hi5; clear hi5; have HF5 := Lib.hid hf5; clear hf5)
     | (go_at_call 53; refine (inum_at ib t1 1099511627776 a t2 _ HI3.out HG2.out (by omega) (by omega)).mono ?_; rintro e w4 ⟨rfl, hi4, hf4⟩; have HI4 := Lib.hid hi4; clear hi4; have HF4 := Lib.hid hf4; clear hf4)
     | (go_at_call 53; refine (inum_at ib s 4 d t1 _ HIN.out HG1.out (by omega) (by omega)).mono ?_; rintro e w3 ⟨rfl, hi3, hf3⟩; have HI3 := Lib.hid hi3; clear hi3; have HF3 := Lib.hid hf3; clear hf3)
     | (at_builtin; have hm5 := ((HMD.out.keep HLO.out HF3.out).keep HLO.out HF4.out).keep HLO.out HF5.out; have HM5 := Lib.hid hm5; clear hm5; refine wpList_app1 w5 [.int .i64 d, .int .i64 a, .int .i64 b] rfl (.tmp 8) (.tmp 16) 30 rfl 122 i0 _ 3 24 Tryz.underlying30 hi hz0 hz1 hz2 (by decide) (by decide) _ _ _ HM5.out.own 1 1 rfl rfl rfl ?c1 ?c2 ?c3 ?_))
    case c1 => simp [Value.oneCell']
    case c2 => simp only [maxLen]; omega
    case c3 => omega
    intro ad cc w6 own6 fm6 fr6
    have HIK := Lib.hid (show InSt w6 ib t3 from HI5.out.keep fm6 fun j hj hs => by
     have := HM5.out.new j hs
     have := HLO.out ib rfl
     omega)
    have HST := Lib.hid (HM5.out.step own6 fm6 fr6)
    clear own6 fm6 fr6
    go_wp2
    go_roundw
    case rel => exact ⟨k + 1, c ++ [(d, a, b)], t3, by omega, by go_num, .snoc HRUN.out ⟨_, _, HG1.out, HG2.out, HG3.out⟩, HIK.out, by rw [← spC_snoc]; exact HST.out⟩
    case measure => simp [intOf]; omega
  · obtain rfl : n = k := by omega
    have hcl := HRUN.out.len
    have HBAD := Lib.hid (bad_go ib s wr HIN.out)
    cases s with
    | none =>
     have HPOST := Lib.hid (ctx_bad bdP_ok wideP (M := 60000) (by omega) (by omega) HC1.out HRUN.out (.inl rfl))
     go_wp2_with (first
      | (go_at_call 55; refine HBAD.out.mono ?_; rintro e w2 ⟨rfl, rfl⟩)
      | (go_at_call 109; obtain ⟨a, c, hh⟩ := HIN.out.heap; refine (fail_go ib _ _ wr hh).mono ?_; rintro e w2 ⟨rfl, hi2, hf2⟩; have HI2 := Lib.hid hi2; clear hi2 hh; have HF2 := Lib.hid hf2; clear hf2))
     go_ret
     exact ⟨_, [], none, rfl, ⟨.inl ⟨none, rfl, rfl, rfl⟩, fun h => absurd rfl h⟩, HPOST.out, (fun s hs => by cases hs), Nat.zero_le _, HI2.out, HMD.out.frm.trans HF2.out fun _ _ h => h⟩
    | some r =>
     have hcr := cRight_any wr (.slice aV n cV) c (by unfold CtxAt; rw [hcl]; exact Rd.own HMD.out.own) (SpRun.fits HRUN.out) (by omega)
     have HCR := Lib.hid hcr; clear hcr
     by_cases hr : RightC c
     · rw [tf_true hr] at HCR
       have HPOST := Lib.hid (ctx_good HC1.out HRUN.out hr); clear hr
       have HFI := Lib.hid (SpRun.fits HRUN.out)
       have hnl := HC1.out.left
       go_wp2_with (first
        | (go_at_call 55; refine HBAD.out.mono ?_; rintro e w2 ⟨rfl, rfl⟩)
        | (go_at_call 128; refine HCR.out.mono ?_; rintro e w2 ⟨rfl, hf2⟩; have HF2 := Lib.hid hf2; clear hf2))
       go_ret
       exact ⟨_, c, some r, rfl, by rw [hcl]; exact HMD.out.rdq.keep HF2.out (fun _ _ s => s.elim), HPOST.out, HFI.out, by omega, HIN.out.keep HF2.out (fun _ _ h => h), HMD.out.frm.trans HF2.out fun _ _ h => h.elim⟩
     · rw [tf_false hr] at HCR
       have HPOST := Lib.hid (ctx_bad bdP_ok wideP (M := 60000) (by omega) (by omega) HC1.out HRUN.out (.inr hr)); clear hr
       go_wp2_with (first
        | (go_at_call 55; refine HBAD.out.mono ?_; rintro e w2 ⟨rfl, rfl⟩)
        | (go_at_call 128; refine HCR.out.mono ?_; rintro e w2 ⟨rfl, hf2⟩; have HIN2 := Lib.hid (HIN.out.keep hf2 (fun _ _ h => h)); have HF2 := Lib.hid hf2; clear hf2)
        | (go_at_call 109; obtain ⟨a, c, hh⟩ := HIN2.out.heap; refine (fail_go ib _ _ w2 hh).mono ?_; rintro e w3 ⟨rfl, hi2, hf2⟩; have HI2 := Lib.hid hi2; clear hi2 hh; have HF3 := Lib.hid hf2; clear hf2))
       go_ret
       exact ⟨_, [], none, rfl, ⟨.inl ⟨none, rfl, rfl, rfl⟩, fun h => absurd rfl h⟩, HPOST.out, (fun s hs => by cases hs), Nat.zero_le _, HI2.out, (HMD.out.frm.trans HF2.out fun _ _ h => h.elim).trans HF3.out fun _ _ h => h⟩
theorem stp_app1 {P : Program} {ops : Array Oper} {o : Oper} {a : Act} (w : World) {K : Act → World → Prop} {Q : Exit → Act → World → Prop} {E : Prop} (news : List Value) (hgd : o.guard = none) (s x : Operand) (t : TypeId)
 (ho : o.op = .call { callee := .builtin .append, args := #[s, x], argTypes := #[t, t] })
 (e : TypeId) (i : TypeInfo) (z : Value) (size bytes : Nat) (ht : P.underlying t = some (.slice e)) (hi : P.info? e = some i) (hz : i.zero = some z)
 (hsize : i.size = size) (hby : i.bytes = bytes) (hzs : z.cells.size = size) (hsz : 0 < size)
 (v : Value) (n : Nat) (xs : List Value) (hown : w.ownsRow 0 e size v n xs) (m c : Nat) (hv : a.eval s = v) (hx : a.eval x = .slice (some ⟨w.heap.size, 0, none⟩) m c)
 (hnl : news.length = m * size) (h1 : ∀ u ∈ news, u.oneCell' = true) (h63 : n + m ≤ maxLen) (hbytes : (n + m) * bytes ≤ 140737488355328)
 (h : ∀ ad c w', w'.ownsRow 0 e size (.slice ad (n + m) c) (n + m) (xs ++ news) → Frm (RowS v) w w' → Fresh w v (.slice ad (n + m) c) → K (a.put o.dst (.slice ad (n + m) c)) w') :
 if Region.wanted o (yielded ops a.tmps) = true then Oper.wp P o a (w.alloc (.cells news.toArray e)) K Q else E := by
 have hw : Region.wanted o (yielded ops a.tmps) = true := by simp [Region.wanted, hgd]
 rw [if_pos hw]
 have hs : Src P size t (.slice (some ⟨w.heap.size, 0, none⟩) m c) m news (w.alloc (.cells news.toArray e)) :=
  Src.ofSlice _ ht ⟨w.heap.size, 0, none⟩ m c news hnl (fun j u hj => by
   have hadd : (⟨w.heap.size, 0, none⟩ : Addr).add j = ⟨w.heap.size, j, none⟩ := by unfold Addr.add; split <;> simp_all
   rw [hadd, cell_of_row (w.alloc (.cells news.toArray e)) w.heap.size j news.toArray e (0, 0) (heap_alloc_new w _)]
   simpa using hj) h1
 obtain ⟨v', w', hr, h2, h3, h4, ⟨ad, c', rfl⟩, h6⟩ := run_app (P := P) (w.alloc (.cells news.toArray e)) t t o.type e i z size bytes ht hi hz hsize hby hzs hsz v n xs (hown.alloc _) _ m news hs h63 hbytes
 unfold Oper.wp execOp
 simp only [ho, resolve, invoke, builtin, Sem.run_bind, Sem.run_pure, Result.andThen_ok, List.map_toArray, List.map_cons, List.map_nil, hv, hx, hr]
 refine h ad c' w' h2 ((Frm.alloc (RowS v) w _).trans h3 (fun _ _ h => h)) fun k hk => ?_
 rcases h4 k hk with h | h
 · exact .inl h
 · refine .inr ?_
   simp at h
   omega
def GetQ (w : World) (X : Nat → Prop) (h3 : Nat) (ev kv : Value) (b : Nat) : Prop := w.heap.size ≤ b ∧ ¬ X b ∧ b ≠ h3 ∧ ev.ownBlock ≠ some b ∧ kv.ownBlock ≠ some b
structure GetAt (S X : Nat → Prop) (w ww : World) (h3 : Nat) (es : List Ent) (l : List KidQ) (ev kv : Value) : Prop where
 low : ∀ k, S k → k < w.heap.size
 xnew : ∀ k, X k → w.heap.size ≤ k
 xlt : ∀ k, X k → k < ww.heap.size
 frm : Frm S w ww
 b3 : ww.heap[h3]? = some (.cells #[ev, kv] 28 (0, 0))
 new3 : w.heap.size ≤ h3
 nx3 : ¬ X h3
 eown : ww.ownsRow 0 170 4 ev es.length (entC es)
 enew : ∀ b, ev.ownBlock = some b → w.heap.size ≤ b ∧ ¬ X b ∧ b ≠ h3
 kown : ww.ownsRow 0 172 3 kv l.length (l.flatMap KidQ.cells)
 knew : ∀ b, kv.ownBlock = some b → w.heap.size ≤ b ∧ ¬ X b ∧ b ≠ h3 ∧ ev.ownBlock ≠ some b
 kids : ∀ q ∈ l, TreeAt (GetQ w X h3 ev kv) ww q.ev q.kv q.es q.sub
section
variable {S X : Nat → Prop} {w ww w1 w' : World} {h3 : Nat} {es : List Ent} {l : List KidQ} {ev kv ev' kv' : Value}
theorem GetAt.keep (h : GetAt S X w ww h3 es l ev kv) (f : Frm (fun k => S k ∨ X k) ww w') : GetAt S X w w' h3 es l ev kv := by
 have no : ∀ b, w.heap.size ≤ b → ¬ X b → ¬ (S b ∨ X b) := fun b hb hx hs => hs.elim (fun s => by have := h.low b s; omega) hx
 refine ⟨h.low, h.xnew, fun k hk => Nat.lt_of_lt_of_le (h.xlt k hk) f.size, ?_, f.blk h.b3 (no _ h.new3 h.nx3), h.new3, h.nx3, f.owns h.eown fun b hb => no b (h.enew b hb).1 (h.enew b hb).2.1, h.enew, f.owns h.kown fun b hb => no b (h.knew b hb).1 (h.knew b hb).2.1, h.knew, fun q hq => (h.kids q hq).turn fun b hb hQ => ⟨f.block b hb (no b hQ.1 hQ.2.1), hQ⟩⟩
 exact h.frm.trans f fun i hi hs => hs.elim id fun hx => by have := h.xnew i hx; omega
theorem GetAt.keepS (h : GetAt S X w ww h3 es l ev kv) (f : Frm S ww w') : GetAt S X w w' h3 es l ev kv := h.keep (f.mono fun _ _ s => .inl s)
theorem GetAt.keep0 (h : GetAt S X w ww h3 es l ev kv) (f : Frm NoS ww w') : GetAt S X w w' h3 es l ev kv := h.keep (f.mono fun _ _ s => s.elim)
theorem GetAt.l3 (h : GetAt S X w ww h3 es l ev kv) : h3 < ww.heap.size := lt_of_block h.b3
theorem GetAt.start (low : ∀ k, S k → k < w.heap.size) (xnew : ∀ k, X k → w.heap.size ≤ k) (xlt : ∀ k, X k → k < ww.heap.size) (f : Frm S w ww) (b3 : ww.heap[h3]? = some (.cells #[.slice none 0 0, .slice none 0 0] 28 (0, 0))) (new3 : w.heap.size ≤ h3) (nx3 : ¬ X h3) :
 GetAt S X w ww h3 [] [] (.slice none 0 0) (.slice none 0 0) :=
 ⟨low, xnew, xlt, f, b3, new3, nx3, World.ownsRow_nil _ 0 _ 4, (fun b hb => by simp [Value.ownBlock] at hb), World.ownsRow_nil _ 0 _ 3, (fun b hb => by simp [Value.ownBlock] at hb), fun q hq => by cases hq⟩
theorem GetAt.stepE (h : GetAt S X w w1 h3 es [] ev (.slice none 0 0)) {e : Ent} (own : w'.ownsRow 0 170 4 ev' (es.length + 1) (entC es ++ e.cells)) (fm : Frm (RowS ev) w1 w') (fr : Fresh w1 ev ev') :
 GetAt S X w (w'.setCell ⟨h3, 0, none⟩ ev') h3 (es ++ [e]) [] ev' (.slice none 0 0) := by
 have hb3 : ¬ RowS ev h3 := fun hs => (h.enew h3 hs).2.2 rfl
 have hset : Frm (fun b => b = h3) w' (w'.setCell ⟨h3, 0, none⟩ ev') := Frm.setCell (S := fun b => b = h3) w' (p := ⟨h3, 0, none⟩) (.inl rfl) _
 have l3 := h.l3
 have hne : ∀ b, ev'.ownBlock = some b → w.heap.size ≤ b ∧ ¬ X b ∧ b ≠ h3 := fun b hb => by
  rcases fr b hb with h1 | h1
  · exact h.enew b h1
  · have := h.frm.size
    exact ⟨by omega, fun hx => by have := h.xlt b hx; omega, by omega⟩
 refine ⟨h.low, h.xnew, fun k hk => Nat.lt_of_lt_of_le (h.xlt k hk) (Nat.le_trans fm.size hset.size), ?_, set_at' (fm.blk h.b3 hb3) 0 ev', h.new3, h.nx3, ?_, hne, World.ownsRow_nil _ 0 _ 3, (fun b hb => by simp [Value.ownBlock] at hb), fun q hq => by cases hq⟩
 · have f1 : Frm S w w' := h.frm.trans fm fun i hi hs => by have := (h.enew i hs).1; omega
   exact f1.trans hset fun i hi hs => by have hs : i = h3 := hs; have := h.new3; omega
 · rw [List.length_append, entC_append]
   have : entC [e] = e.cells := by simp [entC]
   rw [this]
   exact hset.owns own fun b hb hs => (hne b hb).2.2 hs
theorem GetAt.stepK (h : GetAt S X w w1 h3 es l ev kv) {q : KidQ} (hq : TreeAt (GetQ w X h3 ev kv) w1 q.ev q.kv q.es q.sub) (own : w'.ownsRow 0 172 3 kv' (l.length + 1) (l.flatMap KidQ.cells ++ q.cells)) (fm : Frm (RowS kv) w1 w') (fr : Fresh w1 kv kv') :
 GetAt S X w (w'.setCell ⟨h3, 1, none⟩ kv') h3 es (l ++ [q]) ev kv' := by
 have hb3 : ¬ RowS kv h3 := fun hs => (h.knew h3 hs).2.2.1 rfl
 have hset : Frm (fun b => b = h3) w' (w'.setCell ⟨h3, 1, none⟩ kv') := Frm.setCell (S := fun b => b = h3) w' (p := ⟨h3, 1, none⟩) (.inl rfl) _
 have l3 := h.l3
 have hne : ∀ b, kv'.ownBlock = some b → w.heap.size ≤ b ∧ ¬ X b ∧ b ≠ h3 ∧ ev.ownBlock ≠ some b := fun b hb => by
  rcases fr b hb with h1 | h1
  · exact h.knew b h1
  · have := h.frm.size
    exact ⟨by omega, fun hx => by have := h.xlt b hx; omega, by omega, fun he => by have := own_lt h.eown b he; omega⟩
 have turn : ∀ b, b < w1.heap.size → GetQ w X h3 ev kv b → (w'.setCell ⟨h3, 1, none⟩ kv').heap[b]? = w1.heap[b]? ∧ GetQ w X h3 ev kv' b := fun b hb hQ => by
  refine ⟨?_, hQ.1, hQ.2.1, hQ.2.2.1, hQ.2.2.2.1, fun e => ?_⟩
  · rw [hset.block b (Nat.lt_of_lt_of_le hb fm.size) hQ.2.2.1, fm.block b hb hQ.2.2.2.2]
  · rcases fr b e with h1 | h1
    · exact hQ.2.2.2.2 h1
    · omega
 refine ⟨h.low, h.xnew, fun k hk => Nat.lt_of_lt_of_le (h.xlt k hk) (Nat.le_trans fm.size hset.size), ?_, set_at' (fm.blk h.b3 hb3) 1 kv', h.new3, h.nx3, ?_, h.enew, ?_, hne, fun x hx => ?_⟩
 · have f1 : Frm S w w' := h.frm.trans fm fun i hi hs => by have := (h.knew i hs).1; omega
   exact f1.trans hset fun i hi hs => by have hs : i = h3 := hs; have := h.new3; omega
 · have o1 := fm.owns h.eown fun b hb hs => (h.knew b hs).2.2.2 hb
   exact hset.owns o1 fun b hb hs => (h.enew b hb).2.2 hs
 · rw [List.length_append, List.flatMap_append]
   have : [q].flatMap KidQ.cells = q.cells := by simp
   rw [this]
   exact hset.owns own fun b hb hs => (hne b hb).2.2.1 hs
 · rcases List.mem_append.1 hx with hx | hx
   · exact (h.kids x hx).turn turn
   · rw [List.mem_singleton] at hx
     subst hx
     exact hq.turn turn
theorem GetAt.done (h : GetAt S X w ww h3 es l ev kv) : TreeAt (fun b => w.heap.size ≤ b ∧ ¬ X b ∧ b ≠ h3) ww ev kv es (mkK l) := by
 refine ⟨⟨Rd.own h.eown, fun _ b hb => h.enew b hb⟩, outK l, ⟨?_, fun _ b hb => ⟨(h.knew b hb).1, (h.knew b hb).2.1, (h.knew b hb).2.2.1⟩⟩, mkK_for fun q hq => (h.kids q hq).turn fun b hb hQ => ⟨rfl, hQ.1, hQ.2.1, hQ.2.2.1⟩⟩
 rw [mkK_cells, mkK_len]
 exact Rd.own h.kown
theorem GetAt.kid (h : GetAt S X w w1 h3 es l ev kv) {e2 k2 : Value} {es2 : List Ent} {ks2 : KidsL} (ht : TreeAt (fun b => w1.heap.size ≤ b) ww e2 k2 es2 ks2) (hs : w1.heap.size ≤ ww.heap.size) : TreeAt (GetQ w X h3 ev kv) ww e2 k2 es2 ks2 :=
 ht.turn fun b hb hQ => ⟨rfl, by have := h.frm.size; omega, fun hx => by have := h.xlt b hx; omega, by have := h.l3; omega, fun he => by have := own_lt h.eown b he; omega, fun he => by have := own_lt h.kown b he; omega⟩
end
end Go.Proofs.YtcahemkomfaabaaGreat
