/- Words for the law PackLong: Enc2, Awake16a, RTake, RTake2, RIn, RIText, Takes0. -/
import Derived.Test.YtafdclkpeomomaaPackLongG14
import Derived.Test.YtafdclkpeomomaaPackLongG15
import Derived.Deep.RegionWith
import Derived.Deep.RegionHeld3
set_option linter.unusedSimpArgs false
set_option linter.unusedVariables false
/- What bytes tell: a tree, a context, what is known: the plain law. -/
namespace Go.Proofs.Ytafdclkpeomomaa
open Go.RowKit

/-- Bytes begin with a tree within bounds. -/
structure GetOk (B : Lim) (d : Nat) (bs : List UInt8) (es : List Ent) (ks : KidsL) (rest : List UInt8) : Prop where
  eq : bs = encT es ks ++ rest
  ebd : ∀ e ∈ es, e.bd B
  kbd : ks.bd B
  deep : deepK ks + 1 ≤ d
/-- Bytes begin with so many kids. -/
structure KsOk (B : Lim) (d : Nat) (bs : List UInt8) (m : Nat) (ks : KidsL) (rest : List UInt8) : Prop where
  eq : bs = encK ks ++ rest
  len : ks.len = m
  kbd : ks.bd B
  deep : deepK ks ≤ d
/-- What taking a tree answers. -/
def GetRes (B : Lim) (d : Nat) (st : Option (List UInt8)) (es : List Ent) (ks : KidsL) (s : Option (List UInt8)) : Prop :=
  (∃ bs rest, st = some bs ∧ s = some rest ∧ GetOk B d bs es ks rest) ∨ (s = none ∧ ∀ bs es ks rest, st = some bs → ¬ GetOk B d bs es ks rest)

theorem encK_app : ∀ (l : List KidQ) (r : KidsL), encK (appK l r) = encK (mkK l) ++ encK r
  | [], _ => rfl
  | q :: l, r => by
    show encK (.cons q.key q.es q.sub (appK l r)) = encK (.cons q.key q.es q.sub (mkK l)) ++ _
    rw [encK_cons, encK_cons, encK_app l r]
    simp only [List.append_assoc]
theorem appK_bd {B : Lim} : ∀ {l : List KidQ} {r : KidsL}, (mkK l).bd B → r.bd B → (appK l r).bd B
  | [], _, _, h => h
  | q :: l, r, h, k => ⟨h.1, h.2.1, h.2.2.1, appK_bd (l := l) h.2.2.2 k⟩
theorem appK_deep {d : Nat} : ∀ {l : List KidQ} {r : KidsL}, deepK (mkK l) ≤ d → deepK r ≤ d → deepK (appK l r) ≤ d
  | [], _, _, h => h
  | q :: l, r, h, k => by
    have h : max (1 + deepK q.sub) (deepK (mkK l)) ≤ d := h
    have := appK_deep (l := l) (r := r) (d := d) (by omega) k
    show max (1 + deepK q.sub) (deepK (appK l r)) ≤ d
    omega
def KidsL.takeQ : Nat → KidsL → List KidQ
  | 0, _ => []
  | _ + 1, .nil => []
  | n + 1, .cons key es sub rest => ⟨key, es, sub, .slice none 0 0, .slice none 0 0⟩ :: KidsL.takeQ n rest
theorem KidsL.take_drop : ∀ (n : Nat) (ks : KidsL), ks = appK (ks.takeQ n) (ks.drop n)
  | 0, _ => rfl
  | _ + 1, .nil => rfl
  | n + 1, .cons key es sub rest => by
    show _ = KidsL.cons key es sub (appK (rest.takeQ n) (rest.drop n))
    rw [← KidsL.take_drop n rest]
theorem KidsL.takeQ_len : ∀ (n : Nat) (ks : KidsL), n ≤ ks.len → (ks.takeQ n).length = n
  | 0, _, _ => rfl
  | _ + 1, .nil, h => by cases h
  | n + 1, .cons _ _ _ rest, h => by
    show (rest.takeQ n).length + 1 = n + 1
    rw [KidsL.takeQ_len n rest (by have h : n + 1 ≤ rest.len + 1 := h; omega)]
/-- The kid that stands next. -/
theorem KsOk.next {B : Lim} {d m : Nat} {b3 r rest : List UInt8} {ks : KidsL} {l : List KidQ} (h : KsOk B d b3 m ks rest) (hb : b3 = encK (mkK l) ++ r) (hk : l.length < m) :
    ∃ key es sub q, r = textB key ++ (encT es sub ++ q) ∧ (key.size : Int) ≤ B.s ∧ GetOk B d (encT es sub ++ q) es sub q := by
  have hlen := h.len
  obtain ⟨key, es, sub, rst, hd⟩ := KidsL.drop_some (n := l.length) (ks := ks) (by omega)
  have hq : (ks.takeQ l.length).length = l.length := KidsL.takeQ_len _ _ (by omega)
  have he := h.eq
  rw [KidsL.take_drop l.length ks, encK_app, hb, List.append_assoc] at he
  obtain ⟨_, hr⟩ := encK_pfx (by rw [mkK_len, mkK_len, hq]) he
  rw [hd, encK_cons] at hr
  have hbd := h.kbd.drop l.length
  rw [hd] at hbd
  have hdp := deepK_drop l.length ks
  rw [hd] at hdp
  have hdp : max (1 + deepK sub) (deepK rst) ≤ deepK ks := hdp
  have := h.deep
  exact ⟨key, es, sub, encK rst ++ rest, by rw [hr]; simp only [List.append_assoc], hbd.1, rfl, hbd.2.1, hbd.2.2.1, by omega⟩
structure KGood (B : Lim) (d : Nat) (b3 : List UInt8) (l : List KidQ) (r : List UInt8) : Prop where
  eq : b3 = encK (mkK l) ++ r
  bd : (mkK l).bd B
  deep : deepK (mkK l) ≤ d
/-- What the loop over kids bears. -/
def KInv (B : Lim) (d : Nat) (s3 : Option (List UInt8)) (m : Nat) (l : List KidQ) (s : Option (List UInt8)) : Prop :=
  (∃ b3 r, s3 = some b3 ∧ s = some r ∧ KGood B d b3 l r) ∨ (s = none ∧ ∀ b3 ks rest, s3 = some b3 → ¬ KsOk B d b3 m ks rest)
theorem KInv.start (B : Lim) (d : Nat) (s3 : Option (List UInt8)) (m : Nat) : KInv B d s3 m [] s3 := by
  cases s3 with
  | none => exact .inr ⟨rfl, fun _ _ _ h => by cases h⟩
  | some b => exact .inl ⟨b, b, rfl, rfl, rfl, trivial, Nat.zero_le _⟩
theorem KInv.good {B : Lim} {d m : Nat} {s3 : Option (List UInt8)} {l : List KidQ} {r : List UInt8} (h : KInv B d s3 m l (some r)) : ∃ b3, s3 = some b3 ∧ KGood B d b3 l r := by
  rcases h with ⟨b3, r', h1, h2, h3⟩ | ⟨h1, _⟩
  · injection h2 with h2; subst h2; exact ⟨b3, h1, h3⟩
  · cases h1
theorem KInv.step {B : Lim} {d m : Nat} {s3 t1 t2 : Option (List UInt8)} {l : List KidQ} {r : List UInt8} (h : KInv B d s3 m l (some r)) (hB : B.Ok) (hk : l.length < m) {q : KidQ}
    (ht : TextStep (some r) B.s q.key t1) (hg : GetRes B d t1 q.es q.sub t2) : KInv B d s3 m (l ++ [q]) t2 := by
  obtain ⟨b3, rfl, hb⟩ := h.good
  cases t2 with
  | some r2 =>
    rcases hg with ⟨bs, rest, rfl, hr, hg⟩ | ⟨hg, _⟩
    · injection hr with hr; subst hr
      obtain ⟨hr, hs⟩ := text_good ht
      injection hr with hr
      refine .inl ⟨b3, r2, rfl, rfl, ?_, ?_, ?_⟩
      · show b3 = encK (appK (l ++ [q]) .nil) ++ r2
        rw [appK_snoc, encK_app, encK_cons, hb.eq, hr, hg.eq]
        simp only [List.append_assoc, encK, List.nil_append]
      · show (appK (l ++ [q]) .nil).bd B
        rw [appK_snoc]
        exact appK_bd hb.bd ⟨hs, hg.ebd, hg.kbd, trivial⟩
      · show deepK (appK (l ++ [q]) .nil) ≤ d
        rw [appK_snoc]
        have := hg.deep
        exact appK_deep hb.deep (by show max (1 + deepK q.sub) 0 ≤ d; omega)
    · cases hg
  | none =>
    refine .inr ⟨rfl, fun b ks rest hb3 hks => ?_⟩
    injection hb3 with hb3; subst hb3
    obtain ⟨key, es, sub, x, hr, hs, hgk⟩ := hks.next hb.eq hk
    subst hr
    obtain ⟨_, rfl⟩ := ht.det (text_make _ hs hB.s.2)
    rcases hg with ⟨_, _, _, hg, _⟩ | ⟨_, hg⟩
    · cases hg
    · exact hg _ _ _ _ rfl hgk
theorem encT_ge (es : List Ent) (ks : KidsL) : es.length ≤ (encEs es).length ∧ ks.len ≤ (encK ks).length := ⟨flat_pos encE_pos es, encK_pos ks⟩
/-- What was taken of a tree's parts tells the tree. -/
theorem get_parts {B : Lim} (hB : B.Ok) {M : Int} (hM : M ≤ 9223372036854775807) {d n m : Nat} {st s1 s2 s3 : Option (List UInt8)} {es : List Ent} (hl : ((leftOf st).length : Int) ≤ M) (h1 : CntStep st M n s1) (h2 : EsRun B s1 n es s2) (h3 : CntStep s2 M m s3)
    {bs : List UInt8} {es' : List Ent} {ks' : KidsL} {rest : List UInt8} (hs : st = some bs) (hg : GetOk B (d + 1) bs es' ks' rest) : es' = es ∧ ∃ b3, s3 = some b3 ∧ KsOk B d b3 m ks' rest := by
  subst hs
  have he := hg.eq
  unfold encT at he
  simp only [List.append_assoc] at he
  subst he
  have hge := encT_ge es' ks'
  have hl : ((numB es'.length ++ (encEs es' ++ (numB ks'.len ++ (encK ks' ++ rest)))).length : Int) ≤ M := hl
  simp only [List.length_append] at hl
  obtain ⟨rfl, rfl⟩ := h1.det (CntStep.make (by simp only [List.length_append]; omega) (by omega) hM)
  obtain ⟨rfl, rfl⟩ := Run.det (R := EntStep B) (fun h k => EntStep.det h k) h2 (EsRun.make hB _ hg.ebd)
  obtain ⟨rfl, rfl⟩ := h3.det (CntStep.make (by simp only [List.length_append]; omega) (by omega) hM)
  have := hg.deep
  exact ⟨rfl, _, rfl, rfl, rfl, hg.kbd, by omega⟩
theorem get_done {B : Lim} (hB : B.Ok) {M : Int} (hM : M ≤ 9223372036854775807) {d n m : Nat} {st s1 s2 s3 s : Option (List UInt8)} {es : List Ent} {l : List KidQ} (hl : ((leftOf st).length : Int) ≤ M) (h1 : CntStep st M n s1) (h2 : EsRun B s1 n es s2) (h3 : CntStep s2 M m s3)
    (hk : KInv B d s3 m l s) (hm : l.length = m) : GetRes B (d + 1) st es (mkK l) s := by
  cases s with
  | some r =>
    obtain ⟨b3, rfl, hb⟩ := hk.good
    obtain ⟨rfl, _, _⟩ := h3.good
    obtain ⟨rfl, hes⟩ := h2.good
    obtain ⟨rfl, _, _⟩ := h1.good
    have hd := hb.deep
    refine .inl ⟨_, r, rfl, rfl, ?_, hes, hb.bd, by omega⟩
    unfold encT
    rw [hb.eq, h2.len, mkK_len, hm]
    simp only [List.append_assoc]
  | none =>
    refine .inr ⟨rfl, fun bs es' ks' rest hs hg => ?_⟩
    obtain ⟨_, b3, h4, h5⟩ := get_parts hB hM hl h1 h2 h3 hs hg
    rcases hk with ⟨_, _, _, h6, _⟩ | ⟨_, h6⟩
    · cases h6
    · exact h6 _ _ _ h4 h5
theorem get_early {B : Lim} (hB : B.Ok) {M : Int} (hM : M ≤ 9223372036854775807) {d n m : Nat} {st s1 s2 s3 : Option (List UInt8)} {es : List Ent} {l : List KidQ} (hl : ((leftOf st).length : Int) ≤ M) (h1 : CntStep st M n s1) (h2 : EsRun B s1 n es s2) (h3 : CntStep s2 M m s3)
    (hk : KInv B d s3 m l none) (es' : List Ent) (ks' : KidsL) : GetRes B (d + 1) st es' ks' none := by
  refine .inr ⟨rfl, fun bs es' ks' rest hs hg => ?_⟩
  obtain ⟨_, b3, h4, h5⟩ := get_parts hB hM hl h1 h2 h3 hs hg
  rcases hk with ⟨_, _, _, h6, _⟩ | ⟨_, h6⟩
  · cases h6
  · exact h6 _ _ _ h4 h5
theorem get_zero (B : Lim) (st : Option (List UInt8)) (es : List Ent) (ks : KidsL) : GetRes B 0 st es ks none := .inr ⟨rfl, fun _ _ _ _ _ h => by have := h.deep; omega⟩
theorem get_none (B : Lim) (d : Nat) (es : List Ent) (ks : KidsL) : GetRes B d none es ks none := .inr ⟨rfl, fun _ _ _ _ h => by cases h⟩

/- ### what may be is within bounds -/
theorem entB_bd {e : Ent} (h : entB e = true) : e.bd bdP := by
  unfold entB dotB at h
  simp only [Bool.and_eq_true, decide_eq_true_eq] at h
  obtain ⟨⟨h1, h2, h3, h4⟩, h5, h6, h7⟩ := h
  exact ⟨by simp only [bdP]; omega, by simp only [bdP]; omega, by simp only [bdP]; omega, by simp only [bdP]; omega⟩
theorem rightEs_bd : ∀ {p : Option Ent} {es : List Ent}, rightEs p es = true → ∀ e ∈ es, e.bd bdP
  | _, [], _, e, he => by cases he
  | p, x :: es, h, e, he => by
    simp only [rightEs, Bool.and_eq_true] at h
    rcases List.mem_cons.1 he with rfl | he
    · exact entB_bd h.1.1
    · exact rightEs_bd h.2 e he
theorem rightKs_bd : ∀ {ks : KidsL} {d : Nat} {p : Option ByteArray}, rightKs ks d p = true → ks.bd bdP ∧ deepK ks ≤ d
  | .nil, _, _, _ => ⟨trivial, Nat.zero_le _⟩
  | .cons key es sub rest, d, p, h => by
    simp only [rightKs, Bool.and_eq_true, decide_eq_true_eq] at h
    obtain ⟨⟨⟨⟨h1, _⟩, _⟩, ⟨h2, h3⟩, h4⟩, h5⟩ := h
    obtain ⟨g1, g2⟩ := rightKs_bd h4
    obtain ⟨g3, g4⟩ := rightKs_bd h5
    unfold keyB at h1
    simp only [decide_eq_true_eq] at h1
    exact ⟨⟨by simp only [bdP]; omega, rightEs_bd h3, g1, g3⟩, by show max (1 + deepK sub) (deepK rest) ≤ d; omega⟩
theorem Ent.bd.up {e : Ent} (h : e.bd bdP) : e.bd bdR := by
  obtain ⟨h1, h2, h3, h4⟩ := h
  simp only [bdP] at h1 h2 h3 h4
  exact ⟨by simp only [bdR]; omega, by simp only [bdR]; omega, by simp only [bdR]; omega, by simp only [bdR]; omega⟩
theorem KidsL.bd.up : ∀ {ks : KidsL}, ks.bd bdP → ks.bd bdR
  | .nil, _ => trivial
  | .cons _ _ _ _, h => ⟨by have := h.1; simp only [bdP] at this; simp only [bdR]; omega, fun e he => (h.2.1 e he).up, h.2.2.1.up, h.2.2.2.up⟩
/-- The bounds that something right is within. -/
def Wide (B : Lim) : Prop := (∀ e : Ent, e.bd bdP → e.bd B) ∧ (∀ ks : KidsL, ks.bd bdP → ks.bd B) ∧ ∀ s, spBd bdP s → spBd B s
theorem wideP : Wide bdP := ⟨fun _ h => h, fun _ h => h, fun _ h => h⟩
theorem wideR : Wide bdR := ⟨fun _ h => h.up, fun _ h => h.up, fun s h => by
  obtain ⟨h1, h2, h3⟩ := h
  simp only [bdP] at h1 h2 h3
  exact ⟨by simp only [bdR]; omega, by simp only [bdR]; omega, by simp only [bdR]; omega⟩⟩
theorem right_ok {B : Lim} (hW : Wide B) {es : List Ent} {ks : KidsL} {rest : List UInt8} (h : rightT 5 es ks = true) : GetOk B 5 (encT es ks ++ rest) es ks rest := by
  unfold rightT at h
  simp only [Bool.and_eq_true, decide_eq_true_eq] at h
  obtain ⟨⟨_, h1⟩, h2⟩ := h
  obtain ⟨g1, g2⟩ := rightKs_bd h2
  exact ⟨rfl, fun e he => hW.1 e (rightEs_bd h1 e he), hW.2.1 ks g1, by omega⟩
/-- What taking a right tree answers. -/
def TreeRes (st : Option (List UInt8)) (es : List Ent) (ks : KidsL) (s : Option (List UInt8)) : Prop :=
  (∃ rest, st = some (encT es ks ++ rest) ∧ rightT 5 es ks = true ∧ s = some rest) ∨ (s = none ∧ es = [] ∧ ks = .nil ∧ ∀ es ks rest, st = some (encT es ks ++ rest) → rightT 5 es ks = false)
theorem tree_good {B : Lim} {st : Option (List UInt8)} {es : List Ent} {ks : KidsL} {rest : List UInt8} (h : GetRes B 5 st es ks (some rest)) (hr : rightT 5 es ks = true) : TreeRes st es ks (some rest) := by
  rcases h with ⟨bs, r, rfl, h2, h3⟩ | ⟨h, _⟩
  · injection h2 with h2; subst h2
    exact .inl ⟨rest, by rw [h3.eq], hr, rfl⟩
  · cases h
theorem tree_wrong {B : Lim} {st : Option (List UInt8)} {es : List Ent} {ks : KidsL} {rest : List UInt8} (h : GetRes B 5 st es ks (some rest)) (hr : rightT 5 es ks = false) : TreeRes st [] .nil none := by
  rcases h with ⟨bs, r, rfl, h2, h3⟩ | ⟨h, _⟩
  · refine .inr ⟨rfl, rfl, rfl, fun es' ks' rest' hs => ?_⟩
    injection hs with hs
    rw [h3.eq] at hs
    obtain ⟨⟨rfl, rfl⟩, _⟩ := encT_pfx hs
    exact hr
  · cases h
theorem tree_bad {B : Lim} (hW : Wide B) {st : Option (List UInt8)} {es : List Ent} {ks : KidsL} (h : GetRes B 5 st es ks none) : TreeRes st [] .nil none := by
  rcases h with ⟨_, _, _, h2, _⟩ | ⟨_, h⟩
  · cases h2
  · refine .inr ⟨rfl, rfl, rfl, fun es' ks' rest' hs => ?_⟩
    cases hr : rightT 5 es' ks' with
    | false => rfl
    | true => exact absurd (right_ok hW hr) (h _ _ _ _ hs)
theorem TreeRes.det {st s s' : Option (List UInt8)} {es es' : List Ent} {ks ks' : KidsL} (h : TreeRes st es ks s) (k : TreeRes st es' ks' s') : (es = es' ∧ ks = ks') ∧ s = s' := by
  rcases h with ⟨r, h1, h2, h3⟩ | ⟨h1, h2, h3, h4⟩ <;> rcases k with ⟨r', k1, k2, k3⟩ | ⟨k1, k2, k3, k4⟩
  · rw [h1] at k1
    injection k1 with k1
    obtain ⟨e, rfl⟩ := encT_pfx k1
    exact ⟨e, by rw [h3, k3]⟩
  · rw [k4 _ _ _ h1] at h2; cases h2
  · rw [h4 _ _ _ k1] at k2; cases k2
  · exact ⟨⟨by rw [h2, k2], by rw [h3, k3]⟩, by rw [h1, k1]⟩
theorem TreeRes.make {es : List Ent} {ks : KidsL} (rest : List UInt8) (h : rightT 5 es ks = true) : TreeRes (some (encT es ks ++ rest)) es ks (some rest) := .inl ⟨rest, rfl, h, rfl⟩
theorem TreeRes.none_ {es : List Ent} {ks : KidsL} {s : Option (List UInt8)} (h : TreeRes none es ks s) : s = none := by
  rcases h with ⟨_, h, _⟩ | ⟨h, _⟩
  · cases h
  · exact h
/- ### contexts -/
theorem RightC.each {c : CtxL} (h : RightC c) : ∀ s ∈ c, spBd bdP s := fun s hs => by
  have hd : ∀ {c : CtxL} {lo : Int}, DcFrom lo c → ∀ s ∈ c, lo ≤ s.1 ∧ s.1 < 4 := by
    intro c
    induction c with
    | nil => intro lo _ s hs; cases hs
    | cons x c ih =>
      intro lo h s hs
      rcases List.mem_cons.1 hs with rfl | hs
      · exact ⟨h.1, h.2.1⟩
      · have := ih h.2.2 s hs
        have := h.1
        omega
  obtain ⟨h0, h4⟩ := hd h.1 s hs
  have hr := h.2 s.1 h0 h4
  have hm : s.2 ∈ partL c s.1 := by
    unfold partL
    exact List.mem_map.2 ⟨s, List.mem_filter.2 ⟨hs, by simp⟩, rfl⟩
  have g1 := runsFrom_ge hr.1 _ hm
  have g2 := hr.2 _ hm
  refine ⟨?_, ?_, ?_⟩ <;> simp only [bdP] <;> omega
def CtxRes (st : Option (List UInt8)) (c : CtxL) (s : Option (List UInt8)) : Prop :=
  (∃ rest, st = some (encC c ++ rest) ∧ RightC c ∧ s = some rest) ∨ (s = none ∧ c = [] ∧ ∀ c rest, st = some (encC c ++ rest) → ¬ RightC c)
theorem ctx_parts {B : Lim} (hB : B.Ok) (hW : Wide B) {M : Int} (hM : M ≤ 9223372036854775807) {n : Nat} {st s1 s2 : Option (List UInt8)} {c : CtxL} (hl : ((leftOf st).length : Int) ≤ M) (h1 : CntStep st M n s1) (h2 : SpRun B s1 n c s2)
    {c' : CtxL} {rest : List UInt8} (hs : st = some (encC c' ++ rest)) (hr : RightC c') : c' = c ∧ s2 = some rest := by
  subst hs
  have hge : c'.length ≤ (encSs c').length := flat_pos encS_pos c'
  have hl : ((encC c' ++ rest).length : Int) ≤ M := hl
  unfold encC at hl h1
  rw [List.append_assoc] at hl h1
  simp only [List.length_append] at hl
  obtain ⟨rfl, rfl⟩ := h1.det (CntStep.make (by simp only [List.length_append]; omega) (by omega) hM)
  obtain ⟨rfl, rfl⟩ := Run.det (R := SpStep B) (fun h k => SpStep.det h k) h2 (SpRun.make hB _ fun s hs => hW.2.2 s (hr.each s hs))
  exact ⟨rfl, rfl⟩
theorem ctx_good {B : Lim} {M : Int} {n : Nat} {st s1 : Option (List UInt8)} {c : CtxL} {rest : List UInt8} (h1 : CntStep st M n s1) (h2 : SpRun B s1 n c (some rest)) (hr : RightC c) : CtxRes st c (some rest) := by
  obtain ⟨rfl, _⟩ := h2.good
  obtain ⟨rfl, _, _⟩ := h1.good
  refine .inl ⟨rest, ?_, hr, rfl⟩
  unfold encC
  rw [h2.len, List.append_assoc]
theorem ctx_bad {B : Lim} (hB : B.Ok) (hW : Wide B) {M : Int} (hM : M ≤ 9223372036854775807) {n : Nat} {st s1 s2 : Option (List UInt8)} {c : CtxL} (hl : ((leftOf st).length : Int) ≤ M) (h1 : CntStep st M n s1) (h2 : SpRun B s1 n c s2) (h : s2 = none ∨ ¬ RightC c) : CtxRes st [] none := by
  refine .inr ⟨rfl, rfl, fun c' rest hs hr => ?_⟩
  obtain ⟨rfl, h3⟩ := ctx_parts hB hW hM hl h1 h2 hs hr
  rcases h with h | h
  · rw [h] at h3; cases h3
  · exact h hr
theorem CtxRes.det {st s s' : Option (List UInt8)} {c c' : CtxL} (h : CtxRes st c s) (k : CtxRes st c' s') : c = c' ∧ s = s' := by
  rcases h with ⟨r, h1, h2, h3⟩ | ⟨h1, h2, h4⟩ <;> rcases k with ⟨r', k1, k2, k3⟩ | ⟨k1, k2, k4⟩
  · rw [h1] at k1
    injection k1 with k1
    obtain ⟨e, rfl⟩ := encC_pfx k1
    exact ⟨e, by rw [h3, k3]⟩
  · exact absurd h2 (k4 _ _ h1)
  · exact absurd k2 (h4 _ _ k1)
  · exact ⟨by rw [h2, k2], by rw [h1, k1]⟩
theorem CtxRes.make {c : CtxL} (rest : List UInt8) (h : RightC c) : CtxRes (some (encC c ++ rest)) c (some rest) := .inl ⟨rest, rfl, h, rfl⟩
theorem CtxRes.none_ {c : CtxL} {s : Option (List UInt8)} (h : CtxRes none c s) : s = none := by
  rcases h with ⟨_, h, _⟩ | ⟨h, _⟩
  · cases h
  · exact h
/- ### what is known -/
def CauRes (st : Option (List UInt8)) (es : List Ent) (ks : KidsL) (c : CtxL) (s : Option (List UInt8)) : Prop :=
  (∃ rest, st = some (encX es ks c ++ rest) ∧ CauRight es ks c ∧ s = some rest) ∨ (s = none ∧ es = [] ∧ ks = .nil ∧ c = [] ∧ ∀ es ks c rest, st = some (encX es ks c ++ rest) → ¬ CauRight es ks c)
theorem cau_parts {st s1 s2 : Option (List UInt8)} {es es' : List Ent} {ks ks' : KidsL} {c c' : CtxL} {rest : List UInt8} (h1 : TreeRes st es ks s1) (h2 : CtxRes s1 c s2) (hs : st = some (encX es' ks' c' ++ rest)) (hr : CauRight es' ks' c') :
    es' = es ∧ ks' = ks ∧ c' = c ∧ s2 = some rest := by
  subst hs
  unfold encX at h1
  rw [List.append_assoc] at h1
  obtain ⟨⟨rfl, rfl⟩, rfl⟩ := h1.det (TreeRes.make _ hr.tree)
  obtain ⟨rfl, rfl⟩ := h2.det (CtxRes.make _ hr.ctx)
  exact ⟨rfl, rfl, rfl, rfl⟩
theorem cau_both {st s1 : Option (List UInt8)} {es : List Ent} {ks : KidsL} {c : CtxL} {rest : List UInt8} (h1 : TreeRes st es ks s1) (h2 : CtxRes s1 c (some rest)) : st = some (encX es ks c ++ rest) ∧ rightT 5 es ks = true ∧ RightC c := by
  rcases h2 with ⟨r, rfl, k2, k3⟩ | ⟨k1, _⟩
  · injection k3 with k3; subst k3
    rcases h1 with ⟨r', rfl, h2, h3⟩ | ⟨h1, _⟩
    · injection h3 with h3; subst h3
      exact ⟨by unfold encX; rw [List.append_assoc], h2, k2⟩
    · cases h1
  · cases k1
theorem cau_good {st s1 : Option (List UInt8)} {es : List Ent} {ks : KidsL} {c : CtxL} {rest : List UInt8} (h1 : TreeRes st es ks s1) (h2 : CtxRes s1 c (some rest)) (hr : CauRight es ks c) : CauRes st es ks c (some rest) :=
  .inl ⟨rest, (cau_both h1 h2).1, hr, rfl⟩
theorem cau_bad {st s1 s2 : Option (List UInt8)} {es : List Ent} {ks : KidsL} {c : CtxL} (h1 : TreeRes st es ks s1) (h2 : CtxRes s1 c s2) (h : s2 = none ∨ ¬ CauRight es ks c) : CauRes st [] .nil [] none := by
  refine .inr ⟨rfl, rfl, rfl, rfl, fun es' ks' c' rest hs hr => ?_⟩
  obtain ⟨rfl, rfl, rfl, h3⟩ := cau_parts h1 h2 hs hr
  rcases h with h | h
  · rw [h] at h3; cases h3
  · exact h hr
theorem CauRes.det {st s s' : Option (List UInt8)} {es es' : List Ent} {ks ks' : KidsL} {c c' : CtxL} (h : CauRes st es ks c s) (k : CauRes st es' ks' c' s') : ((es = es' ∧ ks = ks') ∧ c = c') ∧ s = s' := by
  rcases h with ⟨r, h1, h2, h3⟩ | ⟨h1, h2, h3, h5, h4⟩ <;> rcases k with ⟨r', k1, k2, k3⟩ | ⟨k1, k2, k3, k5, k4⟩
  · rw [h1] at k1
    injection k1 with k1
    obtain ⟨e, rfl⟩ := encX_pfx k1
    exact ⟨e, by rw [h3, k3]⟩
  · exact absurd h2 (k4 _ _ _ _ h1)
  · exact absurd k2 (h4 _ _ _ _ k1)
  · exact ⟨⟨⟨by rw [h2, k2], by rw [h3, k3]⟩, by rw [h5, k5]⟩, by rw [h1, k1]⟩
theorem CauRes.make {es : List Ent} {ks : KidsL} {c : CtxL} (rest : List UInt8) (h : CauRight es ks c) : CauRes (some (encX es ks c ++ rest)) es ks c (some rest) := .inl ⟨rest, rfl, h, rfl⟩
/- ### sizes -/
theorem sizeK_le : ∀ ks : KidsL, sizeK ks ≤ (encK ks).length
  | .nil => Nat.le_refl _
  | .cons key es sub rest => by
    have h1 := sizeK_le sub
    have h2 := sizeK_le rest
    have h3 := (encT_ge es sub).1
    have h4 := textB_pos key
    unfold encK sizeK
    simp only [List.length_append]
    omega
theorem sizeT_le (es : List Ent) (ks : KidsL) : sizeT es ks ≤ (encT es ks).length := by
  have h2 := sizeK_le ks
  have h3 := (encT_ge es ks).1
  unfold encT sizeT
  simp only [List.length_append]
  omega
theorem numB_le {v m : Int} (h : -m ≤ v ∧ v ≤ m) (hm : m ≤ 9223372036854775807) : (numB v).length ≤ 10 := numB_le10 (by omega) (by omega)
theorem encE_le {e : Ent} (h : e.bd bdP) : (encE e).length ≤ 70 := by
  have h1 := numB_le h.dc bdP_ok.dc.2
  have h2 := numB_le h.n bdP_ok.n.2
  have h4 := numB_le h.k bdP_ok.k.2
  have h3 := h.s
  have h5 : (numB e.s.size).length ≤ 10 := numB_le10 (by simp only [bdP] at h3; omega) (by simp only [bdP] at h3; omega)
  have h6 : e.s.data.toList.length = e.s.size := Array.length_toList
  unfold encE textB
  simp only [List.length_append, bdP] at *
  omega
theorem encS_le {s : Int × Int × Int} (h : spBd bdP s) : (encS s).length ≤ 30 := by
  have h1 := numB_le h.1 bdP_ok.dc.2
  have h2 := numB_le h.2.1 bdP_ok.n.2
  have h3 := numB_le h.2.2 bdP_ok.n.2
  unfold encS
  simp only [List.length_append]
  omega
theorem numN_le {n : Nat} (h : n ≤ 9223372036854775807) : (numB n).length ≤ 10 := numB_le10 (by omega) (by omega)
theorem encK_le : ∀ {ks : KidsL}, ks.bd bdP → sizeK ks ≤ 9223372036854775807 → (encK ks).length ≤ 75 * sizeK ks
  | .nil, _, _ => Nat.zero_le _
  | .cons key es sub rest, h, hs => by
    have hs' : 1 + es.length + sizeK sub + sizeK rest ≤ 9223372036854775807 := hs
    have h1 := encK_le h.2.2.1 (by omega)
    have h2 := encK_le h.2.2.2 (by omega)
    have h3 : (encEs es).length ≤ 70 * es.length := flat_le fun e he => encE_le (h.2.1 e he)
    have h4 := h.1
    have h5 : (numB key.size).length ≤ 10 := numB_le10 (by simp only [bdP] at h4; omega) (by simp only [bdP] at h4; omega)
    have h6 : key.data.toList.length = key.size := Array.length_toList
    have h7 := numN_le (n := es.length) (by omega)
    have h9 : sub.len ≤ sizeK sub := len_le_sizeK sub
    have h8 := numN_le (n := sub.len) (by omega)
    simp only [bdP] at h4
    unfold encK sizeK textB
    simp only [List.length_append]
    omega
theorem encT_le {es : List Ent} {ks : KidsL} (h : rightT 5 es ks = true) (hs : sizeT es ks ≤ 9223372036854775807) : (encT es ks).length ≤ 20 + 75 * sizeT es ks := by
  have hg := right_ok wideP (rest := []) h
  have hs' : es.length + sizeK ks ≤ 9223372036854775807 := hs
  have h1 := encK_le hg.kbd (by omega)
  have h3 : (encEs es).length ≤ 70 * es.length := flat_le fun e he => encE_le (hg.ebd e he)
  have h9 : ks.len ≤ sizeK ks := len_le_sizeK ks
  have h7 := numN_le (n := es.length) (by omega)
  have h8 := numN_le (n := ks.len) (by omega)
  unfold encT sizeT
  simp only [List.length_append]
  omega
theorem encC_le {c : CtxL} (h : RightC c) (hl : c.length ≤ 9223372036854775807) : (encC c).length ≤ 10 + 30 * c.length := by
  have h3 : (encSs c).length ≤ 30 * c.length := flat_le fun s hs => encS_le (h.each s hs)
  have h7 := numN_le (n := c.length) hl
  unfold encC
  simp only [List.length_append]
  omega
end Go.Proofs.Ytafdclkpeomomaa

/- tributarylaw16: known: the walk. -/
namespace Go.Proofs.Ytafdclkpeomomaa
open Go.RowKit

theorem row_at {w : World} {b n : Nat} {cs : Array Value} {T : TypeId} (h : w.heap[b]? = some (.cells cs T (0, 0))) (hm : n ≤ 100) : Rd w (.slice (some ⟨b, 0, none⟩) n n) n cs.toList :=
  .inr ⟨b, 0, n, rfl, Nat.le_refl _, by simp only [maxLen]; omega, fun j u hu => by rw [Nat.zero_add]; exact cell_at' h j (by simpa using hu)⟩
/-- Three blocks laid one behind the other. -/
theorem three_rows (w : World) (c0 c1 c2 : Array Value) (T0 T1 T2 : TypeId) (W : World) (hW : W = ((w.alloc (.cells c0 T0)).alloc (.cells c1 T1)).alloc (.cells c2 T2)) :
    W.heap[w.heap.size]? = some (.cells c0 T0 (0, 0)) ∧ W.heap[w.heap.size + 1]? = some (.cells c1 T1 (0, 0)) ∧ W.heap[w.heap.size + 1 + 1]? = some (.cells c2 T2 (0, 0)) ∧ Frm NoS w W := by
  subst hW
  have h0 := heap_alloc_new w (.cells c0 T0)
  have h1 := heap_alloc_new (w.alloc (.cells c0 T0)) (.cells c1 T1)
  have h2 := heap_alloc_new ((w.alloc (.cells c0 T0)).alloc (.cells c1 T1)) (.cells c2 T2)
  have sz : ∀ (u : World) (o : Obj), (u.alloc o).heap.size = u.heap.size + 1 := fun u o => by simp
  simp only [sz] at h1 h2
  exact ⟨((Frm.alloc NoS _ _).alloc1).blk h0 id, (Frm.alloc NoS _ _).blk h1 id, h2, ((Frm.alloc NoS _ _).alloc1).alloc1⟩
def kEs : List Ent := [⟨1, 1, ⟨#[97]⟩, 3⟩]
def kKs : KidsL := .nil
def kC : CtxL := [(1, 1, 1)]
def kB : List UInt8 := [2, 2, 2, 2, 97, 6, 0, 2, 2, 2, 2]
theorem kTree : rightT 5 kEs kKs = true := by
  rw [rightT, kEs, kKs]
  simp only [rightEs, rightKs, entB, dotB, ltE]
  decide
theorem kRight : CauRight kEs kKs kC := ⟨kTree, right_one (by decide) (by decide) (by decide) (by decide) (by decide), fun r hr => by
  have : dotsT kEs kKs = [(1, 1)] := rfl
  rw [this] at hr
  simp only [List.mem_singleton] at hr
  subst hr
  exact (inC_one 1 1 1 1 1).2 ⟨rfl, by decide, by decide⟩⟩
theorem kOk : CauOk kEs kKs kC := ⟨⟨⟨by decide, fun e he => by
    simp only [kEs, List.mem_singleton] at he
    subst he
    exact ⟨by decide, by decide, by decide, by decide⟩⟩, by decide, trivial⟩, by decide, fun s hs => by simp only [kC, List.mem_singleton] at hs; subst hs; dsimp only; omega, by decide⟩
theorem kBytes : encX kEs kKs kC = kB := by
  have n1 : numB 1 = [2] := by unfold numB; rw [show zz 1 = 2 from rfl, vl_small (by omega)]; rfl
  have n3 : numB 3 = [6] := by unfold numB; rw [show zz 3 = 6 from rfl, vl_small (by omega)]; rfl
  have n0 : numB 0 = [0] := by unfold numB; rw [show zz 0 = 0 from rfl, vl_small (by omega)]; rfl
  have e1 : numB (kEs.length : Int) = [2] := n1
  have e2 : numB (kKs.len : Int) = [0] := n0
  have e3 : numB (kC.length : Int) = [2] := n1
  have e4 : numB ((⟨#[97]⟩ : ByteArray).size : Int) = [2] := n1
  have e5 : encEs kEs = [2, 2, 2, 97, 6] := by
    simp only [encEs, kEs, encE, List.flatMap_cons, List.flatMap_nil, textB, n1, n3, e4]
    rfl
  have e6 : encSs kC = [2, 2, 2] := by
    simp only [encSs, kC, encS, List.flatMap_cons, List.flatMap_nil, n1]
    rfl
  unfold encX encT encC
  rw [e1, e2, e3, e5, e6]
  rfl
set_option maxRecDepth 1000000 in
theorem known16_any (w : World) : Calls Try.prog 8 #[] w fun e w' => ∃ ev kv cv, e = .returned (.agg #[ev, kv, cv]) ∧ CauAt (fun _ => True) w' ev kv cv kEs kKs kC ∧ Frm NoS w w' := by
  go_enter Try.func8, Try.ntmps8
  go_wp2
  generalize hW : ((w.alloc (.cells #[.slice (some ⟨w.heap.size + 1, 0, none⟩) 1 1, .slice none 0 0, .slice (some ⟨w.heap.size + 1 + 1, 0, none⟩) 1 1] 31)).alloc (.cells #[.int .i64 1, .int .i64 1, .string ⟨#[97]⟩, .int .i64 3] 37)).alloc (.cells #[.int .i64 1, .int .i64 1, .int .i64 1] 40) = W
  obtain ⟨g0, g1, g2, gf⟩ := three_rows w _ _ _ _ _ _ W hW.symm
  have y0 := cell_at' g0 0 rfl
  have y1 := cell_at' g0 1 rfl
  have y2 := cell_at' g0 2 rfl
  exact bodyPost_ret (v := .agg #[.slice (some ⟨w.heap.size + 1, 0, none⟩) 1 1, .slice none 0 0, .slice (some ⟨w.heap.size + 1 + 1, 0, none⟩) 1 1]) (by simp [results, Try.results8, go_sem, y0, y1, y2]) rfl
    ⟨_, _, _, rfl, ⟨⟨⟨row_at g1 (by decide), fun _ _ _ => trivial⟩, [], ⟨.inl ⟨none, rfl, rfl, rfl⟩, fun h => absurd rfl h⟩, rfl⟩, row_at g2 (by decide)⟩, gf⟩
end Go.Proofs.Ytafdclkpeomomaa

/- tributaryref02.Take. -/
namespace Go.Proofs.Ytafdclkpeomomaa
open Go.RowKit

/-- The next seven bits, added on. -/
theorem add_acc {u0 x k : Nat} (hx : u0 + x * 128 ^ k < 18446744073709551616) : IntKind.u64.wrap ((u0 : Int) + IntKind.u64.wrap ((x : Int) * 2 ^ (7 * k))) = ((u0 + x * 128 ^ k : Nat) : Int) := by
  have e : ((x : Int) * 2 ^ (7 * k)) = ((x * 128 ^ k : Nat) : Int) := by rw [← pow7]; simp
  rw [e, IntWalk.u64_in ((x * 128 ^ k : Nat) : Int) (by omega), IntWalk.u64_in _ (by omega)]
  omega

theorem Rd.pre2 {w : World} {ad : Option Addr} {c n : Nat} {bs : List UInt8} (h : Rd w (.slice ad n c) n (bV bs)) (hn : bs.length = n) (k : Nat) (hk : k ≤ n) : Rd w (.slice ad k c) (bs.take k).length (bV (bs.take k)) := by
  subst hn; exact h.pre k hk
theorem tk_ret {U : Int} {k M : Nat} {a : Bool} (h : k + 1 = M) (hb : a = true) : Ending.returned (.tuple #[.int .i64 U, .int .i64 ((k : Int) + 1), .bool a]) = .returned (.tuple #[.int .i64 U, .int .i64 M, .bool true]) := by
  subst h hb; rfl
theorem tk_no {U : Int} {k : Nat} {a : Bool} (hb : a = false) : ∃ x m : Int, Ending.returned (.tuple #[.int .i64 U, .int .i64 ((k : Int) + 1), .bool a]) = .returned (.tuple #[.int .i64 x, .int .i64 m, .bool false]) := ⟨_, _, by rw [hb]⟩
def TkNo (e : Ending) : Prop := ∃ x m : Int, e = .returned (.tuple #[.int .i64 x, .int .i64 m, .bool false])
theorem vl_lt (n : Nat) : n < 128 ^ (vl n).length := by
  induction n using Nat.strongRecOn with
  | ind n ih =>
    by_cases hn : n < 128
    · rw [vl_small hn]; simpa using hn
    · rw [vl_big hn, List.length_cons, pow128_succ]
      have := ih (n / 128) (by omega)
      omega

end Go.Proofs.Ytafdclkpeomomaa

/- tributaryref02.Take where no number stands. -/
namespace Go.Proofs.Ytafdclkpeomomaa
open Go.RowKit

end Go.Proofs.Ytafdclkpeomomaa

/- tributaryref02.In: Num, Text, Done. -/
namespace Go.Proofs.Ytafdclkpeomomaa
open Go.RowKit

/-- The reference's state, as a value: what is left; is it bad? -/
def RSt (w : World) (v : Value) (bad : Bool) : Option (List UInt8) → Prop
  | none => v = .slice none 0 0 ∧ bad = true
  | some bs => bad = false ∧ Rd w v bs.length (bV bs)
theorem RSt.keep {w w' : World} {v : Value} {bad : Bool} {st : Option (List UInt8)} (h : RSt w v bad st) {S : Nat → Prop} (f : Frm S w w') (hn : ∀ k, v.ownBlock = some k → ¬ S k) : RSt w' v bad st := by
  cases st with
  | none => exact h
  | some bs => exact ⟨h.1, h.2.keep f hn⟩

/-- The one lies nowhere but where the other lies. -/
def SubV (v' v : Value) : Prop := ∀ k, v'.ownBlock = some k → v.ownBlock = some k
theorem SubV.nil (v : Value) : SubV (.slice none 0 0) v := fun _ h => by simp [Value.ownBlock] at h
theorem own_any (a : Option Addr) (n c n' c' : Nat) : (Value.slice a n c).ownBlock = (Value.slice a n' c').ownBlock := by cases a <;> rfl
theorem own_map (a : Option Addr) (k n c n' c' : Nat) : (Value.slice (a.map fun x => x.add k) n c).ownBlock = (Value.slice a n' c').ownBlock := by
  cases a with
  | none => rfl
  | some a => simp [Value.ownBlock, Addr.add]; split <;> rfl
theorem Rd.drop {w : World} {a : Option Addr} {L c : Nat} {bs : List UInt8} (h : Rd w (.slice a L c) L (bV bs)) (hL : bs.length = L) (k : Nat) (hk : k ≤ L) :
    Rd w (.slice (a.map fun x => x.add k) (L - k) (c - k)) (bs.drop k).length (bV (bs.drop k)) := by
  have hlen : (bs.drop k).length = L - k := by rw [List.length_drop, hL]
  rcases h with ⟨ad, h1, h2, h3⟩ | ⟨b, off, c'', h1, h2, h3, h4⟩
  · injection h1 with e1 e2 e3
    have hb : bs = [] := by simpa [bV] using h3
    subst hb
    exact .inl ⟨a.map fun x => x.add k, by rw [h2, e3]; simp, by simp, by simp [bV]⟩
  · injection h1 with e1 e2 e3
    subst e1
    refine .inr ⟨b, off + k, c - k, by rw [hlen]; simp [addr_add], by omega, by omega, fun j u hu => ?_⟩
    have := h4 (k + j) u (by rw [← hu, bV, bV, List.map_drop, List.getElem?_drop])
    rwa [← Nat.add_assoc] at this
theorem frm_two {w w1 : World} {o1 o2 : Obj} (h : Frm Nowhere ((w.alloc o1).alloc o2) w1) (u u' : Value) : Frm Nowhere w ((w1.setCell ⟨w.heap.size + 1, 0, none⟩ u).setCell ⟨w.heap.size + 1, 1, none⟩ u') := by
  have h0 : Frm Nowhere w w1 := ((Frm.alloc Nowhere w o1).trans (Frm.alloc Nowhere _ o2) fun _ _ h => h).trans h fun _ _ h => h
  refine (h0.trans (only_set w1 (w.heap.size + 1) 0 u) fun i hi hs => ?_).trans (only_set _ (w.heap.size + 1) 1 u') fun i hi hs => ?_
  · have : i = w.heap.size + 1 := hs; omega
  · have : i = w.heap.size + 1 := hs; omega

end Go.Proofs.Ytafdclkpeomomaa

/- tributaryref02.In.Text. -/
namespace Go.Proofs.Ytafdclkpeomomaa
open Go.RowKit

theorem Rd.keepIf {w w' : World} {v : Value} {n : Nat} {xs : List Value} (h : Rd w v n xs) {S : Nat → Prop} (f : Frm S w w') (hn : xs ≠ [] → ∀ k, v.ownBlock = some k → ¬ S k) : Rd w' v n xs := by
  rcases h with h | ⟨b, off, c, rfl, h1, h2, h3⟩
  · exact .inl h
  · refine .inr ⟨b, off, c, rfl, h1, h2, fun j u hu => f.cell' (h3 j u hu) (hn (fun e => ?_) b rfl)⟩
    subst e
    simp at hu
theorem Rd.lt {w : World} {v : Value} {n : Nat} {xs : List Value} (h : Rd w v n xs) (hne : xs ≠ []) : ∀ k, v.ownBlock = some k → k < w.heap.size := fun k hk => by
  rcases h with ⟨ad, _, _, h3⟩ | ⟨b, off, c, rfl, _, _, h3⟩
  · exact absurd h3 hne
  · simp [Value.ownBlock] at hk
    subst hk
    obtain ⟨x, l, rfl⟩ := List.exists_cons_of_ne_nil hne
    exact World.block_lt_of_cell? _ _ (h3 0 x rfl)
theorem rst_lt {w : World} {v : Value} {bad : Bool} {st : Option (List UInt8)} {m n : Int} {r : List UInt8} (h : RSt w v bad st) (hs : NumStep st m n (some r)) : ∀ k, v.ownBlock = some k → k < w.heap.size := by
  cases st with
  | none => cases hs.2
  | some bs =>
    refine h.2.lt fun e => ?_
    rcases hs with ⟨r', hb, _⟩ | ⟨_, _, h3⟩
    · have h1 := congrArg List.length hb.2
      have h2 := numB_pos n
      have h3 : bs = [] := by simpa [bV] using e
      subst h3
      simp only [List.length_nil, List.length_append] at h1
      omega
    · cases h3

end Go.Proofs.Ytafdclkpeomomaa

/- What is kept of a state. -/
namespace Go.Proofs.Ytafdclkpeomomaa
open Go.RowKit

theorem RSt.isNone {w : World} {v : Value} {bad : Bool} {st : Option (List UInt8)} (h : RSt w v bad st) : bad = st.isNone := by
  cases st with
  | none => exact h.2
  | some bs => exact h.1
theorem RSt.shape {w : World} {v : Value} {bad : Bool} {st : Option (List UInt8)} (h : RSt w v bad st) : ∃ a c, v = .slice a (leftOf st).length c := by
  cases st with
  | none => exact ⟨none, 0, h.1⟩
  | some bs => exact rd_shape h.2
theorem InSt.keep {w w' : World} {ib : Nat} {st : Option (List UInt8)} (h : InSt w ib st) {S : Nat → Prop} (f : Frm S w w') (h1 : ∀ k, k ≤ ib → ¬ S k) : InSt w' ib st := by
  cases st with
  | none => exact f.blk (show w.heap[ib]? = _ from h) (h1 ib (Nat.le_refl _))
  | some bs =>
    obtain ⟨v, hv, hlt⟩ := h
    exact ⟨v, hv.keep f (h1 ib (Nat.le_refl _)) fun k hk => h1 k (Nat.le_of_lt (hlt k hk)), hlt⟩
theorem InSt.lt {w : World} {ib : Nat} {st : Option (List UInt8)} (h : InSt w ib st) : ib < w.heap.size := by
  obtain ⟨a, c, hh⟩ := h.heap
  exact lt_of_block hh

theorem two_set (w : World) (b : Nat) (u u' : Value) : Frm (Only b) w ((w.setCell ⟨b, 0, none⟩ u).setCell ⟨b, 1, none⟩ u') := (only_set w b 0 u).trans (only_set _ b 1 u') fun _ _ h => h
theorem rst_keepN {w wx w' : World} {v vx : Value} {bad badx : Bool} {st stx : Option (List UInt8)} {m s : Int} (h : RSt w v bad st) (hs : NumStep st m s stx) (hx : RSt wx vx badx stx) (hu : SubV vx v) (f : Frm (Only w.heap.size) wx w') : RSt w' vx badx stx := by
  cases stx with
  | none => exact hx
  | some r => exact ⟨hx.1, hx.2.keepIf f fun _ k hk he => by
      have h1 := rst_lt h hs k (hu k hk)
      have h2 : k = w.heap.size := he
      omega⟩
theorem rst_keepT {w wx w' : World} {v vx : Value} {bad badx : Bool} {st stx : Option (List UInt8)} {m : Int} {s : ByteArray} (h : RSt w v bad st) (hs : TextStep st m s stx) (hx : RSt wx vx badx stx) (hu : SubV vx v) (f : Frm (Only w.heap.size) wx w') : RSt w' vx badx stx := by
  cases stx with
  | none => exact hx
  | some r =>
    obtain ⟨n, st1, h1, h2⟩ := hs
    cases st1 with
    | none => cases h2.2
    | some bs => exact ⟨hx.1, hx.2.keepIf f fun _ k hk he => by
        have h1 := rst_lt h h1 k (hu k hk)
        have h2 : k = w.heap.size := he
        omega⟩
/-- The loop's relation: both have taken the same. -/
def Old (w : World) (v : Value) (st : Option (List UInt8)) : Prop := leftOf st ≠ [] → ∀ k, v.ownBlock = some k → k < w.heap.size
theorem numStep_ne {st stx : Option (List UInt8)} {m n : Int} (h : NumStep st m n stx) (hx : stx ≠ none) : leftOf st ≠ [] := by
  cases st with
  | none => exact absurd h.2 hx
  | some bs =>
    rcases h with ⟨r, hb, _⟩ | ⟨_, _, h3⟩
    · intro e
      have h1 := congrArg List.length hb.2
      have h2 := numB_pos n
      have h3 : bs = [] := e
      subst h3
      simp only [List.length_nil, List.length_append] at h1
      omega
    · exact absurd h3 hx
theorem Old.stepN {w : World} {v vx : Value} {st stx : Option (List UInt8)} {m n : Int} (h : Old w v st) (hs : NumStep st m n stx) (hu : SubV vx v) : Old w vx stx := fun hne k hk =>
  h (numStep_ne hs fun e => by subst e; exact hne rfl) k (hu k hk)
theorem Old.stepT {w : World} {v vx : Value} {st stx : Option (List UInt8)} {m : Int} {s : ByteArray} (h : Old w v st) (hs : TextStep st m s stx) (hu : SubV vx v) : Old w vx stx := fun hne k hk => by
  obtain ⟨n, st1, h1, h2⟩ := hs
  cases st1 with
  | none => rw [h2.2] at hne; exact absurd rfl hne
  | some bs => exact h (numStep_ne h1 (by simp)) k (hu k hk)
theorem rst_keepO {w wx w' : World} {vx : Value} {badx : Bool} {stx : Option (List UInt8)} (ho : Old w vx stx) (hx : RSt wx vx badx stx) {S : Nat → Prop} (f : Frm S wx w') (hS : ∀ k, k < w.heap.size → ¬ S k) : RSt w' vx badx stx := by
  cases stx with
  | none => exact hx
  | some r => exact ⟨hx.1, hx.2.keepIf f fun hne k hk => hS k (ho (fun e => hne (by simp [leftOf] at e; subst e; rfl)) k hk)⟩
end Go.Proofs.Ytafdclkpeomomaa
