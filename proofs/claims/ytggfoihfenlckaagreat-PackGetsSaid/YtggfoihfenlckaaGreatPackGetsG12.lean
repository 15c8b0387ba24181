/- Words for the law PackGets: Enc, Enc2, RTake, RTake2. -/
import Derived.Test.YtggfoihfenlckaaGreatPackGetsG5
import Derived.Test.YtggfoihfenlckaaGreatPackGetsG6
import Derived.Test.YtggfoihfenlckaaGreatPackGetsG11
import Derived.Deep.RegionWith
import Derived.Deep.RegionHeld3
set_option linter.unusedSimpArgs false
set_option linter.unusedVariables false
/- Bytes of entries, kids, trees, contexts, of what is known; how they are read: the plain law. -/
namespace Go.Proofs.YtggfoihfenlckaaGreat
open Go.RowKit
def encE (e : Ent) : List UInt8 := numB e.dc ++ (numB e.n ++ (textB e.s ++ numB e.k))
def encEs (es : List Ent) : List UInt8 := es.flatMap encE
def encK : KidsL → List UInt8
  | .nil => []
  | .cons key es sub rest => textB key ++ ((numB es.length ++ (encEs es ++ (numB sub.len ++ encK sub))) ++ encK rest)
def encT (es : List Ent) (ks : KidsL) : List UInt8 := numB es.length ++ (encEs es ++ (numB ks.len ++ encK ks))
theorem encK_cons (key : ByteArray) (es : List Ent) (sub rest : KidsL) : encK (.cons key es sub rest) = textB key ++ (encT es sub ++ encK rest) := rfl
def encS (s : Int × Int × Int) : List UInt8 := numB s.1 ++ (numB s.2.1 ++ numB s.2.2)
def encSs (c : CtxL) : List UInt8 := c.flatMap encS
def encC (c : CtxL) : List UInt8 := numB c.length ++ encSs c
def encX (es : List Ent) (ks : KidsL) (c : CtxL) : List UInt8 := encT es ks ++ encC c
theorem textB_prefix {a b : ByteArray} {x y : List UInt8} (h : textB a ++ x = textB b ++ y) : a = b ∧ x = y := by
  unfold textB at h
  rw [List.append_assoc, List.append_assoc] at h
  obtain ⟨h1, h2⟩ := numB_prefix h
  have hl : a.data.toList.length = b.data.toList.length := by
    have ha : a.data.toList.length = a.size := Array.length_toList
    have hb : b.data.toList.length = b.size := Array.length_toList
    omega
  obtain ⟨h3, h4⟩ := List.append_inj h2 hl
  exact ⟨ByteArray.ext (Array.toList_inj.1 h3), h4⟩
theorem encE_pfx {a b : Ent} {x y : List UInt8} (h : encE a ++ x = encE b ++ y) : a = b ∧ x = y := by
  unfold encE at h
  simp only [List.append_assoc] at h
  replace h := numB_prefix h
  obtain ⟨h1, h⟩ := h
  replace h := numB_prefix h
  obtain ⟨h2, h⟩ := h
  replace h := textB_prefix h
  obtain ⟨h3, h⟩ := h
  replace h := numB_prefix h
  obtain ⟨h4, h⟩ := h
  obtain ⟨a1, a2, a3, a4⟩ := a
  obtain ⟨b1, b2, b3, b4⟩ := b
  simp only at h1 h2 h3 h4
  subst h1 h2 h3 h4
  exact ⟨rfl, h⟩
theorem encS_pfx {a b : Int × Int × Int} {x y : List UInt8} (h : encS a ++ x = encS b ++ y) : a = b ∧ x = y := by
  unfold encS at h
  simp only [List.append_assoc] at h
  replace h := numB_prefix h
  obtain ⟨h1, h⟩ := h
  replace h := numB_prefix h
  obtain ⟨h2, h⟩ := h
  replace h := numB_prefix h
  obtain ⟨h3, h⟩ := h
  obtain ⟨a1, a2, a3⟩ := a
  obtain ⟨b1, b2, b3⟩ := b
  simp only at h1 h2 h3
  subst h1 h2 h3
  exact ⟨rfl, h⟩
theorem flat_pfx {α : Type} {f : α → List UInt8} (hf : ∀ {a b : α} {x y : List UInt8}, f a ++ x = f b ++ y → a = b ∧ x = y) : ∀ {a b : List α} {x y : List UInt8}, a.length = b.length → a.flatMap f ++ x = b.flatMap f ++ y → a = b ∧ x = y
  | [], [], _, _, _, h => ⟨rfl, h⟩
  | [], _ :: _, _, _, hl, _ => by cases hl
  | _ :: _, [], _, _, hl, _ => by cases hl
  | u :: a, v :: b, x, y, hl, h => by
    simp only [List.flatMap_cons, List.append_assoc] at h
    replace h := hf h
    obtain ⟨rfl, h⟩ := h
    replace h := flat_pfx hf (by simpa using hl) h
    obtain ⟨rfl, h⟩ := h
    exact ⟨rfl, h⟩
theorem encEs_pfx {a b : List Ent} {x y : List UInt8} (hl : a.length = b.length) (h : encEs a ++ x = encEs b ++ y) : a = b ∧ x = y := flat_pfx encE_pfx hl h
theorem encSs_pfx {a b : CtxL} {x y : List UInt8} (hl : a.length = b.length) (h : encSs a ++ x = encSs b ++ y) : a = b ∧ x = y := flat_pfx encS_pfx hl h
theorem encK_pfx : ∀ {a b : KidsL} {x y : List UInt8}, a.len = b.len → encK a ++ x = encK b ++ y → a = b ∧ x = y
  | .nil, .nil, _, _, _, h => ⟨rfl, h⟩
  | .nil, .cons _ _ _ _, _, _, hl, _ => by cases hl
  | .cons _ _ _ _, .nil, _, _, hl, _ => by cases hl
  | .cons key es sub rest, .cons key' es' sub' rest', x, y, hl, h => by
    simp only [encK, List.append_assoc] at h
    replace h := textB_prefix h
    obtain ⟨rfl, h⟩ := h
    replace h := numB_prefix h
    obtain ⟨h1, h⟩ := h
    replace h := encEs_pfx (by omega) h
    obtain ⟨rfl, h⟩ := h
    replace h := numB_prefix h
    obtain ⟨h2, h⟩ := h
    replace h := encK_pfx (by omega) h
    obtain ⟨rfl, h⟩ := h
    replace h := encK_pfx (by simpa [KidsL.len] using hl) h
    obtain ⟨rfl, h⟩ := h
    exact ⟨rfl, h⟩
theorem encT_pfx {a b : List Ent} {ka kb : KidsL} {x y : List UInt8} (h : encT a ka ++ x = encT b kb ++ y) : (a = b ∧ ka = kb) ∧ x = y := by
  unfold encT at h
  simp only [List.append_assoc] at h
  replace h := numB_prefix h
  obtain ⟨h1, h⟩ := h
  replace h := encEs_pfx (by omega) h
  obtain ⟨rfl, h⟩ := h
  replace h := numB_prefix h
  obtain ⟨h2, h⟩ := h
  replace h := encK_pfx (by omega) h
  obtain ⟨rfl, h⟩ := h
  exact ⟨⟨rfl, rfl⟩, h⟩
theorem encC_pfx {a b : CtxL} {x y : List UInt8} (h : encC a ++ x = encC b ++ y) : a = b ∧ x = y := by
  unfold encC at h
  simp only [List.append_assoc] at h
  replace h := numB_prefix h
  obtain ⟨h1, h⟩ := h
  exact encSs_pfx (by omega) h
theorem encX_pfx {a b : List Ent} {ka kb : KidsL} {c d : CtxL} {x y : List UInt8} (h : encX a ka c ++ x = encX b kb d ++ y) : ((a = b ∧ ka = kb) ∧ c = d) ∧ x = y := by
  unfold encX at h
  simp only [List.append_assoc] at h
  replace h := encT_pfx h
  obtain ⟨h1, h⟩ := h
  obtain ⟨h2, h⟩ := encC_pfx h
  exact ⟨⟨h1, h2⟩, h⟩
/- ### lengths -/
theorem encE_pos (e : Ent) : 1 ≤ (encE e).length := by
  have := numB_pos e.dc
  unfold encE
  rw [List.length_append]; omega
theorem encS_pos (s : Int × Int × Int) : 1 ≤ (encS s).length := by
  have := numB_pos s.1
  unfold encS
  rw [List.length_append]; omega
theorem flat_pos {α : Type} {f : α → List UInt8} (hf : ∀ a, 1 ≤ (f a).length) : ∀ l : List α, l.length ≤ (l.flatMap f).length
  | [] => Nat.le_refl _
  | a :: l => by
    have := flat_pos hf l
    have := hf a
    rw [List.flatMap_cons, List.length_append, List.length_cons]; omega
theorem textB_pos (s : ByteArray) : 1 ≤ (textB s).length := by
  have := numB_pos s.size
  unfold textB
  rw [List.length_append]; omega
theorem encK_pos : ∀ ks : KidsL, ks.len ≤ (encK ks).length
  | .nil => Nat.le_refl _
  | .cons key es sub rest => by
    have := encK_pos rest
    have := textB_pos key
    rw [encK_cons]
    simp only [List.length_append, KidsL.len]; omega
theorem flat_le {α : Type} {f : α → List UInt8} {m : Nat} : ∀ {l : List α}, (∀ a ∈ l, (f a).length ≤ m) → (l.flatMap f).length ≤ m * l.length
  | [], _ => by simp
  | a :: l, h => by
    have h1 := h a List.mem_cons_self
    have h2 := flat_le fun x hx => h x (List.mem_cons_of_mem _ hx)
    rw [List.flatMap_cons, List.length_append, List.length_cons, Nat.mul_succ]; omega
/- ### what a number, a text, an entry may be -/
structure Lim where
  dc : Int
  n : Int
  s : Int
  k : Int
structure Lim.Ok (B : Lim) : Prop where
  dc : 0 ≤ B.dc ∧ B.dc ≤ 9223372036854775807
  n : 0 ≤ B.n ∧ B.n ≤ 9223372036854775807
  s : 0 ≤ B.s ∧ B.s ≤ 9223372036854775807
  k : 0 ≤ B.k ∧ B.k ≤ 9223372036854775807
/-- The program's bounds; the document's. -/
def bdP : Lim := ⟨4, 1099511627776, 30, 1099511627776⟩
def bdR : Lim := ⟨9223372036854775807, 9223372036854775807, 9223372036854775807, 9223372036854775807⟩
theorem bdP_ok : bdP.Ok := ⟨by decide, by decide, by decide, by decide⟩
theorem bdR_ok : bdR.Ok := ⟨by decide, by decide, by decide, by decide⟩
structure Ent.bd (B : Lim) (e : Ent) : Prop where
  dc : -B.dc ≤ e.dc ∧ e.dc ≤ B.dc
  n : -B.n ≤ e.n ∧ e.n ≤ B.n
  s : (e.s.size : Int) ≤ B.s
  k : -B.k ≤ e.k ∧ e.k ≤ B.k
def KidsL.bd (B : Lim) : KidsL → Prop
  | .nil => True
  | .cons key es sub rest => (key.size : Int) ≤ B.s ∧ (∀ e ∈ es, e.bd B) ∧ sub.bd B ∧ rest.bd B
theorem KidsL.bd.drop {B : Lim} : ∀ (n : Nat) {ks : KidsL}, ks.bd B → (ks.drop n).bd B
  | 0, _, h => h
  | _ + 1, .nil, _ => trivial
  | n + 1, .cons _ _ _ _, h => KidsL.bd.drop n h.2.2.2
theorem deepK_drop : ∀ (n : Nat) (ks : KidsL), deepK (ks.drop n) ≤ deepK ks
  | 0, _ => Nat.le_refl _
  | _ + 1, .nil => Nat.le_refl _
  | n + 1, .cons _ _ _ r => Nat.le_trans (deepK_drop n r) (Nat.le_max_right _ _)
/- ### steps -/
theorem num_good {st : Option (List UInt8)} {m v : Int} {r : List UInt8} (h : NumStep st m v (some r)) : st = some (numB v ++ r) ∧ inR v ∧ -m ≤ v ∧ v ≤ m := by
  cases st with
  | none => cases h.2
  | some bs =>
    rcases h with ⟨r', h1, h2, h3, h4, h5⟩ | ⟨_, _, h3⟩
    · injection h5 with h5; subst h5
      exact ⟨by rw [h1.2], h1.1, h4, h3⟩
    · cases h3
theorem num_make {m v : Int} (r : List UInt8) (hv : -m ≤ v ∧ v ≤ m) (hm : m ≤ 9223372036854775807) : NumStep (some (numB v ++ r)) m v (some r) :=
  .inl ⟨r, ⟨⟨by omega, by omega⟩, rfl⟩, by omega, hv.2, hv.1, rfl⟩
theorem num_in {st st' : Option (List UInt8)} {m v : Int} (h : NumStep st m v st') : inR v := by
  cases st with
  | none => rw [h.1]; exact ⟨by omega, by omega⟩
  | some bs =>
    rcases h with ⟨r', h1, _⟩ | ⟨_, h2, _⟩
    · exact h1.1
    · rw [h2]; exact ⟨by omega, by omega⟩
theorem text_good {st : Option (List UInt8)} {m : Int} {s : ByteArray} {r : List UInt8} (h : TextStep st m s (some r)) : st = some (textB s ++ r) ∧ (s.size : Int) ≤ m := by
  obtain ⟨n, st1, h1, h2⟩ := h
  cases st1 with
  | none => cases h2.2
  | some b1 =>
    obtain ⟨rfl, _, h3, h4⟩ := num_good h1
    rcases h2 with ⟨a, b, c, d⟩ | ⟨_, _, d⟩
    · injection d with d
      subst c d
      have hsz : ((⟨(b1.take n.toNat).toArray⟩ : ByteArray).size : Int) = n := by
        show (((b1.take n.toNat).toArray).size : Int) = n
        rw [List.size_toArray, List.length_take]; omega
      refine ⟨?_, by rw [hsz]; exact h4⟩
      unfold textB
      rw [hsz, List.append_assoc]
      show _ = some (numB n ++ ((b1.take n.toNat).toArray.toList ++ _))
      rw [List.toList_toArray, List.take_append_drop]
    · cases d
theorem text_make {m : Int} {s : ByteArray} (r : List UInt8) (hs : (s.size : Int) ≤ m) (hm : m ≤ 9223372036854775807) : TextStep (some (textB s ++ r)) m s (some r) := by
  have hl : s.data.toList.length = s.size := Array.length_toList
  refine ⟨s.size, some (s.data.toList ++ r), ?_, .inl ⟨by omega, by rw [List.length_append]; omega, ?_, ?_⟩⟩
  · unfold textB
    rw [List.append_assoc]
    exact num_make _ ⟨by omega, hs⟩ hm
  · rw [Int.toNat_natCast, ← hl, List.take_left]
  · rw [Int.toNat_natCast, ← hl, List.drop_left]
theorem text_size {st st' : Option (List UInt8)} {m : Int} {s : ByteArray} (h : TextStep st m s st') (hm : m ≤ 9223372036854775807) : s.size ≤ 9223372036854775807 := by
  cases st' with
  | some r => have := (text_good h).2; omega
  | none =>
    obtain ⟨n, st1, h1, h2⟩ := h
    cases st1 with
    | none => rw [h2.1]; decide
    | some b1 =>
      rcases h2 with ⟨_, _, _, d⟩ | ⟨_, c, _⟩
      · cases d
      · rw [c]; decide
def EntStep (B : Lim) (s0 : Option (List UInt8)) (e : Ent) (s4 : Option (List UInt8)) : Prop :=
  ∃ s1 s2 s3, NumStep s0 B.dc e.dc s1 ∧ NumStep s1 B.n e.n s2 ∧ TextStep s2 B.s e.s s3 ∧ NumStep s3 B.k e.k s4
theorem EntStep.det {B : Lim} {s t t' : Option (List UInt8)} {a b : Ent} (h : EntStep B s a t) (k : EntStep B s b t') : a = b ∧ t = t' := by
  obtain ⟨s1, s2, s3, h1, h2, h3, h4⟩ := h
  obtain ⟨q1, q2, q3, k1, k2, k3, k4⟩ := k
  obtain ⟨a1, rfl⟩ := h1.det k1
  obtain ⟨a2, rfl⟩ := h2.det k2
  obtain ⟨a3, rfl⟩ := h3.det k3
  obtain ⟨a4, rfl⟩ := h4.det k4
  obtain ⟨x1, x2, x3, x4⟩ := a
  obtain ⟨y1, y2, y3, y4⟩ := b
  simp only at a1 a2 a3 a4
  subst a1 a2 a3 a4
  exact ⟨rfl, rfl⟩
theorem EntStep.good {B : Lim} {s : Option (List UInt8)} {e : Ent} {r : List UInt8} (h : EntStep B s e (some r)) : s = some (encE e ++ r) ∧ e.bd B := by
  obtain ⟨s1, s2, s3, h1, h2, h3, h4⟩ := h
  obtain ⟨rfl, _, b4⟩ := num_good h4
  obtain ⟨rfl, b3⟩ := text_good h3
  obtain ⟨rfl, _, b2⟩ := num_good h2
  obtain ⟨rfl, _, b1⟩ := num_good h1
  exact ⟨by unfold encE; simp only [List.append_assoc], b1, b2, b3, b4⟩
theorem EntStep.make {B : Lim} (hB : B.Ok) {e : Ent} (r : List UInt8) (h : e.bd B) : EntStep B (some (encE e ++ r)) e (some r) := by
  refine ⟨_, _, _, ?_, num_make _ h.n hB.n.2, text_make _ h.s hB.s.2, num_make _ h.k hB.k.2⟩
  have := num_make (numB e.n ++ (textB e.s ++ (numB e.k ++ r))) h.dc hB.dc.2
  unfold encE
  simp only [List.append_assoc]
  exact this
/-- So many things, one behind the other, each taken by a step R. -/
inductive Run {α : Type} (R : Option (List UInt8) → α → Option (List UInt8) → Prop) (st : Option (List UInt8)) : Nat → List α → Option (List UInt8) → Prop
  | zero : Run R st 0 [] st
  | snoc {k : Nat} {es : List α} {s t : Option (List UInt8)} {e : α} : Run R st k es s → R s e t → Run R st (k + 1) (es ++ [e]) t
section
variable {α : Type} {R : Option (List UInt8) → α → Option (List UInt8) → Prop}
theorem Run.len {st t : Option (List UInt8)} {k : Nat} {es : List α} (h : Run R st k es t) : es.length = k := by
  induction h with
  | zero => rfl
  | snoc _ _ ih => rw [List.length_append, ih]; rfl
theorem Run.all {P : α → Prop} (hP : ∀ {s e t}, R s e t → P e) {st t : Option (List UInt8)} {k : Nat} {es : List α} (h : Run R st k es t) : ∀ e ∈ es, P e := by
  induction h with
  | zero => intro e he; cases he
  | snoc _ h2 ih =>
    intro e he
    rcases List.mem_append.1 he with he | he
    · exact ih e he
    · rw [List.mem_singleton] at he; subst he; exact hP h2
theorem Run.det (hR : ∀ {s a b t t'}, R s a t → R s b t' → a = b ∧ t = t') {st t : Option (List UInt8)} {k : Nat} {es : List α} (h : Run R st k es t) : ∀ {es' : List α} {t' : Option (List UInt8)}, Run R st k es' t' → es = es' ∧ t = t' := by
  induction h with
  | zero => intro es' t' h'; cases h'; exact ⟨rfl, rfl⟩
  | snoc h1 h2 ih =>
    intro es' t' h'
    cases h' with
    | snoc k1 k2 =>
      obtain ⟨rfl, rfl⟩ := ih k1
      obtain ⟨rfl, rfl⟩ := hR h2 k2
      exact ⟨rfl, rfl⟩
theorem Run.good {f : α → List UInt8} {P : α → Prop} (hR : ∀ {s e r}, R s e (some r) → s = some (f e ++ r) ∧ P e) {st t : Option (List UInt8)} {k : Nat} {es : List α} (h : Run R st k es t) : ∀ {r : List UInt8}, t = some r → st = some (es.flatMap f ++ r) ∧ ∀ e ∈ es, P e := by
  induction h with
  | zero => intro r hr; exact ⟨hr, fun e he => by cases he⟩
  | snoc _ h2 ih =>
    intro r hr
    subst hr
    obtain ⟨h3, h4⟩ := hR h2
    obtain ⟨h5, h6⟩ := ih h3
    refine ⟨by rw [h5]; simp, fun e he => ?_⟩
    rcases List.mem_append.1 he with he | he
    · exact h6 e he
    · rw [List.mem_singleton] at he; subst he; exact h4
theorem Run.make {f : α → List UInt8} {P : α → Prop} (hR : ∀ {e} (r : List UInt8), P e → R (some (f e ++ r)) e (some r)) {es : List α} (r : List UInt8) (h : ∀ e ∈ es, P e) : Run R (some (es.flatMap f ++ r)) es.length es (some r) := by
  have key_ : ∀ k, k ≤ es.length → Run R (some (es.flatMap f ++ r)) k (es.take k) (some ((es.drop k).flatMap f ++ r)) := by
    intro k
    induction k with
    | zero => intro _; rw [List.take_zero, List.drop_zero]; exact .zero
    | succ k ih =>
      intro hk
      have hs := List.drop_eq_getElem_cons (l := es) (i := k) (by omega)
      have h1 := ih (by omega)
      rw [hs, List.flatMap_cons, List.append_assoc] at h1
      rw [List.take_succ_eq_append_getElem (by omega)]
      exact .snoc h1 (hR _ (h _ (List.getElem_mem _)))
  have := key_ es.length (Nat.le_refl _)
  rw [List.take_length, List.drop_length] at this
  exact this
end
abbrev EsRun (B : Lim) := Run (EntStep B)
theorem EsRun.good {B : Lim} {st : Option (List UInt8)} {k : Nat} {es : List Ent} {r : List UInt8} (h : EsRun B st k es (some r)) : st = some (encEs es ++ r) ∧ ∀ e ∈ es, e.bd B := Run.good (fun h => EntStep.good h) h rfl
theorem EsRun.make {B : Lim} (hB : B.Ok) {es : List Ent} (r : List UInt8) (h : ∀ e ∈ es, e.bd B) : EsRun B (some (encEs es ++ r)) es.length es (some r) := Run.make (fun r h => EntStep.make hB r h) r h
/-- A span: a center, two numbers. -/
def SpStep (B : Lim) (s0 : Option (List UInt8)) (s : Int × Int × Int) (t : Option (List UInt8)) : Prop :=
  ∃ s1 s2, NumStep s0 B.dc s.1 s1 ∧ NumStep s1 B.n s.2.1 s2 ∧ NumStep s2 B.n s.2.2 t
def spBd (B : Lim) (s : Int × Int × Int) : Prop := (-B.dc ≤ s.1 ∧ s.1 ≤ B.dc) ∧ (-B.n ≤ s.2.1 ∧ s.2.1 ≤ B.n) ∧ (-B.n ≤ s.2.2 ∧ s.2.2 ≤ B.n)
theorem SpStep.det {B : Lim} {s t t' : Option (List UInt8)} {a b : Int × Int × Int} (h : SpStep B s a t) (k : SpStep B s b t') : a = b ∧ t = t' := by
  obtain ⟨s1, s2, h1, h2, h3⟩ := h
  obtain ⟨q1, q2, k1, k2, k3⟩ := k
  obtain ⟨a1, rfl⟩ := h1.det k1
  obtain ⟨a2, rfl⟩ := h2.det k2
  obtain ⟨a3, rfl⟩ := h3.det k3
  exact ⟨Prod.ext a1 (Prod.ext a2 a3), rfl⟩
theorem SpStep.good {B : Lim} {s : Option (List UInt8)} {e : Int × Int × Int} {r : List UInt8} (h : SpStep B s e (some r)) : s = some (encS e ++ r) ∧ spBd B e := by
  obtain ⟨s1, s2, h1, h2, h3⟩ := h
  obtain ⟨rfl, _, b3⟩ := num_good h3
  obtain ⟨rfl, _, b2⟩ := num_good h2
  obtain ⟨rfl, _, b1⟩ := num_good h1
  exact ⟨by unfold encS; simp only [List.append_assoc], b1, b2, b3⟩
theorem SpStep.make {B : Lim} (hB : B.Ok) {e : Int × Int × Int} (r : List UInt8) (h : spBd B e) : SpStep B (some (encS e ++ r)) e (some r) := by
  refine ⟨_, _, ?_, num_make _ h.2.1 hB.n.2, num_make _ h.2.2 hB.n.2⟩
  have := num_make (numB e.2.1 ++ (numB e.2.2 ++ r)) h.1 hB.dc.2
  unfold encS
  simp only [List.append_assoc]
  exact this
theorem SpStep.fits {B : Lim} {s t : Option (List UInt8)} {e : Int × Int × Int} (h : SpStep B s e t) : inR e.1 ∧ inR e.2.1 ∧ inR e.2.2 := by
  obtain ⟨s1, s2, h1, h2, h3⟩ := h
  exact ⟨num_in h1, num_in h2, num_in h3⟩
abbrev SpRun (B : Lim) := Run (SpStep B)
theorem SpRun.good {B : Lim} {st : Option (List UInt8)} {k : Nat} {c : CtxL} {r : List UInt8} (h : SpRun B st k c (some r)) : st = some (encSs c ++ r) ∧ ∀ e ∈ c, spBd B e := Run.good (fun h => SpStep.good h) h rfl
theorem SpRun.make {B : Lim} (hB : B.Ok) {c : CtxL} (r : List UInt8) (h : ∀ e ∈ c, spBd B e) : SpRun B (some (encSs c ++ r)) c.length c (some r) := Run.make (fun r h => SpStep.make hB r h) r h
/-- How many there are: no more than bytes are left. -/
def CntStep (st : Option (List UInt8)) (m : Int) (n : Nat) (st' : Option (List UInt8)) : Prop :=
  ∃ (v : Int) (s1 : Option (List UInt8)), NumStep st m v s1 ∧ match s1 with
    | none => n = 0 ∧ st' = none
    | some r => (0 ≤ v ∧ v ≤ r.length ∧ n = v.toNat ∧ st' = some r) ∨ ((v < 0 ∨ (r.length : Int) < v) ∧ n = 0 ∧ st' = none)
theorem CntStep.det {st s t : Option (List UInt8)} {m : Int} {a b : Nat} (h : CntStep st m a s) (k : CntStep st m b t) : a = b ∧ s = t := by
  obtain ⟨n, st1, h1, h2⟩ := h
  obtain ⟨n', st1', k1, k2⟩ := k
  obtain ⟨rfl, rfl⟩ := h1.det k1
  cases st1 with
  | none => exact ⟨h2.1.trans k2.1.symm, h2.2.trans k2.2.symm⟩
  | some bs =>
    rcases h2 with ⟨a, b, c, d⟩ | ⟨a, c, d⟩ <;> rcases k2 with ⟨a', b', c', d'⟩ | ⟨a', c', d'⟩
    · exact ⟨c.trans c'.symm, d.trans d'.symm⟩
    · omega
    · omega
    · exact ⟨c.trans c'.symm, d.trans d'.symm⟩
theorem CntStep.good {st : Option (List UInt8)} {m : Int} {n : Nat} {r : List UInt8} (h : CntStep st m n (some r)) : st = some (numB n ++ r) ∧ n ≤ r.length ∧ (n : Int) ≤ m := by
  obtain ⟨v, s1, h1, h2⟩ := h
  cases s1 with
  | none => cases h2.2
  | some q =>
    rcases h2 with ⟨a, b, c, d⟩ | ⟨_, _, d⟩
    · injection d with d
      subst d
      obtain ⟨rfl, _, h3, h4⟩ := num_good h1
      have e : (n : Int) = v := by omega
      exact ⟨by rw [e], by omega, by omega⟩
    · cases d
theorem CntStep.make {m : Int} {n : Nat} {r : List UInt8} (h1 : n ≤ r.length) (h2 : (n : Int) ≤ m) (hm : m ≤ 9223372036854775807) : CntStep (some (numB n ++ r)) m n (some r) :=
  ⟨n, some r, num_make r ⟨by omega, h2⟩ hm, .inl ⟨by omega, by omega, by omega, rfl⟩⟩
theorem CntStep.none_ {m : Int} {n : Nat} {st' : Option (List UInt8)} (h : CntStep none m n st') : n = 0 ∧ st' = none := by
  obtain ⟨v, s1, h1, h2⟩ := h
  obtain ⟨_, rfl⟩ := h1
  exact h2
end Go.Proofs.YtggfoihfenlckaaGreat
/- What bytes tell: a tree, a context, what is known: the plain law. -/
namespace Go.Proofs.YtggfoihfenlckaaGreat
open Go.RowKit
/-- Bytes begin with a tree within bounds. -/
structure GetOk (B : Lim) (d : Nat) (bs : List UInt8) (es : List Ent) (ks : KidsL) (rest : List UInt8) : Prop where
  eq : bs = encT es ks ++ rest
  ebd : ∀ e ∈ es, e.bd B
  kbd : ks.bd B
  deep : deepK ks + 1 ≤ d
/-- Bytes begin with so many kids. -/
structure KsOk (B : Lim) (d : Nat) (bs : List UInt8) (m : Nat) (ks : KidsL) (rest : List UInt8) : Prop where
  eq : bs = encK ks ++ rest
  len : ks.len = m
  kbd : ks.bd B
  deep : deepK ks ≤ d
/-- What taking a tree answers. -/
def GetRes (B : Lim) (d : Nat) (st : Option (List UInt8)) (es : List Ent) (ks : KidsL) (s : Option (List UInt8)) : Prop :=
  (∃ bs rest, st = some bs ∧ s = some rest ∧ GetOk B d bs es ks rest) ∨ (s = none ∧ ∀ bs es ks rest, st = some bs → ¬ GetOk B d bs es ks rest)
theorem encK_app : ∀ (l : List KidQ) (r : KidsL), encK (appK l r) = encK (mkK l) ++ encK r
  | [], _ => rfl
  | q :: l, r => by
    show encK (.cons q.key q.es q.sub (appK l r)) = encK (.cons q.key q.es q.sub (mkK l)) ++ _
    rw [encK_cons, encK_cons, encK_app l r]
    simp only [List.append_assoc]
theorem appK_bd {B : Lim} : ∀ {l : List KidQ} {r : KidsL}, (mkK l).bd B → r.bd B → (appK l r).bd B
  | [], _, _, h => h
  | q :: l, r, h, k => ⟨h.1, h.2.1, h.2.2.1, appK_bd (l := l) h.2.2.2 k⟩
theorem appK_deep {d : Nat} : ∀ {l : List KidQ} {r : KidsL}, deepK (mkK l) ≤ d → deepK r ≤ d → deepK (appK l r) ≤ d
  | [], _, _, h => h
  | q :: l, r, h, k => by
    have h : max (1 + deepK q.sub) (deepK (mkK l)) ≤ d := h
    have := appK_deep (l := l) (r := r) (d := d) (by omega) k
    show max (1 + deepK q.sub) (deepK (appK l r)) ≤ d
    omega
def KidsL.takeQ : Nat → KidsL → List KidQ
  | 0, _ => []
  | _ + 1, .nil => []
  | n + 1, .cons key es sub rest => ⟨key, es, sub, .slice none 0 0, .slice none 0 0⟩ :: KidsL.takeQ n rest
theorem KidsL.take_drop : ∀ (n : Nat) (ks : KidsL), ks = appK (ks.takeQ n) (ks.drop n)
  | 0, _ => rfl
  | _ + 1, .nil => rfl
  | n + 1, .cons key es sub rest => by
    show _ = KidsL.cons key es sub (appK (rest.takeQ n) (rest.drop n))
    rw [← KidsL.take_drop n rest]
theorem KidsL.takeQ_len : ∀ (n : Nat) (ks : KidsL), n ≤ ks.len → (ks.takeQ n).length = n
  | 0, _, _ => rfl
  | _ + 1, .nil, h => by cases h
  | n + 1, .cons _ _ _ rest, h => by
    show (rest.takeQ n).length + 1 = n + 1
    rw [KidsL.takeQ_len n rest (by have h : n + 1 ≤ rest.len + 1 := h; omega)]
/-- The kid that stands next. -/
theorem KsOk.next {B : Lim} {d m : Nat} {b3 r rest : List UInt8} {ks : KidsL} {l : List KidQ} (h : KsOk B d b3 m ks rest) (hb : b3 = encK (mkK l) ++ r) (hk : l.length < m) :
    ∃ key es sub q, r = textB key ++ (encT es sub ++ q) ∧ (key.size : Int) ≤ B.s ∧ GetOk B d (encT es sub ++ q) es sub q := by
  have hlen := h.len
  obtain ⟨key, es, sub, rst, hd⟩ := KidsL.drop_some (n := l.length) (ks := ks) (by omega)
  have hq : (ks.takeQ l.length).length = l.length := KidsL.takeQ_len _ _ (by omega)
  have he := h.eq
  rw [KidsL.take_drop l.length ks, encK_app, hb, List.append_assoc] at he
  obtain ⟨_, hr⟩ := encK_pfx (by rw [mkK_len, mkK_len, hq]) he
  rw [hd, encK_cons] at hr
  have hbd := h.kbd.drop l.length
  rw [hd] at hbd
  have hdp := deepK_drop l.length ks
  rw [hd] at hdp
  have hdp : max (1 + deepK sub) (deepK rst) ≤ deepK ks := hdp
  have := h.deep
  exact ⟨key, es, sub, encK rst ++ rest, by rw [hr]; simp only [List.append_assoc], hbd.1, rfl, hbd.2.1, hbd.2.2.1, by omega⟩
structure KGood (B : Lim) (d : Nat) (b3 : List UInt8) (l : List KidQ) (r : List UInt8) : Prop where
  eq : b3 = encK (mkK l) ++ r
  bd : (mkK l).bd B
  deep : deepK (mkK l) ≤ d
/-- What the loop over kids bears. -/
def KInv (B : Lim) (d : Nat) (s3 : Option (List UInt8)) (m : Nat) (l : List KidQ) (s : Option (List UInt8)) : Prop :=
  (∃ b3 r, s3 = some b3 ∧ s = some r ∧ KGood B d b3 l r) ∨ (s = none ∧ ∀ b3 ks rest, s3 = some b3 → ¬ KsOk B d b3 m ks rest)
theorem KInv.start (B : Lim) (d : Nat) (s3 : Option (List UInt8)) (m : Nat) : KInv B d s3 m [] s3 := by
  cases s3 with
  | none => exact .inr ⟨rfl, fun _ _ _ h => by cases h⟩
  | some b => exact .inl ⟨b, b, rfl, rfl, rfl, trivial, Nat.zero_le _⟩
theorem KInv.good {B : Lim} {d m : Nat} {s3 : Option (List UInt8)} {l : List KidQ} {r : List UInt8} (h : KInv B d s3 m l (some r)) : ∃ b3, s3 = some b3 ∧ KGood B d b3 l r := by
  rcases h with ⟨b3, r', h1, h2, h3⟩ | ⟨h1, _⟩
  · injection h2 with h2; subst h2; exact ⟨b3, h1, h3⟩
  · cases h1
theorem KInv.step {B : Lim} {d m : Nat} {s3 t1 t2 : Option (List UInt8)} {l : List KidQ} {r : List UInt8} (h : KInv B d s3 m l (some r)) (hB : B.Ok) (hk : l.length < m) {q : KidQ}
    (ht : TextStep (some r) B.s q.key t1) (hg : GetRes B d t1 q.es q.sub t2) : KInv B d s3 m (l ++ [q]) t2 := by
  obtain ⟨b3, rfl, hb⟩ := h.good
  cases t2 with
  | some r2 =>
    rcases hg with ⟨bs, rest, rfl, hr, hg⟩ | ⟨hg, _⟩
    · injection hr with hr; subst hr
      obtain ⟨hr, hs⟩ := text_good ht
      injection hr with hr
      refine .inl ⟨b3, r2, rfl, rfl, ?_, ?_, ?_⟩
      · show b3 = encK (appK (l ++ [q]) .nil) ++ r2
        rw [appK_snoc, encK_app, encK_cons, hb.eq, hr, hg.eq]
        simp only [List.append_assoc, encK, List.nil_append]
      · show (appK (l ++ [q]) .nil).bd B
        rw [appK_snoc]
        exact appK_bd hb.bd ⟨hs, hg.ebd, hg.kbd, trivial⟩
      · show deepK (appK (l ++ [q]) .nil) ≤ d
        rw [appK_snoc]
        have := hg.deep
        exact appK_deep hb.deep (by show max (1 + deepK q.sub) 0 ≤ d; omega)
    · cases hg
  | none =>
    refine .inr ⟨rfl, fun b ks rest hb3 hks => ?_⟩
    injection hb3 with hb3; subst hb3
    obtain ⟨key, es, sub, x, hr, hs, hgk⟩ := hks.next hb.eq hk
    subst hr
    obtain ⟨_, rfl⟩ := ht.det (text_make _ hs hB.s.2)
    rcases hg with ⟨_, _, _, hg, _⟩ | ⟨_, hg⟩
    · cases hg
    · exact hg _ _ _ _ rfl hgk
theorem encT_ge (es : List Ent) (ks : KidsL) : es.length ≤ (encEs es).length ∧ ks.len ≤ (encK ks).length := ⟨flat_pos encE_pos es, encK_pos ks⟩
/-- What was taken of a tree's parts tells the tree. -/
theorem get_parts {B : Lim} (hB : B.Ok) {M : Int} (hM : M ≤ 9223372036854775807) {d n m : Nat} {st s1 s2 s3 : Option (List UInt8)} {es : List Ent} (hl : ((leftOf st).length : Int) ≤ M) (h1 : CntStep st M n s1) (h2 : EsRun B s1 n es s2) (h3 : CntStep s2 M m s3)
    {bs : List UInt8} {es' : List Ent} {ks' : KidsL} {rest : List UInt8} (hs : st = some bs) (hg : GetOk B (d + 1) bs es' ks' rest) : es' = es ∧ ∃ b3, s3 = some b3 ∧ KsOk B d b3 m ks' rest := by
  subst hs
  have he := hg.eq
  unfold encT at he
  simp only [List.append_assoc] at he
  subst he
  have hge := encT_ge es' ks'
  have hl : ((numB es'.length ++ (encEs es' ++ (numB ks'.len ++ (encK ks' ++ rest)))).length : Int) ≤ M := hl
  simp only [List.length_append] at hl
  obtain ⟨rfl, rfl⟩ := h1.det (CntStep.make (by simp only [List.length_append]; omega) (by omega) hM)
  obtain ⟨rfl, rfl⟩ := Run.det (R := EntStep B) (fun h k => EntStep.det h k) h2 (EsRun.make hB _ hg.ebd)
  obtain ⟨rfl, rfl⟩ := h3.det (CntStep.make (by simp only [List.length_append]; omega) (by omega) hM)
  have := hg.deep
  exact ⟨rfl, _, rfl, rfl, rfl, hg.kbd, by omega⟩
theorem get_done {B : Lim} (hB : B.Ok) {M : Int} (hM : M ≤ 9223372036854775807) {d n m : Nat} {st s1 s2 s3 s : Option (List UInt8)} {es : List Ent} {l : List KidQ} (hl : ((leftOf st).length : Int) ≤ M) (h1 : CntStep st M n s1) (h2 : EsRun B s1 n es s2) (h3 : CntStep s2 M m s3)
    (hk : KInv B d s3 m l s) (hm : l.length = m) : GetRes B (d + 1) st es (mkK l) s := by
  cases s with
  | some r =>
    obtain ⟨b3, rfl, hb⟩ := hk.good
    obtain ⟨rfl, _, _⟩ := h3.good
    obtain ⟨rfl, hes⟩ := h2.good
    obtain ⟨rfl, _, _⟩ := h1.good
    have hd := hb.deep
    refine .inl ⟨_, r, rfl, rfl, ?_, hes, hb.bd, by omega⟩
    unfold encT
    rw [hb.eq, h2.len, mkK_len, hm]
    simp only [List.append_assoc]
  | none =>
    refine .inr ⟨rfl, fun bs es' ks' rest hs hg => ?_⟩
    obtain ⟨_, b3, h4, h5⟩ := get_parts hB hM hl h1 h2 h3 hs hg
    rcases hk with ⟨_, _, _, h6, _⟩ | ⟨_, h6⟩
    · cases h6
    · exact h6 _ _ _ h4 h5
theorem get_early {B : Lim} (hB : B.Ok) {M : Int} (hM : M ≤ 9223372036854775807) {d n m : Nat} {st s1 s2 s3 : Option (List UInt8)} {es : List Ent} {l : List KidQ} (hl : ((leftOf st).length : Int) ≤ M) (h1 : CntStep st M n s1) (h2 : EsRun B s1 n es s2) (h3 : CntStep s2 M m s3)
    (hk : KInv B d s3 m l none) (es' : List Ent) (ks' : KidsL) : GetRes B (d + 1) st es' ks' none := by
  refine .inr ⟨rfl, fun bs es' ks' rest hs hg => ?_⟩
  obtain ⟨_, b3, h4, h5⟩ := get_parts hB hM hl h1 h2 h3 hs hg
  rcases hk with ⟨_, _, _, h6, _⟩ | ⟨_, h6⟩
  · cases h6
  · exact h6 _ _ _ h4 h5
theorem get_zero (B : Lim) (st : Option (List UInt8)) (es : List Ent) (ks : KidsL) : GetRes B 0 st es ks none := .inr ⟨rfl, fun _ _ _ _ _ h => by have := h.deep; omega⟩
/- ### what may be is within bounds -/
theorem entB_bd {e : Ent} (h : entB e = true) : e.bd bdP := by
  unfold entB dotB at h
  simp only [Bool.and_eq_true, decide_eq_true_eq] at h
  obtain ⟨⟨h1, h2, h3, h4⟩, h5, h6, h7⟩ := h
  exact ⟨by simp only [bdP]; omega, by simp only [bdP]; omega, by simp only [bdP]; omega, by simp only [bdP]; omega⟩
theorem rightEs_bd : ∀ {p : Option Ent} {es : List Ent}, rightEs p es = true → ∀ e ∈ es, e.bd bdP
  | _, [], _, e, he => by cases he
  | p, x :: es, h, e, he => by
    simp only [rightEs, Bool.and_eq_true] at h
    rcases List.mem_cons.1 he with rfl | he
    · exact entB_bd h.1.1
    · exact rightEs_bd h.2 e he
theorem rightKs_bd : ∀ {ks : KidsL} {d : Nat} {p : Option ByteArray}, rightKs ks d p = true → ks.bd bdP ∧ deepK ks ≤ d
  | .nil, _, _, _ => ⟨trivial, Nat.zero_le _⟩
  | .cons key es sub rest, d, p, h => by
    simp only [rightKs, Bool.and_eq_true, decide_eq_true_eq] at h
    obtain ⟨⟨⟨⟨h1, _⟩, _⟩, ⟨h2, h3⟩, h4⟩, h5⟩ := h
    obtain ⟨g1, g2⟩ := rightKs_bd h4
    obtain ⟨g3, g4⟩ := rightKs_bd h5
    unfold keyB at h1
    simp only [decide_eq_true_eq] at h1
    exact ⟨⟨by simp only [bdP]; omega, rightEs_bd h3, g1, g3⟩, by show max (1 + deepK sub) (deepK rest) ≤ d; omega⟩
theorem Ent.bd.up {e : Ent} (h : e.bd bdP) : e.bd bdR := by
  obtain ⟨h1, h2, h3, h4⟩ := h
  simp only [bdP] at h1 h2 h3 h4
  exact ⟨by simp only [bdR]; omega, by simp only [bdR]; omega, by simp only [bdR]; omega, by simp only [bdR]; omega⟩
theorem KidsL.bd.up : ∀ {ks : KidsL}, ks.bd bdP → ks.bd bdR
  | .nil, _ => trivial
  | .cons _ _ _ _, h => ⟨by have := h.1; simp only [bdP] at this; simp only [bdR]; omega, fun e he => (h.2.1 e he).up, h.2.2.1.up, h.2.2.2.up⟩
/-- The bounds that something right is within. -/
def Wide (B : Lim) : Prop := (∀ e : Ent, e.bd bdP → e.bd B) ∧ (∀ ks : KidsL, ks.bd bdP → ks.bd B) ∧ ∀ s, spBd bdP s → spBd B s
theorem wideP : Wide bdP := ⟨fun _ h => h, fun _ h => h, fun _ h => h⟩
theorem wideR : Wide bdR := ⟨fun _ h => h.up, fun _ h => h.up, fun s h => by
  obtain ⟨h1, h2, h3⟩ := h
  simp only [bdP] at h1 h2 h3
  exact ⟨by simp only [bdR]; omega, by simp only [bdR]; omega, by simp only [bdR]; omega⟩⟩
theorem right_ok {B : Lim} (hW : Wide B) {es : List Ent} {ks : KidsL} {rest : List UInt8} (h : rightT 5 es ks = true) : GetOk B 5 (encT es ks ++ rest) es ks rest := by
  unfold rightT at h
  simp only [Bool.and_eq_true, decide_eq_true_eq] at h
  obtain ⟨⟨_, h1⟩, h2⟩ := h
  obtain ⟨g1, g2⟩ := rightKs_bd h2
  exact ⟨rfl, fun e he => hW.1 e (rightEs_bd h1 e he), hW.2.1 ks g1, by omega⟩
/-- What taking a right tree answers. -/
def TreeRes (st : Option (List UInt8)) (es : List Ent) (ks : KidsL) (s : Option (List UInt8)) : Prop :=
  (∃ rest, st = some (encT es ks ++ rest) ∧ rightT 5 es ks = true ∧ s = some rest) ∨ (s = none ∧ es = [] ∧ ks = .nil ∧ ∀ es ks rest, st = some (encT es ks ++ rest) → rightT 5 es ks = false)
theorem tree_good {B : Lim} {st : Option (List UInt8)} {es : List Ent} {ks : KidsL} {rest : List UInt8} (h : GetRes B 5 st es ks (some rest)) (hr : rightT 5 es ks = true) : TreeRes st es ks (some rest) := by
  rcases h with ⟨bs, r, rfl, h2, h3⟩ | ⟨h, _⟩
  · injection h2 with h2; subst h2
    exact .inl ⟨rest, by rw [h3.eq], hr, rfl⟩
  · cases h
theorem tree_wrong {B : Lim} {st : Option (List UInt8)} {es : List Ent} {ks : KidsL} {rest : List UInt8} (h : GetRes B 5 st es ks (some rest)) (hr : rightT 5 es ks = false) : TreeRes st [] .nil none := by
  rcases h with ⟨bs, r, rfl, h2, h3⟩ | ⟨h, _⟩
  · refine .inr ⟨rfl, rfl, rfl, fun es' ks' rest' hs => ?_⟩
    injection hs with hs
    rw [h3.eq] at hs
    obtain ⟨⟨rfl, rfl⟩, _⟩ := encT_pfx hs
    exact hr
  · cases h
theorem tree_bad {B : Lim} (hW : Wide B) {st : Option (List UInt8)} {es : List Ent} {ks : KidsL} (h : GetRes B 5 st es ks none) : TreeRes st [] .nil none := by
  rcases h with ⟨_, _, _, h2, _⟩ | ⟨_, h⟩
  · cases h2
  · refine .inr ⟨rfl, rfl, rfl, fun es' ks' rest' hs => ?_⟩
    cases hr : rightT 5 es' ks' with
    | false => rfl
    | true => exact absurd (right_ok hW hr) (h _ _ _ _ hs)
theorem TreeRes.det {st s s' : Option (List UInt8)} {es es' : List Ent} {ks ks' : KidsL} (h : TreeRes st es ks s) (k : TreeRes st es' ks' s') : (es = es' ∧ ks = ks') ∧ s = s' := by
  rcases h with ⟨r, h1, h2, h3⟩ | ⟨h1, h2, h3, h4⟩ <;> rcases k with ⟨r', k1, k2, k3⟩ | ⟨k1, k2, k3, k4⟩
  · rw [h1] at k1
    injection k1 with k1
    obtain ⟨e, rfl⟩ := encT_pfx k1
    exact ⟨e, by rw [h3, k3]⟩
  · rw [k4 _ _ _ h1] at h2; cases h2
  · rw [h4 _ _ _ k1] at k2; cases k2
  · exact ⟨⟨by rw [h2, k2], by rw [h3, k3]⟩, by rw [h1, k1]⟩
theorem TreeRes.make {es : List Ent} {ks : KidsL} (rest : List UInt8) (h : rightT 5 es ks = true) : TreeRes (some (encT es ks ++ rest)) es ks (some rest) := .inl ⟨rest, rfl, h, rfl⟩
/- ### contexts -/
theorem RightC.each {c : CtxL} (h : RightC c) : ∀ s ∈ c, spBd bdP s := fun s hs => by
  have hd : ∀ {c : CtxL} {lo : Int}, DcFrom lo c → ∀ s ∈ c, lo ≤ s.1 ∧ s.1 < 4 := by
    intro c
    induction c with
    | nil => intro lo _ s hs; cases hs
    | cons x c ih =>
      intro lo h s hs
      rcases List.mem_cons.1 hs with rfl | hs
      · exact ⟨h.1, h.2.1⟩
      · have := ih h.2.2 s hs
        have := h.1
        omega
  obtain ⟨h0, h4⟩ := hd h.1 s hs
  have hr := h.2 s.1 h0 h4
  have hm : s.2 ∈ partL c s.1 := by
    unfold partL
    exact List.mem_map.2 ⟨s, List.mem_filter.2 ⟨hs, by simp⟩, rfl⟩
  have g1 := runsFrom_ge hr.1 _ hm
  have g2 := hr.2 _ hm
  refine ⟨?_, ?_, ?_⟩ <;> simp only [bdP] <;> omega
def CtxRes (st : Option (List UInt8)) (c : CtxL) (s : Option (List UInt8)) : Prop :=
  (∃ rest, st = some (encC c ++ rest) ∧ RightC c ∧ s = some rest) ∨ (s = none ∧ c = [] ∧ ∀ c rest, st = some (encC c ++ rest) → ¬ RightC c)
theorem ctx_parts {B : Lim} (hB : B.Ok) (hW : Wide B) {M : Int} (hM : M ≤ 9223372036854775807) {n : Nat} {st s1 s2 : Option (List UInt8)} {c : CtxL} (hl : ((leftOf st).length : Int) ≤ M) (h1 : CntStep st M n s1) (h2 : SpRun B s1 n c s2)
    {c' : CtxL} {rest : List UInt8} (hs : st = some (encC c' ++ rest)) (hr : RightC c') : c' = c ∧ s2 = some rest := by
  subst hs
  have hge : c'.length ≤ (encSs c').length := flat_pos encS_pos c'
  have hl : ((encC c' ++ rest).length : Int) ≤ M := hl
  unfold encC at hl h1
  rw [List.append_assoc] at hl h1
  simp only [List.length_append] at hl
  obtain ⟨rfl, rfl⟩ := h1.det (CntStep.make (by simp only [List.length_append]; omega) (by omega) hM)
  obtain ⟨rfl, rfl⟩ := Run.det (R := SpStep B) (fun h k => SpStep.det h k) h2 (SpRun.make hB _ fun s hs => hW.2.2 s (hr.each s hs))
  exact ⟨rfl, rfl⟩
theorem ctx_good {B : Lim} {M : Int} {n : Nat} {st s1 : Option (List UInt8)} {c : CtxL} {rest : List UInt8} (h1 : CntStep st M n s1) (h2 : SpRun B s1 n c (some rest)) (hr : RightC c) : CtxRes st c (some rest) := by
  obtain ⟨rfl, _⟩ := h2.good
  obtain ⟨rfl, _, _⟩ := h1.good
  refine .inl ⟨rest, ?_, hr, rfl⟩
  unfold encC
  rw [h2.len, List.append_assoc]
theorem ctx_bad {B : Lim} (hB : B.Ok) (hW : Wide B) {M : Int} (hM : M ≤ 9223372036854775807) {n : Nat} {st s1 s2 : Option (List UInt8)} {c : CtxL} (hl : ((leftOf st).length : Int) ≤ M) (h1 : CntStep st M n s1) (h2 : SpRun B s1 n c s2) (h : s2 = none ∨ ¬ RightC c) : CtxRes st [] none := by
  refine .inr ⟨rfl, rfl, fun c' rest hs hr => ?_⟩
  obtain ⟨rfl, h3⟩ := ctx_parts hB hW hM hl h1 h2 hs hr
  rcases h with h | h
  · rw [h] at h3; cases h3
  · exact h hr
theorem CtxRes.det {st s s' : Option (List UInt8)} {c c' : CtxL} (h : CtxRes st c s) (k : CtxRes st c' s') : c = c' ∧ s = s' := by
  rcases h with ⟨r, h1, h2, h3⟩ | ⟨h1, h2, h4⟩ <;> rcases k with ⟨r', k1, k2, k3⟩ | ⟨k1, k2, k4⟩
  · rw [h1] at k1
    injection k1 with k1
    obtain ⟨e, rfl⟩ := encC_pfx k1
    exact ⟨e, by rw [h3, k3]⟩
  · exact absurd h2 (k4 _ _ h1)
  · exact absurd k2 (h4 _ _ k1)
  · exact ⟨by rw [h2, k2], by rw [h1, k1]⟩
theorem CtxRes.make {c : CtxL} (rest : List UInt8) (h : RightC c) : CtxRes (some (encC c ++ rest)) c (some rest) := .inl ⟨rest, rfl, h, rfl⟩
/- ### what is known -/
def CauRes (st : Option (List UInt8)) (es : List Ent) (ks : KidsL) (c : CtxL) (s : Option (List UInt8)) : Prop :=
  (∃ rest, st = some (encX es ks c ++ rest) ∧ CauRight es ks c ∧ s = some rest) ∨ (s = none ∧ es = [] ∧ ks = .nil ∧ c = [] ∧ ∀ es ks c rest, st = some (encX es ks c ++ rest) → ¬ CauRight es ks c)
theorem cau_parts {st s1 s2 : Option (List UInt8)} {es es' : List Ent} {ks ks' : KidsL} {c c' : CtxL} {rest : List UInt8} (h1 : TreeRes st es ks s1) (h2 : CtxRes s1 c s2) (hs : st = some (encX es' ks' c' ++ rest)) (hr : CauRight es' ks' c') :
    es' = es ∧ ks' = ks ∧ c' = c ∧ s2 = some rest := by
  subst hs
  unfold encX at h1
  rw [List.append_assoc] at h1
  obtain ⟨⟨rfl, rfl⟩, rfl⟩ := h1.det (TreeRes.make _ hr.tree)
  obtain ⟨rfl, rfl⟩ := h2.det (CtxRes.make _ hr.ctx)
  exact ⟨rfl, rfl, rfl, rfl⟩
theorem cau_both {st s1 : Option (List UInt8)} {es : List Ent} {ks : KidsL} {c : CtxL} {rest : List UInt8} (h1 : TreeRes st es ks s1) (h2 : CtxRes s1 c (some rest)) : st = some (encX es ks c ++ rest) ∧ rightT 5 es ks = true ∧ RightC c := by
  rcases h2 with ⟨r, rfl, k2, k3⟩ | ⟨k1, _⟩
  · injection k3 with k3; subst k3
    rcases h1 with ⟨r', rfl, h2, h3⟩ | ⟨h1, _⟩
    · injection h3 with h3; subst h3
      exact ⟨by unfold encX; rw [List.append_assoc], h2, k2⟩
    · cases h1
  · cases k1
theorem cau_good {st s1 : Option (List UInt8)} {es : List Ent} {ks : KidsL} {c : CtxL} {rest : List UInt8} (h1 : TreeRes st es ks s1) (h2 : CtxRes s1 c (some rest)) (hr : CauRight es ks c) : CauRes st es ks c (some rest) :=
  .inl ⟨rest, (cau_both h1 h2).1, hr, rfl⟩
theorem cau_bad {st s1 s2 : Option (List UInt8)} {es : List Ent} {ks : KidsL} {c : CtxL} (h1 : TreeRes st es ks s1) (h2 : CtxRes s1 c s2) (h : s2 = none ∨ ¬ CauRight es ks c) : CauRes st [] .nil [] none := by
  refine .inr ⟨rfl, rfl, rfl, rfl, fun es' ks' c' rest hs hr => ?_⟩
  obtain ⟨rfl, rfl, rfl, h3⟩ := cau_parts h1 h2 hs hr
  rcases h with h | h
  · rw [h] at h3; cases h3
  · exact h hr
theorem CauRes.det {st s s' : Option (List UInt8)} {es es' : List Ent} {ks ks' : KidsL} {c c' : CtxL} (h : CauRes st es ks c s) (k : CauRes st es' ks' c' s') : ((es = es' ∧ ks = ks') ∧ c = c') ∧ s = s' := by
  rcases h with ⟨r, h1, h2, h3⟩ | ⟨h1, h2, h3, h5, h4⟩ <;> rcases k with ⟨r', k1, k2, k3⟩ | ⟨k1, k2, k3, k5, k4⟩
  · rw [h1] at k1
    injection k1 with k1
    obtain ⟨e, rfl⟩ := encX_pfx k1
    exact ⟨e, by rw [h3, k3]⟩
  · exact absurd h2 (k4 _ _ _ _ h1)
  · exact absurd k2 (h4 _ _ _ _ k1)
  · exact ⟨⟨⟨by rw [h2, k2], by rw [h3, k3]⟩, by rw [h5, k5]⟩, by rw [h1, k1]⟩
theorem CauRes.make {es : List Ent} {ks : KidsL} {c : CtxL} (rest : List UInt8) (h : CauRight es ks c) : CauRes (some (encX es ks c ++ rest)) es ks c (some rest) := .inl ⟨rest, rfl, h, rfl⟩
/- ### sizes -/
theorem numB_le {v m : Int} (h : -m ≤ v ∧ v ≤ m) (hm : m ≤ 9223372036854775807) : (numB v).length ≤ 10 := numB_le10 (by omega) (by omega)
theorem encE_le {e : Ent} (h : e.bd bdP) : (encE e).length ≤ 70 := by
  have h1 := numB_le h.dc bdP_ok.dc.2
  have h2 := numB_le h.n bdP_ok.n.2
  have h4 := numB_le h.k bdP_ok.k.2
  have h3 := h.s
  have h5 : (numB e.s.size).length ≤ 10 := numB_le10 (by simp only [bdP] at h3; omega) (by simp only [bdP] at h3; omega)
  have h6 : e.s.data.toList.length = e.s.size := Array.length_toList
  unfold encE textB
  simp only [List.length_append, bdP] at *
  omega
theorem numN_le {n : Nat} (h : n ≤ 9223372036854775807) : (numB n).length ≤ 10 := numB_le10 (by omega) (by omega)
theorem encK_le : ∀ {ks : KidsL}, ks.bd bdP → sizeK ks ≤ 9223372036854775807 → (encK ks).length ≤ 75 * sizeK ks
  | .nil, _, _ => Nat.zero_le _
  | .cons key es sub rest, h, hs => by
    have hs' : 1 + es.length + sizeK sub + sizeK rest ≤ 9223372036854775807 := hs
    have h1 := encK_le h.2.2.1 (by omega)
    have h2 := encK_le h.2.2.2 (by omega)
    have h3 : (encEs es).length ≤ 70 * es.length := flat_le fun e he => encE_le (h.2.1 e he)
    have h4 := h.1
    have h5 : (numB key.size).length ≤ 10 := numB_le10 (by simp only [bdP] at h4; omega) (by simp only [bdP] at h4; omega)
    have h6 : key.data.toList.length = key.size := Array.length_toList
    have h7 := numN_le (n := es.length) (by omega)
    have h9 : sub.len ≤ sizeK sub := len_le_sizeK sub
    have h8 := numN_le (n := sub.len) (by omega)
    simp only [bdP] at h4
    unfold encK sizeK textB
    simp only [List.length_append]
    omega
theorem encT_le {es : List Ent} {ks : KidsL} (h : rightT 5 es ks = true) (hs : sizeT es ks ≤ 9223372036854775807) : (encT es ks).length ≤ 20 + 75 * sizeT es ks := by
  have hg := right_ok wideP (rest := []) h
  have hs' : es.length + sizeK ks ≤ 9223372036854775807 := hs
  have h1 := encK_le hg.kbd (by omega)
  have h3 : (encEs es).length ≤ 70 * es.length := flat_le fun e he => encE_le (hg.ebd e he)
  have h9 : ks.len ≤ sizeK ks := len_le_sizeK ks
  have h7 := numN_le (n := es.length) (by omega)
  have h8 := numN_le (n := ks.len) (by omega)
  unfold encT sizeT
  simp only [List.length_append]
  omega
end Go.Proofs.YtggfoihfenlckaaGreat
/- tributaryref02.Take. -/
namespace Go.Proofs.YtggfoihfenlckaaGreat
open Go.RowKit
/-- The next seven bits, added on. -/
theorem add_acc {u0 x k : Nat} (hx : u0 + x * 128 ^ k < 18446744073709551616) : IntKind.u64.wrap ((u0 : Int) + IntKind.u64.wrap ((x : Int) * 2 ^ (7 * k))) = ((u0 + x * 128 ^ k : Nat) : Int) := by
  have e : ((x : Int) * 2 ^ (7 * k)) = ((x * 128 ^ k : Nat) : Int) := by rw [← pow7]; simp
  rw [e, IntWalk.u64_in ((x * 128 ^ k : Nat) : Int) (by omega), IntWalk.u64_in _ (by omega)]
  omega
theorem Rd.pre2 {w : World} {ad : Option Addr} {c n : Nat} {bs : List UInt8} (h : Rd w (.slice ad n c) n (bV bs)) (hn : bs.length = n) (k : Nat) (hk : k ≤ n) : Rd w (.slice ad k c) (bs.take k).length (bV (bs.take k)) := by
  subst hn; exact h.pre k hk
theorem tk_ret {U : Int} {k M : Nat} {a : Bool} (h : k + 1 = M) (hb : a = true) : Ending.returned (.tuple #[.int .i64 U, .int .i64 ((k : Int) + 1), .bool a]) = .returned (.tuple #[.int .i64 U, .int .i64 M, .bool true]) := by
  subst h hb; rfl
theorem tk_no {U : Int} {k : Nat} {a : Bool} (hb : a = false) : ∃ x m : Int, Ending.returned (.tuple #[.int .i64 U, .int .i64 ((k : Int) + 1), .bool a]) = .returned (.tuple #[.int .i64 x, .int .i64 m, .bool false]) := ⟨_, _, by rw [hb]⟩
def TkNo (e : Ending) : Prop := ∃ x m : Int, e = .returned (.tuple #[.int .i64 x, .int .i64 m, .bool false])
theorem vl_lt (n : Nat) : n < 128 ^ (vl n).length := by
  induction n using Nat.strongRecOn with
  | ind n ih =>
    by_cases hn : n < 128
    · rw [vl_small hn]; simpa using hn
    · rw [vl_big hn, List.length_cons, pow128_succ]
      have := ih (n / 128) (by omega)
      omega
set_option maxHeartbeats 1600000 in
set_option maxRecDepth 1000000 in
theorem rtake_yes (v : Value) (bs rest : List UInt8) (n : Nat) (w : World) (h : Rd w v bs.length (bV bs)) (hb : bs = vl n ++ rest) (hn : n < 18446744073709551616) :
    Calls Tryz.prog 150 #[v] w fun e w' => e = .returned (.tuple #[.int .i64 (unzz n), .int .i64 (vl n).length, .bool true]) ∧ Frm Nowhere w w' := by
  have hpos := vl_pos n
  rcases h with ⟨ad, rfl, h0, _⟩ | ⟨b, off, c, rfl, hc1, hc2, hcell⟩
  · exfalso
    rw [hb, List.length_append] at h0
    omega
  · have hl63 : bs.length ≤ 9223372036854775807 := Nat.le_trans hc1 hc2
    have hlen : (vl n).length ≤ bs.length := by rw [hb, List.length_append]; omega
    have hv10 := vl_le10 hn
    have HH : Hid (Rd w (.slice (some ⟨b, off, none⟩) bs.length c) bs.length (bV bs)) := Lib.hid (.inr ⟨b, off, c, rfl, hc1, hc2, hcell⟩)
    have HB := Lib.hid hb; clear hb
    have HN := Lib.hid hn; clear hn
    have HC := Lib.hid hcell; clear hcell
    have hunz := unzz_range HN.out
    generalize hL : bs.length = L at *
    have HL := Lib.hid hL; clear hL
    generalize hM : (vl n).length = M at *
    have HM := Lib.hid hM; clear hM
    generalize hU : unzz n = U at *
    have HU := Lib.hid hU; clear hU
    clear hc2
    go_enter Tryz.func150, Tryz.ntmps150
    go_wp2
    go_loop [5, 10] (fun u i => ∃ k : Nat, k < M ∧ i = .int .i64 k ∧ u = .int .u64 (n % 128 ^ k : Nat)) (fun _ i => M - (intOf i).toNat)
    case atStart => exact ⟨0, by omega, rfl, by simp [Nat.mod_one]⟩
    case round =>
      obtain ⟨k, hk, rfl, rfl⟩ := hrel
      obtain ⟨hk', h9, h1, hm, hlast, hend, hmore⟩ := yes_at HB.out HN.out (by rw [HM.out]; exact hk)
      have hcl : w.cell? ⟨b, off + k, none⟩ = some (.int .u8 (bs[k].toNat : Int)) := HC.out k _ (by simp [bV, hk'])
      generalize hbk : bs[k] = ck at *
      have hlt := ck.toNat_lt
      generalize hcn : ck.toNat = c0 at *
      have hkL : k < L := by rw [← HL.out]; exact hk'
      have hu1 : n % 128 ^ k + c0 % 128 * 128 ^ k = n % 128 ^ (k + 1) := by rw [hm]; exact acc_step n k
      have hule : n % 128 ^ (k + 1) ≤ n := Nat.mod_le _ _
      have hadd := add_acc (u0 := n % 128 ^ k) (x := c0 % 128) (by rw [hu1]; have := HN.out; omega)
      rw [hu1] at hadd
      have hmd : (c0 : Int) % 128 = ((c0 % 128 : Nat) : Int) := by omega
      generalize n % 128 ^ k = u0 at *
      have A1 := Lib.hid hm; clear hm
      have A2 := Lib.hid hlast; clear hlast
      have A3 := Lib.hid hend; clear hend
      have A4 := Lib.hid hmore; clear hmore
      have A7 := Lib.hid hbk; clear hbk
      clear hcn h1 hu1 hule
      have hx : c0 % 128 < 128 := Nat.mod_lt _ (by omega)
      generalize c0 % 128 = x at *
      generalize hz : n % 128 ^ (k + 1) = u1 at *
      have HZ := Lib.hid hz; clear hz
      by_cases hc : c0 < 128
      · have hkM : k + 1 = M := by rw [← HM.out]; exact A2.out.1 hc
        have hun : u1 = n := by
          rw [← HZ.out, hkM, ← HM.out]
          exact Nat.mod_eq_of_lt (vl_lt n)
        obtain ⟨q, hq⟩ : ∃ q, u1 / 2 = q := ⟨_, rfl⟩
        have hqb : q ≤ 9223372036854775807 := by have := HN.out; omega
        have hqi : (u1 : Int) / 2 = (q : Int) := by omega
        have hck : k + 1 ≤ c := by omega
        have hcmp : numB U = bs.take (k + 1) := by
          rw [← HU.out, numB_unzz, HB.out, hkM, ← HM.out, List.take_left]
        have hcall := fun W => rnum U W hunz.1 hunz.2
        have HCALL := Lib.hid hcall; clear hcall
        have HCMP := Lib.hid hcmp; clear hcmp
        have hpre := HH.out.pre2 HL.out (k + 1) (by omega)
        have HPRE := Lib.hid hpre; clear hpre
        have cvb := conv_str (HPRE.out.keep (Frm.drew Nowhere w) fun _ _ h => h)
        have hw1 : IntKind.i64.wrap ((k : Int) + 1) = (k : Int) + 1 := IntWalk.i64_in _ (by omega)
        have HKM := Lib.hid hkM; clear hkM
        rcases Nat.mod_two_eq_zero_or_one u1 with h2 | h2
        · have h2i : (u1 : Int) % 2 = 0 := by omega
          have hqU : (q : Int) = U := by rw [← HU.out, ← hun]; unfold unzz; rw [if_pos h2, hq]
          clear hq h2 hun
          go_wp2_with fail
          go_region_with (go_at_call 98; refine (HCALL.out _).mono ?_; rintro e wx ⟨vx, rfl, hcx⟩; have cvx := conv_str hcx.rd; have cvy := conv_str (HPRE.out.keep ((Frm.drew Nowhere w).trans hcx.frm fun _ _ h => h) fun _ _ h => h); have HX := Lib.hid hcx; clear hcx)
          all_goals
            go_wp2
            go_ret3
            exact ⟨tk_ret HKM.out (beq_iff_eq.2 HCMP.out), (Frm.drew Nowhere w).trans HX.out.frm fun _ _ h => h⟩
        · have h2i : (u1 : Int) % 2 = 1 := by omega
          have hqU : -(q : Int) - 1 = U := by rw [← HU.out, ← hun]; unfold unzz; rw [if_neg (by omega), hq]
          clear hq h2 hun
          go_wp2_with fail
          go_region_with (go_at_call 98; refine (HCALL.out _).mono ?_; rintro e wx ⟨vx, rfl, hcx⟩; have cvx := conv_str hcx.rd; have cvy := conv_str (HPRE.out.keep ((Frm.drew Nowhere w).trans hcx.frm fun _ _ h => h) fun _ _ h => h); have HX := Lib.hid hcx; clear hcx)
          all_goals
            go_wp2
            go_ret3
            exact ⟨tk_ret HKM.out (beq_iff_eq.2 HCMP.out), (Frm.drew Nowhere w).trans HX.out.frm fun _ _ h => h⟩
      · have hkM : k + 1 < M := by rw [← HM.out]; exact A4.out (by omega)
        go_wp2
        go_round
        case rel => exact ⟨k + 1, hkM, by go_num, by rw [HZ.out]⟩
        case measure => simp [intOf]; omega
end Go.Proofs.YtggfoihfenlckaaGreat
/- tributaryref02.Take where no number stands. -/
namespace Go.Proofs.YtggfoihfenlckaaGreat
open Go.RowKit
set_option maxHeartbeats 3200000 in
set_option maxRecDepth 1000000 in
theorem rtake_no (v : Value) (bs : List UInt8) (w : World) (h : Rd w v bs.length (bV bs)) (hno : NoNum bs) :
    Calls Tryz.prog 150 #[v] w fun e w' => TkNo e ∧ Frm Nowhere w w' := by
  rcases h with ⟨ad, rfl, h0, _⟩ | ⟨b, off, c, rfl, hc1, hc2, hcell⟩
  · clear hno h0
    go_enter Tryz.func150, Tryz.ntmps150
    go_wp2
    go_loop [5, 10] (fun u i => u = .int .u64 0 ∧ i = .int .i64 0) (fun _ _ => 0)
    case atStart => exact ⟨rfl, rfl⟩
    case round =>
      obtain ⟨rfl, rfl⟩ := hrel
      go_wp2
      go_ret3
      exact ⟨⟨_, _, rfl⟩, Frm.refl _ _⟩
  · have hl63 : bs.length ≤ 9223372036854775807 := Nat.le_trans hc1 hc2
    have HH : Hid (Rd w (.slice (some ⟨b, off, none⟩) bs.length c) bs.length (bV bs)) := Lib.hid (.inr ⟨b, off, c, rfl, hc1, hc2, hcell⟩)
    have HNO := Lib.hid hno; clear hno
    have HC := Lib.hid hcell; clear hcell
    generalize hL : bs.length = L at *
    have HL := Lib.hid hL; clear hL
    clear hc2
    go_enter Tryz.func150, Tryz.ntmps150
    go_wp2
    go_loop [5, 10] (fun u i => ∃ (k u0 : Nat), k ≤ L ∧ i = .int .i64 k ∧ u = .int .u64 u0 ∧ u0 < 18446744073709551616) (fun _ i => L - (intOf i).toNat)
    case atStart => exact ⟨0, 0, by omega, rfl, rfl, by omega⟩
    case round =>
      obtain ⟨k, u0, hk, rfl, rfl, hu0⟩ := hrel
      have HU0 := Lib.hid hu0; clear hu0
      by_cases hkL : k < L
      · have hk' : k < bs.length := by rw [HL.out]; exact hkL
        have hcl : w.cell? ⟨b, off + k, none⟩ = some (.int .u8 (bs[k].toNat : Int)) := HC.out k _ (by simp [bV, hk'])
        generalize bs[k] = ck at *
        have hlt := ck.toNat_lt
        generalize ck.toNat = c0 at *
        by_cases hk9 : 9 < k
        · go_wp2
          go_ret3
          exact ⟨⟨_, _, rfl⟩, Frm.refl _ _⟩
        · have hmd : (c0 : Int) % 128 = ((c0 % 128 : Nat) : Int) := by omega
          have hx : c0 % 128 < 128 := Nat.mod_lt _ (by omega)
          generalize c0 % 128 = x at *
          obtain ⟨u1, hadd, hu1⟩ : ∃ u1 : Nat, IntKind.u64.wrap ((u0 : Int) + IntKind.u64.wrap ((x : Int) * 2 ^ (7 * k))) = (u1 : Int) ∧ u1 < 18446744073709551616 := by
            rw [IntKind.wrap_u64 ((u0 : Int) + _)]
            exact ⟨(((u0 : Int) + IntKind.u64.wrap ((x : Int) * 2 ^ (7 * k))) % 18446744073709551616).toNat, by omega, by omega⟩
          have HU1 := Lib.hid hu1; clear hu1
          by_cases hc : c0 < 128
          · obtain ⟨q, hq⟩ : ∃ q, u1 / 2 = q := ⟨_, rfl⟩
            have hqb : q ≤ 9223372036854775807 := by have := HU1.out; omega
            have hqi : (u1 : Int) / 2 = (q : Int) := by omega
            have hck : k + 1 ≤ c := by omega
            have hcmp : ∀ U : Int, -9223372036854775808 ≤ U → U ≤ 9223372036854775807 → ¬ numB U = bs.take (k + 1) := fun U h1 h2 e => HNO.out U (bs.drop (k + 1)) ⟨⟨h1, h2⟩, by rw [e, List.take_append_drop]⟩
            have hcall := fun U h1 h2 W => rnum U W h1 h2
            have HCALL := Lib.hid hcall; clear hcall
            have HCMP := Lib.hid hcmp; clear hcmp
            have hpre := HH.out.pre2 HL.out (k + 1) (by omega)
            have HPRE := Lib.hid hpre; clear hpre
            have cvb := conv_str (HPRE.out.keep (Frm.drew Nowhere w) fun _ _ h => h)
            have hw1 : IntKind.i64.wrap ((k : Int) + 1) = (k : Int) + 1 := IntWalk.i64_in _ (by omega)
            rcases Nat.mod_two_eq_zero_or_one u1 with h2 | h2
            · have h2i : (u1 : Int) % 2 = 0 := by omega
              obtain ⟨U, hqU⟩ : ∃ U, (q : Int) = U := ⟨_, rfl⟩
              have hU1 : -9223372036854775808 ≤ U := by omega
              have hU2 : U ≤ 9223372036854775807 := by omega
              clear hq h2
              go_wp2_with fail
              go_region_with (go_at_call 98; refine (HCALL.out U hU1 hU2 _).mono ?_; rintro e wx ⟨vx, rfl, hcx⟩; have cvx := conv_str hcx.rd; have cvy := conv_str (HPRE.out.keep ((Frm.drew Nowhere w).trans hcx.frm fun _ _ h => h) fun _ _ h => h); have HX := Lib.hid hcx; clear hcx)
              all_goals
                go_wp2
                go_ret3
                exact ⟨tk_no (beq_false_of_ne (HCMP.out U hU1 hU2)), (Frm.drew Nowhere w).trans HX.out.frm fun _ _ h => h⟩
            · have h2i : (u1 : Int) % 2 = 1 := by omega
              obtain ⟨U, hqU⟩ : ∃ U, -(q : Int) - 1 = U := ⟨_, rfl⟩
              have hU1 : -9223372036854775808 ≤ U := by omega
              have hU2 : U ≤ 9223372036854775807 := by omega
              clear hq h2
              go_wp2_with fail
              go_region_with (go_at_call 98; refine (HCALL.out U hU1 hU2 _).mono ?_; rintro e wx ⟨vx, rfl, hcx⟩; have cvx := conv_str hcx.rd; have cvy := conv_str (HPRE.out.keep ((Frm.drew Nowhere w).trans hcx.frm fun _ _ h => h) fun _ _ h => h); have HX := Lib.hid hcx; clear hcx)
              all_goals
                go_wp2
                go_ret3
                exact ⟨tk_no (beq_false_of_ne (HCMP.out U hU1 hU2)), (Frm.drew Nowhere w).trans HX.out.frm fun _ _ h => h⟩
          · go_wp2
            go_round
            case rel => exact ⟨k + 1, u1, by omega, by go_num, rfl, HU1.out⟩
            case measure => simp [intOf]; omega
      · go_wp2
        go_ret3
        exact ⟨⟨_, _, rfl⟩, Frm.refl _ _⟩
end Go.Proofs.YtggfoihfenlckaaGreat