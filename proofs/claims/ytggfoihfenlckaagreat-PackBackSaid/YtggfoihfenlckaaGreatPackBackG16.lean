/- Words for the law PackBack: Steps, Enc, Enc2, OpEnc, VecEnc, RTake, RTake2, RIn, RIText, Takes0. -/
import Derived.Test.YtggfoihfenlckaaGreatPackBackG4
import Derived.Test.YtggfoihfenlckaaGreatPackBackG5
import Derived.Test.YtggfoihfenlckaaGreatPackBackG10
import Derived.Test.YtggfoihfenlckaaGreatPackBackG13
import Derived.Test.YtggfoihfenlckaaGreatPackBackG15
import Derived.Deep.RegionWith
import Derived.Deep.RegionHeld3
set_option linter.unusedSimpArgs false
set_option linter.unusedVariables false
/- Steps of a state: there is one; the walks with it given. -/
namespace Go.Proofs.YtggfoihfenlckaaGreat
open Go.RowKit
theorem NumStep.total (st : Option (List UInt8)) (m : Int) : ∃ v st', NumStep st m v st' := by
  cases st with
  | none => exact ⟨0, none, rfl, rfl⟩
  | some bs =>
    by_cases hb : ∃ u r, Begins bs u r
    · obtain ⟨u, r, hb⟩ := hb
      by_cases hm : 0 ≤ m ∧ u ≤ m ∧ -m ≤ u
      · exact ⟨u, some r, .inl ⟨r, hb, hm.1, hm.2.1, hm.2.2, rfl⟩⟩
      · exact ⟨0, none, .inr ⟨fun u' r' hb' => by
          obtain ⟨e1, _⟩ := hb.unique hb'
          omega, rfl, rfl⟩⟩
    · exact ⟨0, none, .inr ⟨fun u r h => (hb ⟨u, r, h⟩).elim, rfl, rfl⟩⟩
theorem TextStep.total (st : Option (List UInt8)) (m : Int) : ∃ s st', TextStep st m s st' := by
  obtain ⟨n, st1, h⟩ := NumStep.total st m
  cases st1 with
  | none => exact ⟨_, none, n, none, h, rfl, rfl⟩
  | some bs =>
    by_cases hn : 0 ≤ n ∧ n ≤ bs.length
    · exact ⟨_, _, n, some bs, h, .inl ⟨hn.1, hn.2, rfl, rfl⟩⟩
    · exact ⟨_, _, n, some bs, h, .inr ⟨by omega, rfl, rfl⟩⟩
/-- What each takes is known ahead. -/
theorem inum_at (ib : Nat) (st : Option (List UInt8)) (m v : Int) (st' : Option (List UInt8)) (w : World) (h : InSt w ib st) (hs : NumStep st m v st') (hm2 : m ≤ 9223372036854775807) (hm3 : -9223372036854775808 ≤ m) :
    Calls Tryz.prog 77 #[.pointer (some ⟨ib, 0, none⟩), .int .i64 m] w fun e w' => e = .returned (.int .i64 v) ∧ InSt w' ib st' ∧ Frm (Only ib) w w' :=
  (inum_any ib st m w h hm2 hm3).mono fun e w' ⟨v', st'', he, h1, h2, h3⟩ => by
    obtain ⟨rfl, rfl⟩ := hs.det h1
    exact ⟨he, h2, h3⟩
theorem itext_at (ib : Nat) (st : Option (List UInt8)) (m : Int) (s : ByteArray) (st' : Option (List UInt8)) (w : World) (h : InSt w ib st) (hs : TextStep st m s st') (hm2 : m ≤ 9223372036854775807) (hm3 : -9223372036854775808 ≤ m) :
    Calls Tryz.prog 83 #[.pointer (some ⟨ib, 0, none⟩), .int .i64 m] w fun e w' => e = .returned (.string s) ∧ InSt w' ib st' ∧ Frm (Only ib) w w' :=
  (itext_any ib st m w h hm2 hm3).mono fun e w' ⟨v', st'', he, h1, h2, h3⟩ => by
    obtain ⟨rfl, rfl⟩ := hs.det h1
    exact ⟨he, h2, h3⟩
end Go.Proofs.YtggfoihfenlckaaGreat
/- Bytes of entries, kids, trees, contexts, of what is known; how they are read: the plain law. -/
namespace Go.Proofs.YtggfoihfenlckaaGreat
open Go.RowKit
def encE (e : Ent) : List UInt8 := numB e.dc ++ (numB e.n ++ (textB e.s ++ numB e.k))
def encEs (es : List Ent) : List UInt8 := es.flatMap encE
def encK : KidsL → List UInt8
  | .nil => []
  | .cons key es sub rest => textB key ++ ((numB es.length ++ (encEs es ++ (numB sub.len ++ encK sub))) ++ encK rest)
def encT (es : List Ent) (ks : KidsL) : List UInt8 := numB es.length ++ (encEs es ++ (numB ks.len ++ encK ks))
theorem encK_cons (key : ByteArray) (es : List Ent) (sub rest : KidsL) : encK (.cons key es sub rest) = textB key ++ (encT es sub ++ encK rest) := rfl
def encS (s : Int × Int × Int) : List UInt8 := numB s.1 ++ (numB s.2.1 ++ numB s.2.2)
def encSs (c : CtxL) : List UInt8 := c.flatMap encS
def encC (c : CtxL) : List UInt8 := numB c.length ++ encSs c
def encX (es : List Ent) (ks : KidsL) (c : CtxL) : List UInt8 := encT es ks ++ encC c
theorem textB_prefix {a b : ByteArray} {x y : List UInt8} (h : textB a ++ x = textB b ++ y) : a = b ∧ x = y := by
  unfold textB at h
  rw [List.append_assoc, List.append_assoc] at h
  obtain ⟨h1, h2⟩ := numB_prefix h
  have hl : a.data.toList.length = b.data.toList.length := by
    have ha : a.data.toList.length = a.size := Array.length_toList
    have hb : b.data.toList.length = b.size := Array.length_toList
    omega
  obtain ⟨h3, h4⟩ := List.append_inj h2 hl
  exact ⟨ByteArray.ext (Array.toList_inj.1 h3), h4⟩
theorem encE_pfx {a b : Ent} {x y : List UInt8} (h : encE a ++ x = encE b ++ y) : a = b ∧ x = y := by
  unfold encE at h
  simp only [List.append_assoc] at h
  replace h := numB_prefix h
  obtain ⟨h1, h⟩ := h
  replace h := numB_prefix h
  obtain ⟨h2, h⟩ := h
  replace h := textB_prefix h
  obtain ⟨h3, h⟩ := h
  replace h := numB_prefix h
  obtain ⟨h4, h⟩ := h
  obtain ⟨a1, a2, a3, a4⟩ := a
  obtain ⟨b1, b2, b3, b4⟩ := b
  simp only at h1 h2 h3 h4
  subst h1 h2 h3 h4
  exact ⟨rfl, h⟩
theorem encS_pfx {a b : Int × Int × Int} {x y : List UInt8} (h : encS a ++ x = encS b ++ y) : a = b ∧ x = y := by
  unfold encS at h
  simp only [List.append_assoc] at h
  replace h := numB_prefix h
  obtain ⟨h1, h⟩ := h
  replace h := numB_prefix h
  obtain ⟨h2, h⟩ := h
  replace h := numB_prefix h
  obtain ⟨h3, h⟩ := h
  obtain ⟨a1, a2, a3⟩ := a
  obtain ⟨b1, b2, b3⟩ := b
  simp only at h1 h2 h3
  subst h1 h2 h3
  exact ⟨rfl, h⟩
theorem flat_pfx {α : Type} {f : α → List UInt8} (hf : ∀ {a b : α} {x y : List UInt8}, f a ++ x = f b ++ y → a = b ∧ x = y) : ∀ {a b : List α} {x y : List UInt8}, a.length = b.length → a.flatMap f ++ x = b.flatMap f ++ y → a = b ∧ x = y
  | [], [], _, _, _, h => ⟨rfl, h⟩
  | [], _ :: _, _, _, hl, _ => by cases hl
  | _ :: _, [], _, _, hl, _ => by cases hl
  | u :: a, v :: b, x, y, hl, h => by
    simp only [List.flatMap_cons, List.append_assoc] at h
    replace h := hf h
    obtain ⟨rfl, h⟩ := h
    replace h := flat_pfx hf (by simpa using hl) h
    obtain ⟨rfl, h⟩ := h
    exact ⟨rfl, h⟩
theorem encEs_pfx {a b : List Ent} {x y : List UInt8} (hl : a.length = b.length) (h : encEs a ++ x = encEs b ++ y) : a = b ∧ x = y := flat_pfx encE_pfx hl h
theorem encSs_pfx {a b : CtxL} {x y : List UInt8} (hl : a.length = b.length) (h : encSs a ++ x = encSs b ++ y) : a = b ∧ x = y := flat_pfx encS_pfx hl h
theorem encK_pfx : ∀ {a b : KidsL} {x y : List UInt8}, a.len = b.len → encK a ++ x = encK b ++ y → a = b ∧ x = y
  | .nil, .nil, _, _, _, h => ⟨rfl, h⟩
  | .nil, .cons _ _ _ _, _, _, hl, _ => by cases hl
  | .cons _ _ _ _, .nil, _, _, hl, _ => by cases hl
  | .cons key es sub rest, .cons key' es' sub' rest', x, y, hl, h => by
    simp only [encK, List.append_assoc] at h
    replace h := textB_prefix h
    obtain ⟨rfl, h⟩ := h
    replace h := numB_prefix h
    obtain ⟨h1, h⟩ := h
    replace h := encEs_pfx (by omega) h
    obtain ⟨rfl, h⟩ := h
    replace h := numB_prefix h
    obtain ⟨h2, h⟩ := h
    replace h := encK_pfx (by omega) h
    obtain ⟨rfl, h⟩ := h
    replace h := encK_pfx (by simpa [KidsL.len] using hl) h
    obtain ⟨rfl, h⟩ := h
    exact ⟨rfl, h⟩
theorem encT_pfx {a b : List Ent} {ka kb : KidsL} {x y : List UInt8} (h : encT a ka ++ x = encT b kb ++ y) : (a = b ∧ ka = kb) ∧ x = y := by
  unfold encT at h
  simp only [List.append_assoc] at h
  replace h := numB_prefix h
  obtain ⟨h1, h⟩ := h
  replace h := encEs_pfx (by omega) h
  obtain ⟨rfl, h⟩ := h
  replace h := numB_prefix h
  obtain ⟨h2, h⟩ := h
  replace h := encK_pfx (by omega) h
  obtain ⟨rfl, h⟩ := h
  exact ⟨⟨rfl, rfl⟩, h⟩
theorem encC_pfx {a b : CtxL} {x y : List UInt8} (h : encC a ++ x = encC b ++ y) : a = b ∧ x = y := by
  unfold encC at h
  simp only [List.append_assoc] at h
  replace h := numB_prefix h
  obtain ⟨h1, h⟩ := h
  exact encSs_pfx (by omega) h
theorem encX_pfx {a b : List Ent} {ka kb : KidsL} {c d : CtxL} {x y : List UInt8} (h : encX a ka c ++ x = encX b kb d ++ y) : ((a = b ∧ ka = kb) ∧ c = d) ∧ x = y := by
  unfold encX at h
  simp only [List.append_assoc] at h
  replace h := encT_pfx h
  obtain ⟨h1, h⟩ := h
  obtain ⟨h2, h⟩ := encC_pfx h
  exact ⟨⟨h1, h2⟩, h⟩
/- ### lengths -/
theorem encE_pos (e : Ent) : 1 ≤ (encE e).length := by
  have := numB_pos e.dc
  unfold encE
  rw [List.length_append]; omega
theorem encS_pos (s : Int × Int × Int) : 1 ≤ (encS s).length := by
  have := numB_pos s.1
  unfold encS
  rw [List.length_append]; omega
theorem flat_pos {α : Type} {f : α → List UInt8} (hf : ∀ a, 1 ≤ (f a).length) : ∀ l : List α, l.length ≤ (l.flatMap f).length
  | [] => Nat.le_refl _
  | a :: l => by
    have := flat_pos hf l
    have := hf a
    rw [List.flatMap_cons, List.length_append, List.length_cons]; omega
theorem textB_pos (s : ByteArray) : 1 ≤ (textB s).length := by
  have := numB_pos s.size
  unfold textB
  rw [List.length_append]; omega
theorem encK_pos : ∀ ks : KidsL, ks.len ≤ (encK ks).length
  | .nil => Nat.le_refl _
  | .cons key es sub rest => by
    have := encK_pos rest
    have := textB_pos key
    rw [encK_cons]
    simp only [List.length_append, KidsL.len]; omega
theorem flat_le {α : Type} {f : α → List UInt8} {m : Nat} : ∀ {l : List α}, (∀ a ∈ l, (f a).length ≤ m) → (l.flatMap f).length ≤ m * l.length
  | [], _ => by simp
  | a :: l, h => by
    have h1 := h a List.mem_cons_self
    have h2 := flat_le fun x hx => h x (List.mem_cons_of_mem _ hx)
    rw [List.flatMap_cons, List.length_append, List.length_cons, Nat.mul_succ]; omega
/- ### what a number, a text, an entry may be -/
structure Lim where
  dc : Int
  n : Int
  s : Int
  k : Int
structure Lim.Ok (B : Lim) : Prop where
  dc : 0 ≤ B.dc ∧ B.dc ≤ 9223372036854775807
  n : 0 ≤ B.n ∧ B.n ≤ 9223372036854775807
  s : 0 ≤ B.s ∧ B.s ≤ 9223372036854775807
  k : 0 ≤ B.k ∧ B.k ≤ 9223372036854775807
/-- The program's bounds; the document's. -/
def bdP : Lim := ⟨4, 1099511627776, 30, 1099511627776⟩
theorem bdP_ok : bdP.Ok := ⟨by decide, by decide, by decide, by decide⟩
structure Ent.bd (B : Lim) (e : Ent) : Prop where
  dc : -B.dc ≤ e.dc ∧ e.dc ≤ B.dc
  n : -B.n ≤ e.n ∧ e.n ≤ B.n
  s : (e.s.size : Int) ≤ B.s
  k : -B.k ≤ e.k ∧ e.k ≤ B.k
def KidsL.bd (B : Lim) : KidsL → Prop
  | .nil => True
  | .cons key es sub rest => (key.size : Int) ≤ B.s ∧ (∀ e ∈ es, e.bd B) ∧ sub.bd B ∧ rest.bd B
theorem KidsL.bd.drop {B : Lim} : ∀ (n : Nat) {ks : KidsL}, ks.bd B → (ks.drop n).bd B
  | 0, _, h => h
  | _ + 1, .nil, _ => trivial
  | n + 1, .cons _ _ _ _, h => KidsL.bd.drop n h.2.2.2
theorem deepK_drop : ∀ (n : Nat) (ks : KidsL), deepK (ks.drop n) ≤ deepK ks
  | 0, _ => Nat.le_refl _
  | _ + 1, .nil => Nat.le_refl _
  | n + 1, .cons _ _ _ r => Nat.le_trans (deepK_drop n r) (Nat.le_max_right _ _)
/- ### steps -/
theorem num_good {st : Option (List UInt8)} {m v : Int} {r : List UInt8} (h : NumStep st m v (some r)) : st = some (numB v ++ r) ∧ inR v ∧ -m ≤ v ∧ v ≤ m := by
  cases st with
  | none => cases h.2
  | some bs =>
    rcases h with ⟨r', h1, h2, h3, h4, h5⟩ | ⟨_, _, h3⟩
    · injection h5 with h5; subst h5
      exact ⟨by rw [h1.2], h1.1, h4, h3⟩
    · cases h3
theorem num_make {m v : Int} (r : List UInt8) (hv : -m ≤ v ∧ v ≤ m) (hm : m ≤ 9223372036854775807) : NumStep (some (numB v ++ r)) m v (some r) :=
  .inl ⟨r, ⟨⟨by omega, by omega⟩, rfl⟩, by omega, hv.2, hv.1, rfl⟩
theorem num_in {st st' : Option (List UInt8)} {m v : Int} (h : NumStep st m v st') : inR v := by
  cases st with
  | none => rw [h.1]; exact ⟨by omega, by omega⟩
  | some bs =>
    rcases h with ⟨r', h1, _⟩ | ⟨_, h2, _⟩
    · exact h1.1
    · rw [h2]; exact ⟨by omega, by omega⟩
theorem text_good {st : Option (List UInt8)} {m : Int} {s : ByteArray} {r : List UInt8} (h : TextStep st m s (some r)) : st = some (textB s ++ r) ∧ (s.size : Int) ≤ m := by
  obtain ⟨n, st1, h1, h2⟩ := h
  cases st1 with
  | none => cases h2.2
  | some b1 =>
    obtain ⟨rfl, _, h3, h4⟩ := num_good h1
    rcases h2 with ⟨a, b, c, d⟩ | ⟨_, _, d⟩
    · injection d with d
      subst c d
      have hsz : ((⟨(b1.take n.toNat).toArray⟩ : ByteArray).size : Int) = n := by
        show (((b1.take n.toNat).toArray).size : Int) = n
        rw [List.size_toArray, List.length_take]; omega
      refine ⟨?_, by rw [hsz]; exact h4⟩
      unfold textB
      rw [hsz, List.append_assoc]
      show _ = some (numB n ++ ((b1.take n.toNat).toArray.toList ++ _))
      rw [List.toList_toArray, List.take_append_drop]
    · cases d
theorem text_make {m : Int} {s : ByteArray} (r : List UInt8) (hs : (s.size : Int) ≤ m) (hm : m ≤ 9223372036854775807) : TextStep (some (textB s ++ r)) m s (some r) := by
  have hl : s.data.toList.length = s.size := Array.length_toList
  refine ⟨s.size, some (s.data.toList ++ r), ?_, .inl ⟨by omega, by rw [List.length_append]; omega, ?_, ?_⟩⟩
  · unfold textB
    rw [List.append_assoc]
    exact num_make _ ⟨by omega, hs⟩ hm
  · rw [Int.toNat_natCast, ← hl, List.take_left]
  · rw [Int.toNat_natCast, ← hl, List.drop_left]
def EntStep (B : Lim) (s0 : Option (List UInt8)) (e : Ent) (s4 : Option (List UInt8)) : Prop :=
  ∃ s1 s2 s3, NumStep s0 B.dc e.dc s1 ∧ NumStep s1 B.n e.n s2 ∧ TextStep s2 B.s e.s s3 ∧ NumStep s3 B.k e.k s4
theorem EntStep.det {B : Lim} {s t t' : Option (List UInt8)} {a b : Ent} (h : EntStep B s a t) (k : EntStep B s b t') : a = b ∧ t = t' := by
  obtain ⟨s1, s2, s3, h1, h2, h3, h4⟩ := h
  obtain ⟨q1, q2, q3, k1, k2, k3, k4⟩ := k
  obtain ⟨a1, rfl⟩ := h1.det k1
  obtain ⟨a2, rfl⟩ := h2.det k2
  obtain ⟨a3, rfl⟩ := h3.det k3
  obtain ⟨a4, rfl⟩ := h4.det k4
  obtain ⟨x1, x2, x3, x4⟩ := a
  obtain ⟨y1, y2, y3, y4⟩ := b
  simp only at a1 a2 a3 a4
  subst a1 a2 a3 a4
  exact ⟨rfl, rfl⟩
theorem EntStep.good {B : Lim} {s : Option (List UInt8)} {e : Ent} {r : List UInt8} (h : EntStep B s e (some r)) : s = some (encE e ++ r) ∧ e.bd B := by
  obtain ⟨s1, s2, s3, h1, h2, h3, h4⟩ := h
  obtain ⟨rfl, _, b4⟩ := num_good h4
  obtain ⟨rfl, b3⟩ := text_good h3
  obtain ⟨rfl, _, b2⟩ := num_good h2
  obtain ⟨rfl, _, b1⟩ := num_good h1
  exact ⟨by unfold encE; simp only [List.append_assoc], b1, b2, b3, b4⟩
theorem EntStep.make {B : Lim} (hB : B.Ok) {e : Ent} (r : List UInt8) (h : e.bd B) : EntStep B (some (encE e ++ r)) e (some r) := by
  refine ⟨_, _, _, ?_, num_make _ h.n hB.n.2, text_make _ h.s hB.s.2, num_make _ h.k hB.k.2⟩
  have := num_make (numB e.n ++ (textB e.s ++ (numB e.k ++ r))) h.dc hB.dc.2
  unfold encE
  simp only [List.append_assoc]
  exact this
/-- So many things, one behind the other, each taken by a step R. -/
inductive Run {α : Type} (R : Option (List UInt8) → α → Option (List UInt8) → Prop) (st : Option (List UInt8)) : Nat → List α → Option (List UInt8) → Prop
  | zero : Run R st 0 [] st
  | snoc {k : Nat} {es : List α} {s t : Option (List UInt8)} {e : α} : Run R st k es s → R s e t → Run R st (k + 1) (es ++ [e]) t
section
variable {α : Type} {R : Option (List UInt8) → α → Option (List UInt8) → Prop}
theorem Run.len {st t : Option (List UInt8)} {k : Nat} {es : List α} (h : Run R st k es t) : es.length = k := by
  induction h with
  | zero => rfl
  | snoc _ _ ih => rw [List.length_append, ih]; rfl
theorem Run.all {P : α → Prop} (hP : ∀ {s e t}, R s e t → P e) {st t : Option (List UInt8)} {k : Nat} {es : List α} (h : Run R st k es t) : ∀ e ∈ es, P e := by
  induction h with
  | zero => intro e he; cases he
  | snoc _ h2 ih =>
    intro e he
    rcases List.mem_append.1 he with he | he
    · exact ih e he
    · rw [List.mem_singleton] at he; subst he; exact hP h2
theorem Run.det (hR : ∀ {s a b t t'}, R s a t → R s b t' → a = b ∧ t = t') {st t : Option (List UInt8)} {k : Nat} {es : List α} (h : Run R st k es t) : ∀ {es' : List α} {t' : Option (List UInt8)}, Run R st k es' t' → es = es' ∧ t = t' := by
  induction h with
  | zero => intro es' t' h'; cases h'; exact ⟨rfl, rfl⟩
  | snoc h1 h2 ih =>
    intro es' t' h'
    cases h' with
    | snoc k1 k2 =>
      obtain ⟨rfl, rfl⟩ := ih k1
      obtain ⟨rfl, rfl⟩ := hR h2 k2
      exact ⟨rfl, rfl⟩
theorem Run.good {f : α → List UInt8} {P : α → Prop} (hR : ∀ {s e r}, R s e (some r) → s = some (f e ++ r) ∧ P e) {st t : Option (List UInt8)} {k : Nat} {es : List α} (h : Run R st k es t) : ∀ {r : List UInt8}, t = some r → st = some (es.flatMap f ++ r) ∧ ∀ e ∈ es, P e := by
  induction h with
  | zero => intro r hr; exact ⟨hr, fun e he => by cases he⟩
  | snoc _ h2 ih =>
    intro r hr
    subst hr
    obtain ⟨h3, h4⟩ := hR h2
    obtain ⟨h5, h6⟩ := ih h3
    refine ⟨by rw [h5]; simp, fun e he => ?_⟩
    rcases List.mem_append.1 he with he | he
    · exact h6 e he
    · rw [List.mem_singleton] at he; subst he; exact h4
theorem Run.make {f : α → List UInt8} {P : α → Prop} (hR : ∀ {e} (r : List UInt8), P e → R (some (f e ++ r)) e (some r)) {es : List α} (r : List UInt8) (h : ∀ e ∈ es, P e) : Run R (some (es.flatMap f ++ r)) es.length es (some r) := by
  have key_ : ∀ k, k ≤ es.length → Run R (some (es.flatMap f ++ r)) k (es.take k) (some ((es.drop k).flatMap f ++ r)) := by
    intro k
    induction k with
    | zero => intro _; rw [List.take_zero, List.drop_zero]; exact .zero
    | succ k ih =>
      intro hk
      have hs := List.drop_eq_getElem_cons (l := es) (i := k) (by omega)
      have h1 := ih (by omega)
      rw [hs, List.flatMap_cons, List.append_assoc] at h1
      rw [List.take_succ_eq_append_getElem (by omega)]
      exact .snoc h1 (hR _ (h _ (List.getElem_mem _)))
  have := key_ es.length (Nat.le_refl _)
  rw [List.take_length, List.drop_length] at this
  exact this
end
abbrev EsRun (B : Lim) := Run (EntStep B)
theorem EsRun.good {B : Lim} {st : Option (List UInt8)} {k : Nat} {es : List Ent} {r : List UInt8} (h : EsRun B st k es (some r)) : st = some (encEs es ++ r) ∧ ∀ e ∈ es, e.bd B := Run.good (fun h => EntStep.good h) h rfl
theorem EsRun.make {B : Lim} (hB : B.Ok) {es : List Ent} (r : List UInt8) (h : ∀ e ∈ es, e.bd B) : EsRun B (some (encEs es ++ r)) es.length es (some r) := Run.make (fun r h => EntStep.make hB r h) r h
/-- A span: a center, two numbers. -/
def SpStep (B : Lim) (s0 : Option (List UInt8)) (s : Int × Int × Int) (t : Option (List UInt8)) : Prop :=
  ∃ s1 s2, NumStep s0 B.dc s.1 s1 ∧ NumStep s1 B.n s.2.1 s2 ∧ NumStep s2 B.n s.2.2 t
def spBd (B : Lim) (s : Int × Int × Int) : Prop := (-B.dc ≤ s.1 ∧ s.1 ≤ B.dc) ∧ (-B.n ≤ s.2.1 ∧ s.2.1 ≤ B.n) ∧ (-B.n ≤ s.2.2 ∧ s.2.2 ≤ B.n)
theorem SpStep.det {B : Lim} {s t t' : Option (List UInt8)} {a b : Int × Int × Int} (h : SpStep B s a t) (k : SpStep B s b t') : a = b ∧ t = t' := by
  obtain ⟨s1, s2, h1, h2, h3⟩ := h
  obtain ⟨q1, q2, k1, k2, k3⟩ := k
  obtain ⟨a1, rfl⟩ := h1.det k1
  obtain ⟨a2, rfl⟩ := h2.det k2
  obtain ⟨a3, rfl⟩ := h3.det k3
  exact ⟨Prod.ext a1 (Prod.ext a2 a3), rfl⟩
theorem SpStep.good {B : Lim} {s : Option (List UInt8)} {e : Int × Int × Int} {r : List UInt8} (h : SpStep B s e (some r)) : s = some (encS e ++ r) ∧ spBd B e := by
  obtain ⟨s1, s2, h1, h2, h3⟩ := h
  obtain ⟨rfl, _, b3⟩ := num_good h3
  obtain ⟨rfl, _, b2⟩ := num_good h2
  obtain ⟨rfl, _, b1⟩ := num_good h1
  exact ⟨by unfold encS; simp only [List.append_assoc], b1, b2, b3⟩
theorem SpStep.make {B : Lim} (hB : B.Ok) {e : Int × Int × Int} (r : List UInt8) (h : spBd B e) : SpStep B (some (encS e ++ r)) e (some r) := by
  refine ⟨_, _, ?_, num_make _ h.2.1 hB.n.2, num_make _ h.2.2 hB.n.2⟩
  have := num_make (numB e.2.1 ++ (numB e.2.2 ++ r)) h.1 hB.dc.2
  unfold encS
  simp only [List.append_assoc]
  exact this
theorem SpStep.fits {B : Lim} {s t : Option (List UInt8)} {e : Int × Int × Int} (h : SpStep B s e t) : inR e.1 ∧ inR e.2.1 ∧ inR e.2.2 := by
  obtain ⟨s1, s2, h1, h2, h3⟩ := h
  exact ⟨num_in h1, num_in h2, num_in h3⟩
abbrev SpRun (B : Lim) := Run (SpStep B)
theorem SpRun.good {B : Lim} {st : Option (List UInt8)} {k : Nat} {c : CtxL} {r : List UInt8} (h : SpRun B st k c (some r)) : st = some (encSs c ++ r) ∧ ∀ e ∈ c, spBd B e := Run.good (fun h => SpStep.good h) h rfl
theorem SpRun.make {B : Lim} (hB : B.Ok) {c : CtxL} (r : List UInt8) (h : ∀ e ∈ c, spBd B e) : SpRun B (some (encSs c ++ r)) c.length c (some r) := Run.make (fun r h => SpStep.make hB r h) r h
/-- How many there are: no more than bytes are left. -/
def CntStep (st : Option (List UInt8)) (m : Int) (n : Nat) (st' : Option (List UInt8)) : Prop :=
  ∃ (v : Int) (s1 : Option (List UInt8)), NumStep st m v s1 ∧ match s1 with
    | none => n = 0 ∧ st' = none
    | some r => (0 ≤ v ∧ v ≤ r.length ∧ n = v.toNat ∧ st' = some r) ∨ ((v < 0 ∨ (r.length : Int) < v) ∧ n = 0 ∧ st' = none)
theorem CntStep.det {st s t : Option (List UInt8)} {m : Int} {a b : Nat} (h : CntStep st m a s) (k : CntStep st m b t) : a = b ∧ s = t := by
  obtain ⟨n, st1, h1, h2⟩ := h
  obtain ⟨n', st1', k1, k2⟩ := k
  obtain ⟨rfl, rfl⟩ := h1.det k1
  cases st1 with
  | none => exact ⟨h2.1.trans k2.1.symm, h2.2.trans k2.2.symm⟩
  | some bs =>
    rcases h2 with ⟨a, b, c, d⟩ | ⟨a, c, d⟩ <;> rcases k2 with ⟨a', b', c', d'⟩ | ⟨a', c', d'⟩
    · exact ⟨c.trans c'.symm, d.trans d'.symm⟩
    · omega
    · omega
    · exact ⟨c.trans c'.symm, d.trans d'.symm⟩
theorem CntStep.good {st : Option (List UInt8)} {m : Int} {n : Nat} {r : List UInt8} (h : CntStep st m n (some r)) : st = some (numB n ++ r) ∧ n ≤ r.length ∧ (n : Int) ≤ m := by
  obtain ⟨v, s1, h1, h2⟩ := h
  cases s1 with
  | none => cases h2.2
  | some q =>
    rcases h2 with ⟨a, b, c, d⟩ | ⟨_, _, d⟩
    · injection d with d
      subst d
      obtain ⟨rfl, _, h3, h4⟩ := num_good h1
      have e : (n : Int) = v := by omega
      exact ⟨by rw [e], by omega, by omega⟩
    · cases d
theorem CntStep.make {m : Int} {n : Nat} {r : List UInt8} (h1 : n ≤ r.length) (h2 : (n : Int) ≤ m) (hm : m ≤ 9223372036854775807) : CntStep (some (numB n ++ r)) m n (some r) :=
  ⟨n, some r, num_make r ⟨by omega, h2⟩ hm, .inl ⟨by omega, by omega, by omega, rfl⟩⟩
theorem CntStep.none_ {m : Int} {n : Nat} {st' : Option (List UInt8)} (h : CntStep none m n st') : n = 0 ∧ st' = none := by
  obtain ⟨v, s1, h1, h2⟩ := h
  obtain ⟨_, rfl⟩ := h1
  exact h2
end Go.Proofs.YtggfoihfenlckaaGreat
/- What bytes tell: a tree, a context, what is known: the plain law. -/
namespace Go.Proofs.YtggfoihfenlckaaGreat
open Go.RowKit
/-- Bytes begin with a tree within bounds. -/
structure GetOk (B : Lim) (d : Nat) (bs : List UInt8) (es : List Ent) (ks : KidsL) (rest : List UInt8) : Prop where
  eq : bs = encT es ks ++ rest
  ebd : ∀ e ∈ es, e.bd B
  kbd : ks.bd B
  deep : deepK ks + 1 ≤ d
/-- Bytes begin with so many kids. -/
structure KsOk (B : Lim) (d : Nat) (bs : List UInt8) (m : Nat) (ks : KidsL) (rest : List UInt8) : Prop where
  eq : bs = encK ks ++ rest
  len : ks.len = m
  kbd : ks.bd B
  deep : deepK ks ≤ d
/-- What taking a tree answers. -/
def GetRes (B : Lim) (d : Nat) (st : Option (List UInt8)) (es : List Ent) (ks : KidsL) (s : Option (List UInt8)) : Prop :=
  (∃ bs rest, st = some bs ∧ s = some rest ∧ GetOk B d bs es ks rest) ∨ (s = none ∧ ∀ bs es ks rest, st = some bs → ¬ GetOk B d bs es ks rest)
theorem encK_app : ∀ (l : List KidQ) (r : KidsL), encK (appK l r) = encK (mkK l) ++ encK r
  | [], _ => rfl
  | q :: l, r => by
    show encK (.cons q.key q.es q.sub (appK l r)) = encK (.cons q.key q.es q.sub (mkK l)) ++ _
    rw [encK_cons, encK_cons, encK_app l r]
    simp only [List.append_assoc]
theorem appK_bd {B : Lim} : ∀ {l : List KidQ} {r : KidsL}, (mkK l).bd B → r.bd B → (appK l r).bd B
  | [], _, _, h => h
  | q :: l, r, h, k => ⟨h.1, h.2.1, h.2.2.1, appK_bd (l := l) h.2.2.2 k⟩
theorem appK_deep {d : Nat} : ∀ {l : List KidQ} {r : KidsL}, deepK (mkK l) ≤ d → deepK r ≤ d → deepK (appK l r) ≤ d
  | [], _, _, h => h
  | q :: l, r, h, k => by
    have h : max (1 + deepK q.sub) (deepK (mkK l)) ≤ d := h
    have := appK_deep (l := l) (r := r) (d := d) (by omega) k
    show max (1 + deepK q.sub) (deepK (appK l r)) ≤ d
    omega
def KidsL.takeQ : Nat → KidsL → List KidQ
  | 0, _ => []
  | _ + 1, .nil => []
  | n + 1, .cons key es sub rest => ⟨key, es, sub, .slice none 0 0, .slice none 0 0⟩ :: KidsL.takeQ n rest
theorem KidsL.take_drop : ∀ (n : Nat) (ks : KidsL), ks = appK (ks.takeQ n) (ks.drop n)
  | 0, _ => rfl
  | _ + 1, .nil => rfl
  | n + 1, .cons key es sub rest => by
    show _ = KidsL.cons key es sub (appK (rest.takeQ n) (rest.drop n))
    rw [← KidsL.take_drop n rest]
theorem KidsL.takeQ_len : ∀ (n : Nat) (ks : KidsL), n ≤ ks.len → (ks.takeQ n).length = n
  | 0, _, _ => rfl
  | _ + 1, .nil, h => by cases h
  | n + 1, .cons _ _ _ rest, h => by
    show (rest.takeQ n).length + 1 = n + 1
    rw [KidsL.takeQ_len n rest (by have h : n + 1 ≤ rest.len + 1 := h; omega)]
/-- The kid that stands next. -/
theorem KsOk.next {B : Lim} {d m : Nat} {b3 r rest : List UInt8} {ks : KidsL} {l : List KidQ} (h : KsOk B d b3 m ks rest) (hb : b3 = encK (mkK l) ++ r) (hk : l.length < m) :
    ∃ key es sub q, r = textB key ++ (encT es sub ++ q) ∧ (key.size : Int) ≤ B.s ∧ GetOk B d (encT es sub ++ q) es sub q := by
  have hlen := h.len
  obtain ⟨key, es, sub, rst, hd⟩ := KidsL.drop_some (n := l.length) (ks := ks) (by omega)
  have hq : (ks.takeQ l.length).length = l.length := KidsL.takeQ_len _ _ (by omega)
  have he := h.eq
  rw [KidsL.take_drop l.length ks, encK_app, hb, List.append_assoc] at he
  obtain ⟨_, hr⟩ := encK_pfx (by rw [mkK_len, mkK_len, hq]) he
  rw [hd, encK_cons] at hr
  have hbd := h.kbd.drop l.length
  rw [hd] at hbd
  have hdp := deepK_drop l.length ks
  rw [hd] at hdp
  have hdp : max (1 + deepK sub) (deepK rst) ≤ deepK ks := hdp
  have := h.deep
  exact ⟨key, es, sub, encK rst ++ rest, by rw [hr]; simp only [List.append_assoc], hbd.1, rfl, hbd.2.1, hbd.2.2.1, by omega⟩
structure KGood (B : Lim) (d : Nat) (b3 : List UInt8) (l : List KidQ) (r : List UInt8) : Prop where
  eq : b3 = encK (mkK l) ++ r
  bd : (mkK l).bd B
  deep : deepK (mkK l) ≤ d
/-- What the loop over kids bears. -/
def KInv (B : Lim) (d : Nat) (s3 : Option (List UInt8)) (m : Nat) (l : List KidQ) (s : Option (List UInt8)) : Prop :=
  (∃ b3 r, s3 = some b3 ∧ s = some r ∧ KGood B d b3 l r) ∨ (s = none ∧ ∀ b3 ks rest, s3 = some b3 → ¬ KsOk B d b3 m ks rest)
theorem KInv.start (B : Lim) (d : Nat) (s3 : Option (List UInt8)) (m : Nat) : KInv B d s3 m [] s3 := by
  cases s3 with
  | none => exact .inr ⟨rfl, fun _ _ _ h => by cases h⟩
  | some b => exact .inl ⟨b, b, rfl, rfl, rfl, trivial, Nat.zero_le _⟩
theorem KInv.good {B : Lim} {d m : Nat} {s3 : Option (List UInt8)} {l : List KidQ} {r : List UInt8} (h : KInv B d s3 m l (some r)) : ∃ b3, s3 = some b3 ∧ KGood B d b3 l r := by
  rcases h with ⟨b3, r', h1, h2, h3⟩ | ⟨h1, _⟩
  · injection h2 with h2; subst h2; exact ⟨b3, h1, h3⟩
  · cases h1
theorem KInv.step {B : Lim} {d m : Nat} {s3 t1 t2 : Option (List UInt8)} {l : List KidQ} {r : List UInt8} (h : KInv B d s3 m l (some r)) (hB : B.Ok) (hk : l.length < m) {q : KidQ}
    (ht : TextStep (some r) B.s q.key t1) (hg : GetRes B d t1 q.es q.sub t2) : KInv B d s3 m (l ++ [q]) t2 := by
  obtain ⟨b3, rfl, hb⟩ := h.good
  cases t2 with
  | some r2 =>
    rcases hg with ⟨bs, rest, rfl, hr, hg⟩ | ⟨hg, _⟩
    · injection hr with hr; subst hr
      obtain ⟨hr, hs⟩ := text_good ht
      injection hr with hr
      refine .inl ⟨b3, r2, rfl, rfl, ?_, ?_, ?_⟩
      · show b3 = encK (appK (l ++ [q]) .nil) ++ r2
        rw [appK_snoc, encK_app, encK_cons, hb.eq, hr, hg.eq]
        simp only [List.append_assoc, encK, List.nil_append]
      · show (appK (l ++ [q]) .nil).bd B
        rw [appK_snoc]
        exact appK_bd hb.bd ⟨hs, hg.ebd, hg.kbd, trivial⟩
      · show deepK (appK (l ++ [q]) .nil) ≤ d
        rw [appK_snoc]
        have := hg.deep
        exact appK_deep hb.deep (by show max (1 + deepK q.sub) 0 ≤ d; omega)
    · cases hg
  | none =>
    refine .inr ⟨rfl, fun b ks rest hb3 hks => ?_⟩
    injection hb3 with hb3; subst hb3
    obtain ⟨key, es, sub, x, hr, hs, hgk⟩ := hks.next hb.eq hk
    subst hr
    obtain ⟨_, rfl⟩ := ht.det (text_make _ hs hB.s.2)
    rcases hg with ⟨_, _, _, hg, _⟩ | ⟨_, hg⟩
    · cases hg
    · exact hg _ _ _ _ rfl hgk
theorem encT_ge (es : List Ent) (ks : KidsL) : es.length ≤ (encEs es).length ∧ ks.len ≤ (encK ks).length := ⟨flat_pos encE_pos es, encK_pos ks⟩
/-- What was taken of a tree's parts tells the tree. -/
theorem get_parts {B : Lim} (hB : B.Ok) {M : Int} (hM : M ≤ 9223372036854775807) {d n m : Nat} {st s1 s2 s3 : Option (List UInt8)} {es : List Ent} (hl : ((leftOf st).length : Int) ≤ M) (h1 : CntStep st M n s1) (h2 : EsRun B s1 n es s2) (h3 : CntStep s2 M m s3)
    {bs : List UInt8} {es' : List Ent} {ks' : KidsL} {rest : List UInt8} (hs : st = some bs) (hg : GetOk B (d + 1) bs es' ks' rest) : es' = es ∧ ∃ b3, s3 = some b3 ∧ KsOk B d b3 m ks' rest := by
  subst hs
  have he := hg.eq
  unfold encT at he
  simp only [List.append_assoc] at he
  subst he
  have hge := encT_ge es' ks'
  have hl : ((numB es'.length ++ (encEs es' ++ (numB ks'.len ++ (encK ks' ++ rest)))).length : Int) ≤ M := hl
  simp only [List.length_append] at hl
  obtain ⟨rfl, rfl⟩ := h1.det (CntStep.make (by simp only [List.length_append]; omega) (by omega) hM)
  obtain ⟨rfl, rfl⟩ := Run.det (R := EntStep B) (fun h k => EntStep.det h k) h2 (EsRun.make hB _ hg.ebd)
  obtain ⟨rfl, rfl⟩ := h3.det (CntStep.make (by simp only [List.length_append]; omega) (by omega) hM)
  have := hg.deep
  exact ⟨rfl, _, rfl, rfl, rfl, hg.kbd, by omega⟩
theorem get_done {B : Lim} (hB : B.Ok) {M : Int} (hM : M ≤ 9223372036854775807) {d n m : Nat} {st s1 s2 s3 s : Option (List UInt8)} {es : List Ent} {l : List KidQ} (hl : ((leftOf st).length : Int) ≤ M) (h1 : CntStep st M n s1) (h2 : EsRun B s1 n es s2) (h3 : CntStep s2 M m s3)
    (hk : KInv B d s3 m l s) (hm : l.length = m) : GetRes B (d + 1) st es (mkK l) s := by
  cases s with
  | some r =>
    obtain ⟨b3, rfl, hb⟩ := hk.good
    obtain ⟨rfl, _, _⟩ := h3.good
    obtain ⟨rfl, hes⟩ := h2.good
    obtain ⟨rfl, _, _⟩ := h1.good
    have hd := hb.deep
    refine .inl ⟨_, r, rfl, rfl, ?_, hes, hb.bd, by omega⟩
    unfold encT
    rw [hb.eq, h2.len, mkK_len, hm]
    simp only [List.append_assoc]
  | none =>
    refine .inr ⟨rfl, fun bs es' ks' rest hs hg => ?_⟩
    obtain ⟨_, b3, h4, h5⟩ := get_parts hB hM hl h1 h2 h3 hs hg
    rcases hk with ⟨_, _, _, h6, _⟩ | ⟨_, h6⟩
    · cases h6
    · exact h6 _ _ _ h4 h5
theorem get_early {B : Lim} (hB : B.Ok) {M : Int} (hM : M ≤ 9223372036854775807) {d n m : Nat} {st s1 s2 s3 : Option (List UInt8)} {es : List Ent} {l : List KidQ} (hl : ((leftOf st).length : Int) ≤ M) (h1 : CntStep st M n s1) (h2 : EsRun B s1 n es s2) (h3 : CntStep s2 M m s3)
    (hk : KInv B d s3 m l none) (es' : List Ent) (ks' : KidsL) : GetRes B (d + 1) st es' ks' none := by
  refine .inr ⟨rfl, fun bs es' ks' rest hs hg => ?_⟩
  obtain ⟨_, b3, h4, h5⟩ := get_parts hB hM hl h1 h2 h3 hs hg
  rcases hk with ⟨_, _, _, h6, _⟩ | ⟨_, h6⟩
  · cases h6
  · exact h6 _ _ _ h4 h5
theorem get_zero (B : Lim) (st : Option (List UInt8)) (es : List Ent) (ks : KidsL) : GetRes B 0 st es ks none := .inr ⟨rfl, fun _ _ _ _ _ h => by have := h.deep; omega⟩
/- ### what may be is within bounds -/
theorem entB_bd {e : Ent} (h : entB e = true) : e.bd bdP := by
  unfold entB dotB at h
  simp only [Bool.and_eq_true, decide_eq_true_eq] at h
  obtain ⟨⟨h1, h2, h3, h4⟩, h5, h6, h7⟩ := h
  exact ⟨by simp only [bdP]; omega, by simp only [bdP]; omega, by simp only [bdP]; omega, by simp only [bdP]; omega⟩
theorem rightEs_bd : ∀ {p : Option Ent} {es : List Ent}, rightEs p es = true → ∀ e ∈ es, e.bd bdP
  | _, [], _, e, he => by cases he
  | p, x :: es, h, e, he => by
    simp only [rightEs, Bool.and_eq_true] at h
    rcases List.mem_cons.1 he with rfl | he
    · exact entB_bd h.1.1
    · exact rightEs_bd h.2 e he
theorem rightKs_bd : ∀ {ks : KidsL} {d : Nat} {p : Option ByteArray}, rightKs ks d p = true → ks.bd bdP ∧ deepK ks ≤ d
  | .nil, _, _, _ => ⟨trivial, Nat.zero_le _⟩
  | .cons key es sub rest, d, p, h => by
    simp only [rightKs, Bool.and_eq_true, decide_eq_true_eq] at h
    obtain ⟨⟨⟨⟨h1, _⟩, _⟩, ⟨h2, h3⟩, h4⟩, h5⟩ := h
    obtain ⟨g1, g2⟩ := rightKs_bd h4
    obtain ⟨g3, g4⟩ := rightKs_bd h5
    unfold keyB at h1
    simp only [decide_eq_true_eq] at h1
    exact ⟨⟨by simp only [bdP]; omega, rightEs_bd h3, g1, g3⟩, by show max (1 + deepK sub) (deepK rest) ≤ d; omega⟩
/-- The bounds that something right is within. -/
def Wide (B : Lim) : Prop := (∀ e : Ent, e.bd bdP → e.bd B) ∧ (∀ ks : KidsL, ks.bd bdP → ks.bd B) ∧ ∀ s, spBd bdP s → spBd B s
theorem wideP : Wide bdP := ⟨fun _ h => h, fun _ h => h, fun _ h => h⟩
theorem right_ok {B : Lim} (hW : Wide B) {es : List Ent} {ks : KidsL} {rest : List UInt8} (h : rightT 5 es ks = true) : GetOk B 5 (encT es ks ++ rest) es ks rest := by
  unfold rightT at h
  simp only [Bool.and_eq_true, decide_eq_true_eq] at h
  obtain ⟨⟨_, h1⟩, h2⟩ := h
  obtain ⟨g1, g2⟩ := rightKs_bd h2
  exact ⟨rfl, fun e he => hW.1 e (rightEs_bd h1 e he), hW.2.1 ks g1, by omega⟩
/-- What taking a right tree answers. -/
def TreeRes (st : Option (List UInt8)) (es : List Ent) (ks : KidsL) (s : Option (List UInt8)) : Prop :=
  (∃ rest, st = some (encT es ks ++ rest) ∧ rightT 5 es ks = true ∧ s = some rest) ∨ (s = none ∧ es = [] ∧ ks = .nil ∧ ∀ es ks rest, st = some (encT es ks ++ rest) → rightT 5 es ks = false)
theorem tree_good {B : Lim} {st : Option (List UInt8)} {es : List Ent} {ks : KidsL} {rest : List UInt8} (h : GetRes B 5 st es ks (some rest)) (hr : rightT 5 es ks = true) : TreeRes st es ks (some rest) := by
  rcases h with ⟨bs, r, rfl, h2, h3⟩ | ⟨h, _⟩
  · injection h2 with h2; subst h2
    exact .inl ⟨rest, by rw [h3.eq], hr, rfl⟩
  · cases h
theorem tree_wrong {B : Lim} {st : Option (List UInt8)} {es : List Ent} {ks : KidsL} {rest : List UInt8} (h : GetRes B 5 st es ks (some rest)) (hr : rightT 5 es ks = false) : TreeRes st [] .nil none := by
  rcases h with ⟨bs, r, rfl, h2, h3⟩ | ⟨h, _⟩
  · refine .inr ⟨rfl, rfl, rfl, fun es' ks' rest' hs => ?_⟩
    injection hs with hs
    rw [h3.eq] at hs
    obtain ⟨⟨rfl, rfl⟩, _⟩ := encT_pfx hs
    exact hr
  · cases h
theorem tree_bad {B : Lim} (hW : Wide B) {st : Option (List UInt8)} {es : List Ent} {ks : KidsL} (h : GetRes B 5 st es ks none) : TreeRes st [] .nil none := by
  rcases h with ⟨_, _, _, h2, _⟩ | ⟨_, h⟩
  · cases h2
  · refine .inr ⟨rfl, rfl, rfl, fun es' ks' rest' hs => ?_⟩
    cases hr : rightT 5 es' ks' with
    | false => rfl
    | true => exact absurd (right_ok hW hr) (h _ _ _ _ hs)
theorem TreeRes.det {st s s' : Option (List UInt8)} {es es' : List Ent} {ks ks' : KidsL} (h : TreeRes st es ks s) (k : TreeRes st es' ks' s') : (es = es' ∧ ks = ks') ∧ s = s' := by
  rcases h with ⟨r, h1, h2, h3⟩ | ⟨h1, h2, h3, h4⟩ <;> rcases k with ⟨r', k1, k2, k3⟩ | ⟨k1, k2, k3, k4⟩
  · rw [h1] at k1
    injection k1 with k1
    obtain ⟨e, rfl⟩ := encT_pfx k1
    exact ⟨e, by rw [h3, k3]⟩
  · rw [k4 _ _ _ h1] at h2; cases h2
  · rw [h4 _ _ _ k1] at k2; cases k2
  · exact ⟨⟨by rw [h2, k2], by rw [h3, k3]⟩, by rw [h1, k1]⟩
theorem TreeRes.make {es : List Ent} {ks : KidsL} (rest : List UInt8) (h : rightT 5 es ks = true) : TreeRes (some (encT es ks ++ rest)) es ks (some rest) := .inl ⟨rest, rfl, h, rfl⟩
/- ### contexts -/
theorem RightC.each {c : CtxL} (h : RightC c) : ∀ s ∈ c, spBd bdP s := fun s hs => by
  have hd : ∀ {c : CtxL} {lo : Int}, DcFrom lo c → ∀ s ∈ c, lo ≤ s.1 ∧ s.1 < 4 := by
    intro c
    induction c with
    | nil => intro lo _ s hs; cases hs
    | cons x c ih =>
      intro lo h s hs
      rcases List.mem_cons.1 hs with rfl | hs
      · exact ⟨h.1, h.2.1⟩
      · have := ih h.2.2 s hs
        have := h.1
        omega
  obtain ⟨h0, h4⟩ := hd h.1 s hs
  have hr := h.2 s.1 h0 h4
  have hm : s.2 ∈ partL c s.1 := by
    unfold partL
    exact List.mem_map.2 ⟨s, List.mem_filter.2 ⟨hs, by simp⟩, rfl⟩
  have g1 := runsFrom_ge hr.1 _ hm
  have g2 := hr.2 _ hm
  refine ⟨?_, ?_, ?_⟩ <;> simp only [bdP] <;> omega
def CtxRes (st : Option (List UInt8)) (c : CtxL) (s : Option (List UInt8)) : Prop :=
  (∃ rest, st = some (encC c ++ rest) ∧ RightC c ∧ s = some rest) ∨ (s = none ∧ c = [] ∧ ∀ c rest, st = some (encC c ++ rest) → ¬ RightC c)
theorem ctx_parts {B : Lim} (hB : B.Ok) (hW : Wide B) {M : Int} (hM : M ≤ 9223372036854775807) {n : Nat} {st s1 s2 : Option (List UInt8)} {c : CtxL} (hl : ((leftOf st).length : Int) ≤ M) (h1 : CntStep st M n s1) (h2 : SpRun B s1 n c s2)
    {c' : CtxL} {rest : List UInt8} (hs : st = some (encC c' ++ rest)) (hr : RightC c') : c' = c ∧ s2 = some rest := by
  subst hs
  have hge : c'.length ≤ (encSs c').length := flat_pos encS_pos c'
  have hl : ((encC c' ++ rest).length : Int) ≤ M := hl
  unfold encC at hl h1
  rw [List.append_assoc] at hl h1
  simp only [List.length_append] at hl
  obtain ⟨rfl, rfl⟩ := h1.det (CntStep.make (by simp only [List.length_append]; omega) (by omega) hM)
  obtain ⟨rfl, rfl⟩ := Run.det (R := SpStep B) (fun h k => SpStep.det h k) h2 (SpRun.make hB _ fun s hs => hW.2.2 s (hr.each s hs))
  exact ⟨rfl, rfl⟩
theorem ctx_good {B : Lim} {M : Int} {n : Nat} {st s1 : Option (List UInt8)} {c : CtxL} {rest : List UInt8} (h1 : CntStep st M n s1) (h2 : SpRun B s1 n c (some rest)) (hr : RightC c) : CtxRes st c (some rest) := by
  obtain ⟨rfl, _⟩ := h2.good
  obtain ⟨rfl, _, _⟩ := h1.good
  refine .inl ⟨rest, ?_, hr, rfl⟩
  unfold encC
  rw [h2.len, List.append_assoc]
theorem ctx_bad {B : Lim} (hB : B.Ok) (hW : Wide B) {M : Int} (hM : M ≤ 9223372036854775807) {n : Nat} {st s1 s2 : Option (List UInt8)} {c : CtxL} (hl : ((leftOf st).length : Int) ≤ M) (h1 : CntStep st M n s1) (h2 : SpRun B s1 n c s2) (h : s2 = none ∨ ¬ RightC c) : CtxRes st [] none := by
  refine .inr ⟨rfl, rfl, fun c' rest hs hr => ?_⟩
  obtain ⟨rfl, h3⟩ := ctx_parts hB hW hM hl h1 h2 hs hr
  rcases h with h | h
  · rw [h] at h3; cases h3
  · exact h hr
theorem CtxRes.det {st s s' : Option (List UInt8)} {c c' : CtxL} (h : CtxRes st c s) (k : CtxRes st c' s') : c = c' ∧ s = s' := by
  rcases h with ⟨r, h1, h2, h3⟩ | ⟨h1, h2, h4⟩ <;> rcases k with ⟨r', k1, k2, k3⟩ | ⟨k1, k2, k4⟩
  · rw [h1] at k1
    injection k1 with k1
    obtain ⟨e, rfl⟩ := encC_pfx k1
    exact ⟨e, by rw [h3, k3]⟩
  · exact absurd h2 (k4 _ _ h1)
  · exact absurd k2 (h4 _ _ k1)
  · exact ⟨by rw [h2, k2], by rw [h1, k1]⟩
theorem CtxRes.make {c : CtxL} (rest : List UInt8) (h : RightC c) : CtxRes (some (encC c ++ rest)) c (some rest) := .inl ⟨rest, rfl, h, rfl⟩
/- ### what is known -/
def CauRes (st : Option (List UInt8)) (es : List Ent) (ks : KidsL) (c : CtxL) (s : Option (List UInt8)) : Prop :=
  (∃ rest, st = some (encX es ks c ++ rest) ∧ CauRight es ks c ∧ s = some rest) ∨ (s = none ∧ es = [] ∧ ks = .nil ∧ c = [] ∧ ∀ es ks c rest, st = some (encX es ks c ++ rest) → ¬ CauRight es ks c)
theorem cau_parts {st s1 s2 : Option (List UInt8)} {es es' : List Ent} {ks ks' : KidsL} {c c' : CtxL} {rest : List UInt8} (h1 : TreeRes st es ks s1) (h2 : CtxRes s1 c s2) (hs : st = some (encX es' ks' c' ++ rest)) (hr : CauRight es' ks' c') :
    es' = es ∧ ks' = ks ∧ c' = c ∧ s2 = some rest := by
  subst hs
  unfold encX at h1
  rw [List.append_assoc] at h1
  obtain ⟨⟨rfl, rfl⟩, rfl⟩ := h1.det (TreeRes.make _ hr.tree)
  obtain ⟨rfl, rfl⟩ := h2.det (CtxRes.make _ hr.ctx)
  exact ⟨rfl, rfl, rfl, rfl⟩
theorem cau_both {st s1 : Option (List UInt8)} {es : List Ent} {ks : KidsL} {c : CtxL} {rest : List UInt8} (h1 : TreeRes st es ks s1) (h2 : CtxRes s1 c (some rest)) : st = some (encX es ks c ++ rest) ∧ rightT 5 es ks = true ∧ RightC c := by
  rcases h2 with ⟨r, rfl, k2, k3⟩ | ⟨k1, _⟩
  · injection k3 with k3; subst k3
    rcases h1 with ⟨r', rfl, h2, h3⟩ | ⟨h1, _⟩
    · injection h3 with h3; subst h3
      exact ⟨by unfold encX; rw [List.append_assoc], h2, k2⟩
    · cases h1
  · cases k1
theorem cau_good {st s1 : Option (List UInt8)} {es : List Ent} {ks : KidsL} {c : CtxL} {rest : List UInt8} (h1 : TreeRes st es ks s1) (h2 : CtxRes s1 c (some rest)) (hr : CauRight es ks c) : CauRes st es ks c (some rest) :=
  .inl ⟨rest, (cau_both h1 h2).1, hr, rfl⟩
theorem cau_bad {st s1 s2 : Option (List UInt8)} {es : List Ent} {ks : KidsL} {c : CtxL} (h1 : TreeRes st es ks s1) (h2 : CtxRes s1 c s2) (h : s2 = none ∨ ¬ CauRight es ks c) : CauRes st [] .nil [] none := by
  refine .inr ⟨rfl, rfl, rfl, rfl, fun es' ks' c' rest hs hr => ?_⟩
  obtain ⟨rfl, rfl, rfl, h3⟩ := cau_parts h1 h2 hs hr
  rcases h with h | h
  · rw [h] at h3; cases h3
  · exact h hr
theorem CauRes.det {st s s' : Option (List UInt8)} {es es' : List Ent} {ks ks' : KidsL} {c c' : CtxL} (h : CauRes st es ks c s) (k : CauRes st es' ks' c' s') : ((es = es' ∧ ks = ks') ∧ c = c') ∧ s = s' := by
  rcases h with ⟨r, h1, h2, h3⟩ | ⟨h1, h2, h3, h5, h4⟩ <;> rcases k with ⟨r', k1, k2, k3⟩ | ⟨k1, k2, k3, k5, k4⟩
  · rw [h1] at k1
    injection k1 with k1
    obtain ⟨e, rfl⟩ := encX_pfx k1
    exact ⟨e, by rw [h3, k3]⟩
  · exact absurd h2 (k4 _ _ _ _ h1)
  · exact absurd k2 (h4 _ _ _ _ k1)
  · exact ⟨⟨⟨by rw [h2, k2], by rw [h3, k3]⟩, by rw [h5, k5]⟩, by rw [h1, k1]⟩
theorem CauRes.make {es : List Ent} {ks : KidsL} {c : CtxL} (rest : List UInt8) (h : CauRight es ks c) : CauRes (some (encX es ks c ++ rest)) es ks c (some rest) := .inl ⟨rest, rfl, h, rfl⟩
/- ### sizes -/
theorem numB_le {v m : Int} (h : -m ≤ v ∧ v ≤ m) (hm : m ≤ 9223372036854775807) : (numB v).length ≤ 10 := numB_le10 (by omega) (by omega)
theorem encE_le {e : Ent} (h : e.bd bdP) : (encE e).length ≤ 70 := by
  have h1 := numB_le h.dc bdP_ok.dc.2
  have h2 := numB_le h.n bdP_ok.n.2
  have h4 := numB_le h.k bdP_ok.k.2
  have h3 := h.s
  have h5 : (numB e.s.size).length ≤ 10 := numB_le10 (by simp only [bdP] at h3; omega) (by simp only [bdP] at h3; omega)
  have h6 : e.s.data.toList.length = e.s.size := Array.length_toList
  unfold encE textB
  simp only [List.length_append, bdP] at *
  omega
theorem encS_le {s : Int × Int × Int} (h : spBd bdP s) : (encS s).length ≤ 30 := by
  have h1 := numB_le h.1 bdP_ok.dc.2
  have h2 := numB_le h.2.1 bdP_ok.n.2
  have h3 := numB_le h.2.2 bdP_ok.n.2
  unfold encS
  simp only [List.length_append]
  omega
theorem numN_le {n : Nat} (h : n ≤ 9223372036854775807) : (numB n).length ≤ 10 := numB_le10 (by omega) (by omega)
theorem encK_le : ∀ {ks : KidsL}, ks.bd bdP → sizeK ks ≤ 9223372036854775807 → (encK ks).length ≤ 75 * sizeK ks
  | .nil, _, _ => Nat.zero_le _
  | .cons key es sub rest, h, hs => by
    have hs' : 1 + es.length + sizeK sub + sizeK rest ≤ 9223372036854775807 := hs
    have h1 := encK_le h.2.2.1 (by omega)
    have h2 := encK_le h.2.2.2 (by omega)
    have h3 : (encEs es).length ≤ 70 * es.length := flat_le fun e he => encE_le (h.2.1 e he)
    have h4 := h.1
    have h5 : (numB key.size).length ≤ 10 := numB_le10 (by simp only [bdP] at h4; omega) (by simp only [bdP] at h4; omega)
    have h6 : key.data.toList.length = key.size := Array.length_toList
    have h7 := numN_le (n := es.length) (by omega)
    have h9 : sub.len ≤ sizeK sub := len_le_sizeK sub
    have h8 := numN_le (n := sub.len) (by omega)
    simp only [bdP] at h4
    unfold encK sizeK textB
    simp only [List.length_append]
    omega
theorem encT_le {es : List Ent} {ks : KidsL} (h : rightT 5 es ks = true) (hs : sizeT es ks ≤ 9223372036854775807) : (encT es ks).length ≤ 20 + 75 * sizeT es ks := by
  have hg := right_ok wideP (rest := []) h
  have hs' : es.length + sizeK ks ≤ 9223372036854775807 := hs
  have h1 := encK_le hg.kbd (by omega)
  have h3 : (encEs es).length ≤ 70 * es.length := flat_le fun e he => encE_le (hg.ebd e he)
  have h9 : ks.len ≤ sizeK ks := len_le_sizeK ks
  have h7 := numN_le (n := es.length) (by omega)
  have h8 := numN_le (n := ks.len) (by omega)
  unfold encT sizeT
  simp only [List.length_append]
  omega
theorem encC_le {c : CtxL} (h : RightC c) (hl : c.length ≤ 9223372036854775807) : (encC c).length ≤ 10 + 30 * c.length := by
  have h3 : (encSs c).length ≤ 30 * c.length := flat_le fun s hs => encS_le (h.each s hs)
  have h7 := numN_le (n := c.length) hl
  unfold encC
  simp only [List.length_append]
  omega
end Go.Proofs.YtggfoihfenlckaaGreat
/- Bytes of changes: the plain law. -/
namespace Go.Proofs.YtggfoihfenlckaaGreat
open Go.RowKit
def encP (ss : List ByteArray) : List UInt8 := ss.flatMap textB
def encO (ss : List ByteArray) (a : Int) (s : ByteArray) (n : Int) : List UInt8 := numB ss.length ++ (encP ss ++ (numB a ++ (textB s ++ numB n)))
theorem encO_pfx {ss ss' : List ByteArray} {a a' n n' : Int} {s s' : ByteArray} {x y : List UInt8} (h : encO ss a s n ++ x = encO ss' a' s' n' ++ y) : (ss = ss' ∧ a = a' ∧ s = s' ∧ n = n') ∧ x = y := by
  unfold encO at h
  simp only [List.append_assoc] at h
  replace h := numB_prefix h
  obtain ⟨h1, h⟩ := h
  replace h := flat_pfx (f := textB) textB_prefix (by omega) h
  obtain ⟨h2, h⟩ := h
  replace h := numB_prefix h
  obtain ⟨h3, h⟩ := h
  replace h := textB_prefix h
  obtain ⟨h4, h⟩ := h
  replace h := numB_prefix h
  obtain ⟨h5, h⟩ := h
  exact ⟨⟨h2, h3, h4, h5⟩, h⟩
theorem opB_bd {ss : List ByteArray} {a n : Int} {s : ByteArray} (h : opB ss a s n = true) : (1 ≤ ss.length ∧ ss.length ≤ 3) ∧ (∀ x ∈ ss, x.size ≤ 30) ∧ (1 ≤ a ∧ a ≤ 7) ∧ s.size ≤ 30 ∧ -1099511627776 ≤ n ∧ n ≤ 1099511627776 := by
  unfold opB at h
  simp only [Bool.and_eq_true] at h
  obtain ⟨h1, h2, h3, h4⟩ := h
  have h1 : pathE ss = 0 := eq_of_beq h1
  have ha : 1 ≤ a ∧ a ≤ 7 := by
    unfold actB at h2
    by_cases e1 : a = 1 ∨ a = 2
    · omega
    rw [if_neg e1] at h2
    by_cases e2 : a = 3 ∨ a = 4
    · omega
    rw [if_neg e2] at h2
    by_cases e3 : a = 5
    · omega
    rw [if_neg e3] at h2
    by_cases e4 : a = 6
    · omega
    rw [if_neg e4] at h2
    have := eq_of_beq h2
    omega
  refine ⟨pathE_zero h1, fun x hx => ?_, ha, ?_, ?_⟩
  · by_cases h9 : x.size ≤ 30
    · exact h9
    · have : pathE ss = 1 := pathE_any (List.any_eq_true.2 ⟨x, hx, by unfold p1; rw [decide_eq_true (by omega : 30 < x.size)]; rfl⟩)
      rw [this] at h1; cases h1
  · unfold txtB at h3
    by_cases e1 : a = 3 ∨ a = 4
    · rw [if_pos e1] at h3; have := of_decide_eq_true h3; omega
    rw [if_neg e1] at h3
    by_cases e2 : a = 6
    · rw [if_pos e2] at h3; have := of_decide_eq_true h3; omega
    rw [if_neg e2] at h3; have := of_decide_eq_true h3; omega
  · unfold cntB at h4
    by_cases e1 : a = 5
    · rw [if_pos e1] at h4; simp at h4; omega
    · rw [if_neg e1] at h4; have := eq_of_beq h4; omega
abbrev TxtRun (m : Int) := Run (fun s0 (x : ByteArray) t => TextStep s0 m x t)
theorem TxtRun.good {m : Int} {st : Option (List UInt8)} {k : Nat} {ss : List ByteArray} {r : List UInt8} (h : TxtRun m st k ss (some r)) : st = some (encP ss ++ r) ∧ ∀ x ∈ ss, (x.size : Int) ≤ m := Run.good (f := textB) (P := fun x => (x.size : Int) ≤ m) (fun h => text_good h) h rfl
theorem TxtRun.make {m : Int} (hm : m ≤ 9223372036854775807) {ss : List ByteArray} (r : List UInt8) (h : ∀ x ∈ ss, (x.size : Int) ≤ m) : TxtRun m (some (encP ss ++ r)) ss.length ss (some r) := Run.make (R := fun s0 (x : ByteArray) t => TextStep s0 m x t) (P := fun x => (x.size : Int) ≤ m) (fun r h => text_make r h hm) r h
def OpRes (st : Option (List UInt8)) (ss : List ByteArray) (a : Int) (s : ByteArray) (n : Int) (t : Option (List UInt8)) : Prop :=
  (∃ rest, st = some (encO ss a s n ++ rest) ∧ opB ss a s n = true ∧ t = some rest) ∨ (t = none ∧ ss = [] ∧ a = 0 ∧ s = ByteArray.empty ∧ n = 0 ∧ ∀ ss a s n rest, st = some (encO ss a s n ++ rest) → opB ss a s n = false)
theorem OpRes.det {st t t' : Option (List UInt8)} {ss ss' : List ByteArray} {a a' n n' : Int} {s s' : ByteArray} (h : OpRes st ss a s n t) (k : OpRes st ss' a' s' n' t') : (ss = ss' ∧ a = a' ∧ s = s' ∧ n = n') ∧ t = t' := by
  rcases h with ⟨r, h1, h2, h3⟩ | ⟨h1, h2, h3, h4, h5, h6⟩ <;> rcases k with ⟨r', k1, k2, k3⟩ | ⟨k1, k2, k3, k4, k5, k6⟩
  · rw [h1] at k1
    injection k1 with k1
    obtain ⟨e, rfl⟩ := encO_pfx k1
    exact ⟨e, by rw [h3, k3]⟩
  · rw [k6 _ _ _ _ _ h1] at h2; cases h2
  · rw [h6 _ _ _ _ _ k1] at k2; cases k2
  · exact ⟨⟨by rw [h2, k2], by rw [h3, k3], by rw [h4, k4], by rw [h5, k5]⟩, by rw [h1, k1]⟩
theorem OpRes.make {ss : List ByteArray} {a n : Int} {s : ByteArray} (rest : List UInt8) (h : opB ss a s n = true) : OpRes (some (encO ss a s n ++ rest)) ss a s n (some rest) := .inl ⟨rest, rfl, h, rfl⟩
/-- What is read of a change. -/
structure OpSt (M m ma mn : Int) (st : Option (List UInt8)) (k : Nat) (ss : List ByteArray) (a : Int) (s : ByteArray) (n : Int) (s1 s2 s3 s4 s5 : Option (List UInt8)) : Prop where
  cnt : CntStep st M k s1
  run : TxtRun m s1 k ss s2
  act : NumStep s2 ma a s3
  txt : TextStep s3 m s s4
  num : NumStep s4 mn n s5
theorem op_good {M m ma mn : Int} {st s1 s2 s3 s4 : Option (List UInt8)} {k : Nat} {ss : List ByteArray} {a n : Int} {s : ByteArray} {r : List UInt8} (h : OpSt M m ma mn st k ss a s n s1 s2 s3 s4 (some r)) (hb : opB ss a s n = true) : OpRes st ss a s n (some r) := by
  obtain ⟨h1, h2, h3, h4, h5⟩ := h
  obtain ⟨rfl, _⟩ := num_good h5
  obtain ⟨rfl, _⟩ := text_good h4
  obtain ⟨rfl, _⟩ := num_good h3
  obtain ⟨rfl, _⟩ := h2.good
  obtain ⟨rfl, _⟩ := h1.good
  exact .inl ⟨r, by unfold encO; rw [Run.len h2]; simp only [List.append_assoc], hb, rfl⟩
theorem op_bad {M m ma mn : Int} (hm : 30 ≤ m) (hm' : m ≤ 9223372036854775807) (ha : 7 ≤ ma) (ha' : ma ≤ 9223372036854775807) (hn : 1099511627776 ≤ mn) (hn' : mn ≤ 9223372036854775807) (hM : 3 ≤ M) (hM' : M ≤ 9223372036854775807)
    {st s1 s2 s3 s4 s5 : Option (List UInt8)} {k : Nat} {ss : List ByteArray} {a n : Int} {s : ByteArray} (h : OpSt M m ma mn st k ss a s n s1 s2 s3 s4 s5) (hb : s5 = none ∨ opB ss a s n = false) : OpRes st [] 0 ByteArray.empty 0 none := by
  refine .inr ⟨rfl, rfl, rfl, rfl, rfl, fun ss' a' s' n' rest hs => ?_⟩
  cases hq : opB ss' a' s' n' with
  | false => rfl
  | true =>
    exfalso
    subst hs
    obtain ⟨h1, h2, h3, h4, h5⟩ := h
    obtain ⟨g1, g2, g3, g4, g5⟩ := opB_bd hq
    have hge : ss'.length ≤ (encP ss').length := flat_pos textB_pos ss'
    unfold encO at h1
    simp only [List.append_assoc] at h1
    obtain ⟨rfl, rfl⟩ := h1.det (CntStep.make (by simp only [List.length_append]; omega) (by omega) hM')
    obtain ⟨rfl, rfl⟩ := Run.det (R := fun s0 (x : ByteArray) t => TextStep s0 m x t) (fun h k => h.det k) h2 (TxtRun.make hm' _ fun x hx => by have := g2 x hx; omega)
    obtain ⟨rfl, rfl⟩ := h3.det (num_make _ ⟨by omega, by omega⟩ ha')
    obtain ⟨rfl, rfl⟩ := h4.det (text_make _ (by omega) hm')
    obtain ⟨rfl, rfl⟩ := h5.det (num_make _ ⟨by omega, by omega⟩ hn')
    rcases hb with hb | hb
    · cases hb
    · rw [hq] at hb; cases hb
end Go.Proofs.YtggfoihfenlckaaGreat
/- Bytes of vectors, of bundles; how they are read: the plain law. -/
namespace Go.Proofs.YtggfoihfenlckaaGreat
open Go.RowKit
def encV (v0 v1 v2 v3 : Int) : List UInt8 := numB v0 ++ (numB v1 ++ (numB v2 ++ numB v3))
theorem encV_pfx {a b c d a' b' c' d' : Int} {x y : List UInt8} (h : encV a b c d ++ x = encV a' b' c' d' ++ y) : (a = a' ∧ b = b' ∧ c = c' ∧ d = d') ∧ x = y := by
  unfold encV at h
  simp only [List.append_assoc] at h
  replace h := numB_prefix h
  obtain ⟨h1, h⟩ := h
  replace h := numB_prefix h
  obtain ⟨h2, h⟩ := h
  replace h := numB_prefix h
  obtain ⟨h3, h⟩ := h
  replace h := numB_prefix h
  obtain ⟨h4, h⟩ := h
  exact ⟨⟨h1, h2, h3, h4⟩, h⟩
def VecRes (st : Option (List UInt8)) (v0 v1 v2 v3 : Int) (s : Option (List UInt8)) : Prop :=
  (∃ rest, st = some (encV v0 v1 v2 v3 ++ rest) ∧ MayV (vecF v0 v1 v2 v3) ∧ s = some rest) ∨ (s = none ∧ v0 = 0 ∧ v1 = 0 ∧ v2 = 0 ∧ v3 = 0 ∧ ∀ u0 u1 u2 u3 rest, st = some (encV u0 u1 u2 u3 ++ rest) → ¬ MayV (vecF u0 u1 u2 u3))
theorem mayV4 {v0 v1 v2 v3 : Int} (h : MayV (vecF v0 v1 v2 v3)) : (0 ≤ v0 ∧ v0 ≤ 1099511627776) ∧ (0 ≤ v1 ∧ v1 ≤ 1099511627776) ∧ (0 ≤ v2 ∧ v2 ≤ 1099511627776) ∧ 0 ≤ v3 ∧ v3 ≤ 1099511627776 :=
  ⟨h 0 (by decide) (by decide), h 1 (by decide) (by decide), h 2 (by decide) (by decide), h 3 (by decide) (by decide)⟩
theorem VecRes.det {st s s' : Option (List UInt8)} {a b c d a' b' c' d' : Int} (h : VecRes st a b c d s) (k : VecRes st a' b' c' d' s') : (a = a' ∧ b = b' ∧ c = c' ∧ d = d') ∧ s = s' := by
  rcases h with ⟨r, h1, h2, h3⟩ | ⟨h1, h2, h3, h4, h5, h6⟩ <;> rcases k with ⟨r', k1, k2, k3⟩ | ⟨k1, k2, k3, k4, k5, k6⟩
  · rw [h1] at k1
    injection k1 with k1
    obtain ⟨e, rfl⟩ := encV_pfx k1
    exact ⟨e, by rw [h3, k3]⟩
  · exact absurd h2 (k6 _ _ _ _ _ h1)
  · exact absurd k2 (h6 _ _ _ _ _ k1)
  · subst h2 h3 h4 h5 k2 k3 k4 k5
    exact ⟨⟨rfl, rfl, rfl, rfl⟩, by rw [h1, k1]⟩
theorem VecRes.make {v0 v1 v2 v3 : Int} (rest : List UInt8) (h : MayV (vecF v0 v1 v2 v3)) : VecRes (some (encV v0 v1 v2 v3 ++ rest)) v0 v1 v2 v3 (some rest) := .inl ⟨rest, rfl, h, rfl⟩
/-- Four numbers taken one behind the other. -/
def V4 (m : Int) (st : Option (List UInt8)) (v0 v1 v2 v3 : Int) (s4 : Option (List UInt8)) : Prop :=
  ∃ s1 s2 s3, NumStep st m v0 s1 ∧ NumStep s1 m v1 s2 ∧ NumStep s2 m v2 s3 ∧ NumStep s3 m v3 s4
theorem vec_good {m : Int} {st : Option (List UInt8)} {v0 v1 v2 v3 : Int} {r : List UInt8} (h : V4 m st v0 v1 v2 v3 (some r)) (hm : MayV (vecF v0 v1 v2 v3)) : VecRes st v0 v1 v2 v3 (some r) := by
  obtain ⟨s1, s2, s3, h1, h2, h3, h4⟩ := h
  obtain ⟨rfl, _, _⟩ := num_good h4
  obtain ⟨rfl, _, _⟩ := num_good h3
  obtain ⟨rfl, _, _⟩ := num_good h2
  obtain ⟨rfl, _, _⟩ := num_good h1
  exact .inl ⟨r, by unfold encV; simp only [List.append_assoc], hm, rfl⟩
theorem vec_bad {m : Int} (hm1 : 1099511627776 ≤ m) (hm2 : m ≤ 9223372036854775807) {st s4 : Option (List UInt8)} {v0 v1 v2 v3 : Int} (h : V4 m st v0 v1 v2 v3 s4) (hb : s4 = none ∨ ¬ MayV (vecF v0 v1 v2 v3)) : VecRes st 0 0 0 0 none := by
  refine .inr ⟨rfl, rfl, rfl, rfl, rfl, fun u0 u1 u2 u3 rest hs hu => ?_⟩
  subst hs
  obtain ⟨s1, s2, s3, h1, h2, h3, h4⟩ := h
  obtain ⟨g0, g1, g2, g3⟩ := mayV4 hu
  unfold encV at h1
  simp only [List.append_assoc] at h1
  obtain ⟨rfl, rfl⟩ := h1.det (num_make _ ⟨by omega, by omega⟩ hm2)
  obtain ⟨rfl, rfl⟩ := h2.det (num_make _ ⟨by omega, by omega⟩ hm2)
  obtain ⟨rfl, rfl⟩ := h3.det (num_make _ ⟨by omega, by omega⟩ hm2)
  obtain ⟨rfl, rfl⟩ := h4.det (num_make _ ⟨by omega, by omega⟩ hm2)
  rcases hb with hb | hb
  · cases hb
  · exact hb hu
theorem V4.total (m : Int) (st : Option (List UInt8)) : ∃ v0 v1 v2 v3 s1 s2 s3 s4, NumStep st m v0 s1 ∧ NumStep s1 m v1 s2 ∧ NumStep s2 m v2 s3 ∧ NumStep s3 m v3 s4 := by
  obtain ⟨v0, s1, h1⟩ := NumStep.total st m
  obtain ⟨v1, s2, h2⟩ := NumStep.total s1 m
  obtain ⟨v2, s3, h3⟩ := NumStep.total s2 m
  obtain ⟨v3, s4, h4⟩ := NumStep.total s3 m
  exact ⟨v0, v1, v2, v3, s1, s2, s3, s4, h1, h2, h3, h4⟩
end Go.Proofs.YtggfoihfenlckaaGreat
/- tributaryref02.Take. -/
namespace Go.Proofs.YtggfoihfenlckaaGreat
open Go.RowKit
end Go.Proofs.YtggfoihfenlckaaGreat
/- tributaryref02.Take where no number stands. -/
namespace Go.Proofs.YtggfoihfenlckaaGreat
open Go.RowKit
end Go.Proofs.YtggfoihfenlckaaGreat
/- tributaryref02.In: Num, Text, Done. -/
namespace Go.Proofs.YtggfoihfenlckaaGreat
open Go.RowKit
end Go.Proofs.YtggfoihfenlckaaGreat
/- tributaryref02.In.Text. -/
namespace Go.Proofs.YtggfoihfenlckaaGreat
open Go.RowKit
end Go.Proofs.YtggfoihfenlckaaGreat
/- What is kept of a state. -/
namespace Go.Proofs.YtggfoihfenlckaaGreat
open Go.RowKit
theorem InSt.keep {w w' : World} {ib : Nat} {st : Option (List UInt8)} (h : InSt w ib st) {S : Nat → Prop} (f : Frm S w w') (h1 : ∀ k, k ≤ ib → ¬ S k) : InSt w' ib st := by
  cases st with
  | none => exact f.blk (show w.heap[ib]? = _ from h) (h1 ib (Nat.le_refl _))
  | some bs =>
    obtain ⟨v, hv, hlt⟩ := h
    exact ⟨v, hv.keep f (h1 ib (Nat.le_refl _)) fun k hk => h1 k (Nat.le_of_lt (hlt k hk)), hlt⟩
theorem InSt.lt {w : World} {ib : Nat} {st : Option (List UInt8)} (h : InSt w ib st) : ib < w.heap.size := by
  obtain ⟨a, c, hh⟩ := h.heap
  exact lt_of_block hh
theorem two_set (w : World) (b : Nat) (u u' : Value) : Frm (Only b) w ((w.setCell ⟨b, 0, none⟩ u).setCell ⟨b, 1, none⟩ u') := (only_set w b 0 u).trans (only_set _ b 1 u') fun _ _ h => h
end Go.Proofs.YtggfoihfenlckaaGreat