/- Words for the law PackGets: HeldLast, Four, SJoin, CApart, CWhole. -/
import Derived.Test.YtggfoihfenlckaaGreatPackGetsG3
import Derived.Test.YtggfoihfenlckaaGreatPackGetsG4
import Derived.Deep.RegionHeld
import Derived.StillTailTactics
import Derived.IntWalk
import Derived.Deep.Slices
set_option linter.unusedSimpArgs false
set_option linter.unusedVariables false
/- A region that draws its order and ends with one store: what its loads read holds behind every operation but that one. -/
namespace Go.Proofs.YtggfoihfenlckaaGreat
section
variable {P : Program} {ops : Array Oper} {Q : Exit → Act → World → Prop} {md : Region.Mode} {S : World → Prop} {z : Nat}
/-- Whatever order is picked from here on, S holds behind every operation but number z. -/
def wpAnyG (P : Program) (md : Region.Mode) (ops : Array Oper) (Q : Exit → Act → World → Prop) (S : World → Prop) (z : Nat) : Nat → Array Bool → Act → World → Prop
  | 0, listed, a, w => Region.ready md ops listed = [] ∧ Q .normal a w
  | fuel + 1, listed, a, w =>
    (Region.ready md ops listed = [] → Q .normal a w) ∧
    ∀ i ∈ Region.ready md ops listed, wpOp P ops Q i (fun a' w' => (i = z ∨ S w') ∧ wpAnyG P md ops Q S z fuel (listed.setIfInBounds i true) a' w') a w
theorem wpAny_of_G : ∀ (fuel : Nat) (listed : Array Bool) (a : Act) (w : World), wpAnyG P md ops Q S z fuel listed a w → wpAny P md ops Q fuel listed a w
  | 0, _, _, _, h => h
  | fuel + 1, _, _, _, h => ⟨h.1, fun i hi => wpOp_mono (fun a' w' h' => wpAny_of_G fuel _ a' w' h'.2) (h.2 i hi)⟩
/-- Number z waits for all others. -/
def lastB (md : Region.Mode) (ops : Array Oper) (z : Nat) : Bool := (List.range ops.size).all fun i => i == z || (match ops[z]? with | some o => o.after.any fun e => Region.binds md e && e.on == i | none => false)
theorem lastB_spec {i : Nat} {o oi : Oper} (h : lastB md ops z = true) (hz : ops[z]? = some o) (hi : ops[i]? = some oi) (hne : i ≠ z) : ∃ e ∈ o.after, Region.binds md e = true ∧ e.on = i := by
  unfold lastB at h
  rw [List.all_eq_true] at h
  have hlt : i < ops.size := (Array.getElem?_eq_some_iff.1 hi).1
  have h1 := h i (List.mem_range.2 hlt)
  rw [hz] at h1
  simp only [Bool.or_eq_true, beq_iff_eq, hne, false_or, Array.any_eq_true, Bool.and_eq_true] at h1
  obtain ⟨k, hk, h2, h3⟩ := h1
  exact ⟨o.after[k], Array.getElem_mem hk, h2, h3⟩
theorem wpAnyG_first {i : Nat} {oi : Oper} {v : Value} (hi : ops[i]? = some oi) (hsel : ∀ (j : Nat) (o : Oper) cs b, ops[j]? = some o → o.op ≠ .select cs b) (hl : lastB md ops z = true) (hiz : i ≠ z)
    (hQ : ∀ c a w, Q (.panic c) (a.put oi.dst v) w → Q (.panic c) a w) :
    ∀ (fuel : Nat) (listed : Array Bool) (a : Act) (w : World),
      (∀ j oj, ops[j]? = some oj → j ≠ i → listed.getD j true = false → (∀ e ∈ oj.after, Region.binds md e = true → e.on ≠ i) → oi.apart ops oj = true) →
      i ∈ Region.ready md ops listed → YieldsIf P ops S oi v a → S w →
      wpAnyG P md ops Q S z fuel (listed.setIfInBounds i true) (a.put oi.dst v) w → wpAnyG P md ops Q S z (fuel + 1) listed a w := by
  intro fuel
  induction fuel with
  | zero =>
    intro listed a w _ hr hy hS H
    refine ⟨fun h => (by rw [h] at hr; cases hr), fun j hj => ?_⟩
    by_cases hji : j = i
    · subst hji; exact hy.wpOp hi hS ⟨.inr hS, H⟩
    · have := ready_mono hj hji
      rw [H.1] at this
      cases this
  | succ fuel ih =>
    intro listed a w hfree hr hy hS H
    refine ⟨fun h => (by rw [h] at hr; cases hr), fun j hj => ?_⟩
    by_cases hji : j = i
    · subst hji; exact hy.wpOp hi hS ⟨.inr hS, H⟩
    · have h1 := H.2 j (ready_mono hj hji)
      obtain ⟨hjun, oj, hoj, hall⟩ := mem_ready.1 hj
      have hnot : ∀ e ∈ oj.after, Region.binds md e = true → e.on ≠ i := fun e he hb heq => by
        have h1 := hall e he hb
        have h0 := (mem_ready.1 hr).1
        rw [heq] at h1
        rcases Nat.lt_or_ge i listed.size with h' | h'
        · simp [h'] at h0 h1; rw [h0] at h1; cases h1
        · simp [Array.getElem?_eq_none h'] at h1
      have hjz : j ≠ z := fun hz => by
        subst hz
        obtain ⟨e, he, hb, heq⟩ := lastB_spec hl hoj hi hiz
        exact hnot e he hb heq
      have h2 := wpOp_putIf hoj (hfree j oj hoj hji hjun hnot) (fun cs b => hsel i oi cs b hi) (fun cs b => hsel j oj cs b hoj) hQ hy h1
      have hfree' : ∀ k ok, ops[k]? = some ok → k ≠ i → (listed.setIfInBounds j true).getD k true = false →
          (∀ e ∈ ok.after, Region.binds md e = true → e.on ≠ i) → oi.apart ops ok = true := fun k ok hk hki hun hno => by
        refine hfree k ok hk hki ?_ hno
        by_cases hjk : j = k
        · subst hjk; exact hjun
        · rw [getD_set_ne true hjk] at hun; exact hun
      refine wpOp_mono (fun a' w' h3 => ?_) h2
      have hS' : S w' := h3.2.1.resolve_left hjz
      refine ⟨.inr hS', ih (listed.setIfInBounds j true) a' w' hfree' (ready_mono hr (Ne.symm hji)) h3.1 hS' ?_⟩
      rw [Array.setIfInBounds_comm _ _ hji]
      exact h3.2.2
/-- An operation that reads is taken first. -/
theorem take_opG (i d : Nat) {oi : Oper} {v : Value} {fuel : Nat} {listed : Array Bool} {a : Act} {w : World} (hi : ops[i]? = some oi) (hd : oi.dst = some d)
    (hs : Region.noSelect ops = true) (hl : lastB md ops z = true) (hiz : i ≠ z) (hf : Region.free md ops listed i = true) (hr : (Region.ready md ops listed).contains i = true)
    (hQ : ∀ c a w, Q (.panic c) (a.put (some d) v) w → Q (.panic c) a w) (hy : YieldsIf P ops S oi v a) (hS : S w)
    (h : wpAnyG P md ops Q S z fuel (listed.setIfInBounds i true) (a.put (some d) v) w) : wpAnyG P md ops Q S z (fuel + 1) listed a w :=
  wpAnyG_first hi (Region.noSelect_spec hs) hl hiz (by rw [hd]; exact hQ) fuel listed a w (Region.free_spec hi hf) (by simpa using hr) hy hS (by rw [hd]; exact h)
/-- The one that comes up next. -/
theorem one_opG {i : Nat} {o : Oper} {fuel : Nat} {listed : Array Bool} {a : Act} {w : World} (hr : Region.ready md ops listed = [i]) (ho : ops[i]? = some o)
    (h : ∀ K' : Act → World → Prop, Shut (∀ a w, S w → wpAnyG P md ops Q S z fuel (listed.setIfInBounds i true) a w → K' a w) → if Region.wanted o (yielded ops a.tmps) = true then Oper.wp P o a w K' Q else K' (a.put o.dst undef) w) :
    wpAnyG P md ops Q S z (fuel + 1) listed a w :=
  ⟨fun h0 => (by rw [hr] at h0; cases h0), fun j hj => by
    rw [hr] at hj
    obtain rfl : j = i := by simpa using hj
    exact wpOp_step ho fun K' hK => h K' fun a w hS hW => hK a w ⟨.inr hS, hW⟩⟩
/-- The last one. -/
theorem last_opG {o : Oper} {fuel : Nat} {listed : Array Bool} {a : Act} {w : World} (hr : Region.ready md ops listed = [z]) (hr2 : Region.ready md ops (listed.setIfInBounds z true) = []) (ho : ops[z]? = some o)
    (h : ∀ K' : Act → World → Prop, Shut (∀ a w, Q .normal a w → K' a w) → if Region.wanted o (yielded ops a.tmps) = true then Oper.wp P o a w K' Q else K' (a.put o.dst undef) w) :
    wpAnyG P md ops Q S z (fuel + 1) listed a w :=
  ⟨fun h0 => (by rw [hr] at h0; cases h0), fun j hj => by
    rw [hr] at hj
    obtain rfl : j = z := by simpa using hj
    refine wpOp_step ho fun K' hK => h K' fun a w hQ => hK a w ⟨.inl rfl, ?_⟩
    cases fuel with
    | zero => exact ⟨hr2, hQ⟩
    | succ n => exact ⟨fun _ => hQ, by rw [hr2]; simp⟩⟩
theorem wp_region_G {id : Nat} {a : Act} {w : World} (z : Nat) (hm : P.follows .mixedOrders = true) (hS : S w.drew)
    (h : S w.drew → wpAnyG P .any ops Q S z ops.size (Array.replicate ops.size false) a w.drew) : (Code.region id ops true).wp P Q a w :=
  wp_region_any hm (wpAny_of_G _ _ _ _ (h hS))
end
end Go.Proofs.YtggfoihfenlckaaGreat
/- Four slices of one's own in a block: each may grow. -/
namespace Go.Proofs.YtggfoihfenlckaaGreat
open Go.RowKit
def upd {α : Type} (f : Nat → α) (d : Nat) (x : α) : Nat → α := fun c => if c = d then x else f c
theorem upd_same {α : Type} (f : Nat → α) (d : Nat) (x : α) : upd f d x d = x := by simp [upd]
theorem upd_other {α : Type} (f : Nat → α) {d c : Nat} (x : α) (h : c ≠ d) : upd f d x c = f c := by simp [upd, h]
def four4 (vs : Nat → Value) : Array Value := #[vs 0, vs 1, vs 2, vs 3]
theorem four4_at (vs : Nat → Value) {d : Nat} (h : d < 4) : (four4 vs)[d]? = some (vs d) := by
  rcases (by omega : d = 0 ∨ d = 1 ∨ d = 2 ∨ d = 3) with rfl | rfl | rfl | rfl <;> rfl
theorem four4_set (vs : Nat → Value) {d : Nat} (h : d < 4) (v : Value) : (four4 vs).setIfInBounds d v = four4 (upd vs d v) := by
  rcases (by omega : d = 0 ∨ d = 1 ∨ d = 2 ∨ d = 3) with rfl | rfl | rfl | rfl <;> rfl
theorem KeepsN.owns {N : Nat → Prop} {w w' : World} (h : KeepsN N w w') {base : Nat} {e : TypeId} {size : Nat} {v : Value} {n : Nat} {xs : List Value} (ho : w.ownsRow base e size v n xs) (hn : ∀ k, v.ownBlock = some k → N k) : w'.ownsRow base e size v n xs := by
  refine ⟨ho.1, ?_⟩
  rcases ho.2 with hx | ⟨g, cap, cur, rfl, hb, hg, rest⟩
  · exact .inl hx
  · exact .inr ⟨g, cap, cur, rfl, hb, h.blk (hn g rfl) hg, rest⟩
/-- The block pb holds four slices of one's own, made since w0, each in memory by itself and in none of the blocks M. -/
structure FourAt (M : Nat → Prop) (T e : TypeId) (size : Nat) (w0 w : World) (pb : Nat) (vs : Nat → Value) (n : Nat → Nat) (xs : Nat → List Value) : Prop where
  blk : w.heap[pb]? = some (.cells (four4 vs) T (0, 0))
  new : w0.heap.size ≤ pb
  mlt : ∀ k, M k → k < w.heap.size
  mne : ¬ M pb
  own : ∀ d, d < 4 → OwnBut (fun k => k = pb ∨ M k) w0 w e size (vs d) (n d) (xs d)
  apart : ∀ d c, d < 4 → c < 4 → d ≠ c → ∀ k, (vs d).ownBlock = some k → (vs c).ownBlock ≠ some k
/-- All that is beside one of the four. -/
def Rest4 (M : Nat → Prop) (pb : Nat) (vs : Nat → Value) (d k : Nat) : Prop := k = pb ∨ M k ∨ ∃ c, c < 4 ∧ c ≠ d ∧ (vs c).ownBlock = some k
section
variable {M : Nat → Prop} {T e : TypeId} {size : Nat} {w0 w w' : World} {pb : Nat} {vs : Nat → Value} {n : Nat → Nat} {xs : Nat → List Value}
theorem FourAt.cell (h : FourAt M T e size w0 w pb vs n xs) {d : Nat} (hd : d < 4) : w.cell? ⟨pb, d, none⟩ = some (vs d) := cell_at' h.blk d (four4_at vs hd)
theorem FourAt.but (h : FourAt M T e size w0 w pb vs n xs) {d : Nat} (hd : d < 4) : OwnBut (Rest4 M pb vs d) w0 w e size (vs d) (n d) (xs d) :=
  ⟨(h.own d hd).at_, fun k hk hr => by
    rcases hr with hr | hr | ⟨c, hc, hne, hck⟩
    · exact (h.own d hd).but k hk (.inl hr)
    · exact (h.own d hd).but k hk (.inr hr)
    · exact h.apart c d hc hd hne k hck hk⟩
theorem FourAt.lt (h : FourAt M T e size w0 w pb vs n xs) (d k : Nat) (hr : Rest4 M pb vs d k) : k < w.heap.size := by
  rcases hr with rfl | hr | ⟨c, hc, _, hck⟩
  · exact lt_of_block h.blk
  · exact h.mlt k hr
  · exact (h.own c hc).at_.lt k hck
theorem FourAt.keep (h : FourAt M T e size w0 w pb vs n xs) (f : Frm NoS w w') : FourAt M T e size w0 w' pb vs n xs :=
  ⟨f.blk h.blk id, h.new, fun k hk => Nat.lt_of_lt_of_le (h.mlt k hk) f.size, h.mne, fun d hd => (h.own d hd).keep f, h.apart⟩
theorem FourAt.frm (h : FourAt M T e size w0 w pb vs n xs) : Frm NoS w0 w := (h.own 0 (by omega)).at_.frm
/-- A block more that holds none of them. -/
theorem FourAt.box (h : FourAt M T e size w0 w pb vs n xs) (o : Obj) : FourAt (fun k => M k ∨ k = w.heap.size) T e size w0 (w.alloc o) pb vs n xs :=
  ⟨(Frm.alloc NoS w o).blk h.blk id, h.new, fun k hk => by
    simp
    rcases hk with hk | hk
    · have := h.mlt k hk; omega
    · omega, fun hm => hm.elim h.mne fun he => by have := lt_of_block h.blk; omega, fun d hd => ⟨((h.own d hd).keep (Frm.alloc _ _ _)).at_, fun k hk hr => by
    rcases hr with hr | hr | hr
    · exact (h.own d hd).but k hk (.inl hr)
    · exact (h.own d hd).but k hk (.inr hr)
    · have := (h.own d hd).at_.lt k hk; omega⟩, h.apart⟩
theorem FourAt.mono {M' : Nat → Prop} (h : FourAt M T e size w0 w pb vs n xs) (hm : ∀ k, M' k → M k) : FourAt M' T e size w0 w pb vs n xs :=
  ⟨h.blk, h.new, fun k hk => h.mlt k (hm k hk), fun hk => h.mne (hm _ hk), fun d hd => (h.own d hd).mono fun k hk => hk.elim .inl fun hk => .inr (hm k hk), h.apart⟩
/-- One of them has grown, and is stored. -/
theorem FourAt.step (h : FourAt M T e size w0 w pb vs n xs) {d : Nat} (hd : d < 4) {v' : Value} {n' : Nat} {xs' : List Value} (kp : KeepsN (Rest4 M pb vs d) w w') (ob : OwnBut (Rest4 M pb vs d) w0 w' e size v' n' xs') :
    FourAt M T e size w0 (w'.setCell ⟨pb, d, none⟩ v') pb (upd vs d v') (upd n d n') (upd xs d xs') := by
  have hset := set_at' (kp.blk (.inl rfl) h.blk) d v'
  rw [four4_set vs hd] at hset
  have hsz : (w'.setCell ⟨pb, d, none⟩ v').heap.size = w'.heap.size := by simp [World.setCell]
  refine ⟨hset, h.new, fun k hk => by rw [hsz]; exact Nat.lt_of_lt_of_le (h.mlt k hk) kp.1, h.mne, fun c hc => ?_, fun a c ha hc hne k hk => ?_⟩
  · by_cases he : c = d
    · subst he
      rw [upd_same, upd_same, upd_same]
      exact (ob.mono (M := fun k => k = pb ∨ M k) fun k hk => hk.elim .inl fun hk => .inr (.inl hk)).set (.inl rfl) h.new _
    · rw [upd_other _ _ he, upd_other _ _ he, upd_other _ _ he]
      have hc1 := h.own c hc
      have : OwnBut (fun k => k = pb ∨ M k) w0 w' e size (vs c) (n c) (xs c) :=
        ⟨⟨kp.owns hc1.at_.own (fun k hk => .inr (.inr ⟨c, hc, he, hk⟩)), hc1.at_.new, ob.at_.frm⟩, hc1.but⟩
      exact this.set (.inl rfl) h.new _
  · by_cases hea : a = d
    · subst hea
      rw [upd_same] at hk
      rw [upd_other _ _ (Ne.symm hne)]
      exact fun hck => ob.but k hk (.inr (.inr ⟨c, hc, Ne.symm hne, hck⟩))
    · rw [upd_other _ _ hea] at hk
      by_cases hec : c = d
      · subst hec
        rw [upd_same]
        exact fun hck => ob.but k hck (.inr (.inr ⟨a, ha, hea, hk⟩))
      · rw [upd_other _ _ hec]
        exact h.apart a c ha hc hne k hk
theorem FourAt.congr {n' : Nat → Nat} {xs' : Nat → List Value} (h : FourAt M T e size w0 w pb vs n xs) (hn : ∀ d, d < 4 → n' d = n d) (hx : ∀ d, d < 4 → xs' d = xs d) : FourAt M T e size w0 w pb vs n' xs' :=
  ⟨h.blk, h.new, h.mlt, h.mne, fun d hd => by rw [hn d hd, hx d hd]; exact h.own d hd, h.apart⟩
end
/-- Four cells of a block of one's own are stored. -/
theorem res4 {w0 w : World} {b : Nat} {T : TypeId} {a0 a1 a2 a3 : Value} (h : w.heap[b]? = some (.cells #[a0, a1, a2, a3] T (0, 0))) (f : Frm NoS w0 w) (hb : w0.heap.size ≤ b) (v0 v1 v2 v3 : Value) :
    ((((w.setCell ⟨b, 0, none⟩ v0).setCell ⟨b, 1, none⟩ v1).setCell ⟨b, 2, none⟩ v2).setCell ⟨b, 3, none⟩ v3).heap[b]? = some (.cells #[v0, v1, v2, v3] T (0, 0)) ∧
    Frm NoS w0 ((((w.setCell ⟨b, 0, none⟩ v0).setCell ⟨b, 1, none⟩ v1).setCell ⟨b, 2, none⟩ v2).setCell ⟨b, 3, none⟩ v3) :=
  ⟨set_at' (set_at' (set_at' (set_at' h 0 v0) 1 v1) 2 v2) 3 v3, (((f.set1 (p := ⟨b, 0, none⟩) (.inr hb)).set1 (p := ⟨b, 1, none⟩) (.inr hb)).set1 (p := ⟨b, 2, none⟩) (.inr hb)).set1 (p := ⟨b, 3, none⟩) (.inr hb)⟩
/-- At the start they are nil. -/
theorem FourAt.start {M : Nat → Prop} {w0 w : World} (T e : TypeId) (size : Nat) (f : Frm NoS w0 w) (hm : ∀ k, M k → k < w.heap.size) :
    FourAt M T e size w0 (w.alloc (.cells #[.slice none 0 0, .slice none 0 0, .slice none 0 0, .slice none 0 0] T)) w.heap.size (fun _ => .slice none 0 0) (fun _ => 0) (fun _ => []) :=
  ⟨heap_alloc_new w _, f.size, fun k hk => by have := hm k hk; simp; omega, fun h => by have := hm _ h; omega, fun d _ => OwnBut.nil (f.trans (Frm.alloc _ _ _) fun _ _ h => h) _ _, fun d c _ _ _ k hk => by simp [Value.ownBlock] at hk⟩
section
variable {P : Program}
/-- append in a region that draws its order, of what the translation has just laid. -/
theorem step_appB {ops : Array Oper} {o : Oper} {a : Act} (N : Nat → Prop) (w0 w : World) {K : Act → World → Prop} {Q : Exit → Act → World → Prop} {E : Prop} (news : List Value) (hgd : o.guard = none) (s x : Operand) (t : TypeId)
    (ho : o.op = .call { callee := .builtin .append, args := #[s, x], argTypes := #[t, t] })
    (e : TypeId) (i : TypeInfo) (z : Value) (size bytes : Nat) (ht : P.underlying t = some (.slice e)) (hi : P.info? e = some i) (hz : i.zero = some z)
    (hsize : i.size = size) (hby : i.bytes = bytes) (hzs : z.cells.size = size) (hsz : 0 < size)
    (v : Value) (n : Nat) (xs : List Value) (hown : OwnBut N w0 w e size v n xs) (hN : ∀ k, N k → k < w.heap.size) (m c : Nat) (hv : a.eval s = v) (hx : a.eval x = .slice (some ⟨w.heap.size, 0, none⟩) m c)
    (hnl : news.length = m * size) (h1 : ∀ u ∈ news, u.oneCell' = true) (h63 : n + m ≤ maxLen) (hbytes : (n + m) * bytes ≤ 140737488355328)
    (h : ∀ ad c w', OwnBut N w0 w' e size (.slice ad (n + m) c) (n + m) (xs ++ news) → KeepsN N w w' → K (a.put o.dst (.slice ad (n + m) c)) w') :
    if Region.wanted o (yielded ops a.tmps) = true then Oper.wp P o a (w.alloc (.cells news.toArray e)) K Q else E := by
  have hw : Region.wanted o (yielded ops a.tmps) = true := by simp [Region.wanted, hgd]
  rw [if_pos hw]
  have hs : Src P size t (.slice (some ⟨w.heap.size, 0, none⟩) m c) m news (w.alloc (.cells news.toArray e)) :=
    Src.ofSlice _ ht ⟨w.heap.size, 0, none⟩ m c news hnl (fun j u hj => by
      have hadd : (⟨w.heap.size, 0, none⟩ : Addr).add j = ⟨w.heap.size, j, none⟩ := by unfold Addr.add; split <;> simp_all
      rw [hadd, cell_of_row (w.alloc (.cells news.toArray e)) w.heap.size j news.toArray e (0, 0) (heap_alloc_new w _)]
      simpa using hj) h1
  obtain ⟨v', w', hr, h2, h3, h4, ⟨ad, c', rfl⟩, h6⟩ := run_app (P := P) (w.alloc (.cells news.toArray e)) t t o.type e i z size bytes ht hi hz hsize hby hzs hsz v n xs (hown.at_.own.alloc _) _ m news hs h63 hbytes
  unfold Oper.wp execOp
  simp only [ho, resolve, invoke, builtin, Sem.run_bind, Sem.run_pure, Result.andThen_ok, List.map_toArray, List.map_cons, List.map_nil, hv, hx, hr]
  have hst := hown.step hN h2 ((Frm.alloc (RowS v) w _).trans h3 (fun _ _ h => h)) fun k hk => (h4 k hk).elim .inl fun h => .inr (by simp at h; omega)
  exact h ad c' w' hst.1 hst.2
end
end Go.Proofs.YtggfoihfenlckaaGreat
/- span: joined: the walk. -/
namespace Go.Proofs.YtggfoihfenlckaaGreat
open Go.RowKit
theorem info_srun : (Tryz.prog.info? 225).map (fun i => (i.zero, i.size, i.bytes)) = some (some (.agg #[.int .i64 0, .int .i64 0]), 2, 16) := by kernel_rfl
/-- What is joined of the first k runs. -/
def JnInv (l : RunL) (k : Nat) (out : RunL) : Prop := (k = 0 ∧ out = []) ∨ ∃ acc cur, out = acc ++ [cur] ∧ joinedL l = acc ++ jn cur (l.drop k)
theorem drop_getD {l : RunL} {k : Nat} (h : k < l.length) : l.drop k = l.getD k (0, 0) :: l.drop (k + 1) := by
  rw [getD_at (0, 0) h]; exact List.drop_eq_getElem_cons h
theorem JnInv.push0 {l : RunL} (h : 0 < l.length) : JnInv l (0 + 1) [l.getD 0 (0, 0)] := by
  refine .inr ⟨[], l.getD 0 (0, 0), rfl, ?_⟩
  cases l with
  | nil => cases h
  | cons r l => rfl
theorem JnInv.open_ {l : RunL} {k : Nat} {acc : RunL} {cur : Int × Int} (h : JnInv l k (acc ++ [cur])) : joinedL l = acc ++ jn cur (l.drop k) := by
  rcases h with ⟨_, h⟩ | ⟨acc', cur', h1, h2⟩
  · simp at h
  · obtain ⟨e1, e2⟩ := List.append_inj' h1 rfl
    injection e2 with e2
    rw [e1, e2]; exact h2
theorem JnInv.meet {l : RunL} {k : Nat} {acc : RunL} {cur : Int × Int} (h : JnInv l k (acc ++ [cur])) (hk : k < l.length) (hc : (l.getD k (0, 0)).1 ≤ cur.2 + 1) : JnInv l (k + 1) (acc ++ [(cur.1, max cur.2 (l.getD k (0, 0)).2)]) := by
  refine .inr ⟨acc, _, rfl, ?_⟩
  rw [h.open_, drop_getD hk, jn, if_pos hc]
theorem JnInv.away {l : RunL} {k : Nat} {acc : RunL} {cur : Int × Int} (h : JnInv l k (acc ++ [cur])) (hk : k < l.length) (hc : ¬ (l.getD k (0, 0)).1 ≤ cur.2 + 1) : JnInv l (k + 1) (acc ++ [cur] ++ [l.getD k (0, 0)]) := by
  refine .inr ⟨acc ++ [cur], _, rfl, ?_⟩
  rw [h.open_, drop_getD hk, jn, if_neg hc]; simp
theorem JnInv.all {l : RunL} {k : Nat} {out : RunL} (h : JnInv l k out) (hk : l.length = k) : out = joinedL l := by
  rcases h with ⟨h0, rfl⟩ | ⟨acc, cur, rfl, h⟩
  · have : l = [] := List.eq_nil_of_length_eq_zero (by omega)
    subst this; rfl
  · rw [h, List.drop_of_length_le (by omega), jn]
theorem OwnAt.set_last {w0 w : World} {e : TypeId} {g L c : Nat} {lo : RunL} {r : Int × Int} (h : OwnAt w0 w e 2 (.slice (some ⟨g, 0, none⟩) (L + 1) c) (L + 1) (ruC (lo ++ [r]))) (hL : lo.length = L) (hi : Int) :
    OwnAt w0 (w.setCell ⟨g, L * 2 + 1, none⟩ (.int .i64 hi)) e 2 (.slice (some ⟨g, 0, none⟩) (L + 1) c) (L + 1) (ruC (lo ++ [(r.1, hi)])) := by
  obtain ⟨g', c', he, _, _, _, _, _, hset⟩ := h.row (by omega)
  injection he with e1 e2 e3
  injection e1 with e1
  injection e1 with e4 e5
  subst e4
  have := hset (L * 2 + 1) (.int .i64 hi)
  rw [← hL, ruC_set_last, hL] at this
  exact this
theorem max_if (a b : Int) : (if a < b then b else a) = max a b := by split <;> omega
def Bd (r : Int × Int) : Prop := 1 ≤ r.1 ∧ r.1 ≤ 1099511627776 ∧ 1 ≤ r.2 ∧ r.2 ≤ 1099511627776
set_option maxHeartbeats 2000000 in
set_option maxRecDepth 1000000 in
theorem sjoined_any (w : World) (v : Value) (l : RunL) (hv : RunAt w v l) (hl : l.length ≤ 200000) (hb : ∀ r ∈ l, Bd r) :
    Calls Tryz.prog 203 #[v] w fun e w' => ∃ v', e = .returned v' ∧ OwnAt w w' 225 2 v' (joinedL l).length (ruC (joinedL l)) := by
  obtain ⟨i0, hi, hz0, hz1, hz2⟩ := info_parts info_srun
  obtain ⟨aA, cA, rfl⟩ := hv.sl
  have HH := Lib.hid hv; clear hv
  have HB := Lib.hid hb; clear hb
  generalize hn : l.length = n at *
  have HN := Lib.hid hn; clear hn
  have HLL := Lib.hid hl; clear hl
  go_enter Tryz.func203, Tryz.ntmps203
  go_wp2
  go_loopw [3, 9] (fun v i ww => ∃ (k : Nat) (out : RunL), k ≤ n ∧ out.length ≤ k ∧ i = .int .i64 k ∧ OwnAt w ww 225 2 v out.length (ruC out) ∧ JnInv l k out ∧ ∀ r ∈ out, Bd r) (fun _ i _ => n - (intOf i).toNat)
  case atStart => exact ⟨0, [], Nat.zero_le _, Nat.le_refl _, rfl, OwnAt.nil (Frm.refl _ _) _ _, .inl ⟨rfl, rfl⟩, (fun r hr => by cases hr)⟩
  case round =>
    obtain ⟨k, out, hk, hok, rfl, ho, hj, hbo⟩ := hrel
    have HO := Lib.hid ho; clear ho
    have HJ := Lib.hid hj; clear hj
    have HBO := Lib.hid hbo; clear hbo
    by_cases hlt : k < n
    · rcases Rd.shape HH.out with ⟨ad, he, h0⟩ | ⟨b, off, cc, he, hmax⟩
      · exfalso; have := HN.out; omega
      · injection he with e1 e2 e3
        subst e1 e3
        clear e2
        rw [HN.out] at hmax
        have hlk : k < l.length := by rw [HN.out]; exact hlt
        obtain ⟨p0, p1⟩ := run_at HH.out HN.out.symm k hlk
        have q0 := HO.out.frm.cell' p0 id
        have q1 := HO.out.frm.cell' p1 id
        clear p0 p1
        have hbr := HB.out _ (getD_mem (0, 0) hlk)
        have HBR := Lib.hid hbr
        obtain ⟨r1, r2, r3, r4⟩ := hbr
        have hkm : k ≤ 200000 := Nat.le_trans (Nat.le_of_lt hlt) HLL.out
        rcases List.eq_nil_or_concat out with rfl | ⟨lo, r, rfl⟩
        · have hk0 : k = 0 := by
            rcases HJ.out with ⟨h, _⟩ | ⟨acc, cur, h, _⟩
            · exact h
            · simp at h
          subst hk0
          have HST := Lib.hid (JnInv.push0 hlk)
          generalize l.getD 0 (0, 0) = s at *
          simp only [Nat.zero_mul, Nat.add_zero] at q0 q1
          obtain ⟨av, cv, rfl⟩ := HO.out.shape
          go_wp2_with fail
          go_big_quiet (fail)
          go_wp2_with (at_builtin; go_loud (refine wpList_appO w _ [.int .i64 s.1, .int .i64 s.2] rfl (.tmp 43) (.tmp 45) 195 rfl 225 i0 _ 2 16 Tryz.underlying195 hi hz0 hz1 hz2 (by decide) (by decide) _ _ _ (HO.out.keep (Frm.alloc _ _ _).drewN1) 1 1 rfl (by simp [Act.eval]) rfl (by simp [Value.oneCell']) (by simp [maxLen]) (by simp) ?_); intro ad cc2 w2 own2; have OW := Lib.hid own2; clear own2)
          go_roundw
          case rel => exact ⟨0 + 1, [s], by omega, by simp, by go_num, OW.out, HST.out, fun r hr => by simp at hr; subst hr; exact HBR.out⟩
          case measure => simp [intOf]; omega
        · rw [List.concat_eq_append] at *
          have hln : (lo ++ [r]).length = lo.length + 1 := by simp
          have ho2 := HO.out
          rw [hln] at ho2 hok
          clear HO hln
          obtain ⟨g, c2, rfl, hg0, hg, hc2, hcell, hfro, hset⟩ := ho2.row (by simp)
          have cl := hcell _ _ (ruC_last lo r)
          have fl := hfro (lo.length * 2 + 1)
          have HO := Lib.hid ho2; clear ho2
          have hbr2 := HBO.out r (by simp)
          have HBR2 := Lib.hid hbr2
          obtain ⟨t1, t2, t3, t4⟩ := hbr2
          have HM := Lib.hid (fun hc => JnInv.meet HJ.out hlk hc)
          have HA := Lib.hid (fun hc => JnInv.away HJ.out hlk hc)
          generalize hL : lo.length = L at *
          have HLN := Lib.hid hL; clear hL
          have HOK := Lib.hid hok; clear hok
          generalize l.getD k (0, 0) = s at *
          have hL5 : L + 1 ≤ 200000 := Nat.le_trans HOK.out hkm
          have hgb : g < wr.heap.size := hg
          clear hcell hfro hset
          by_cases hc : s.1 ≤ r.2 + 1
          · go_wp2_with fail
            go_big_quiet (fail)
            go_wp2_with fail
            have hfr : Frm NoS wr ((wr.alloc (.cells #[.int .i64 s.1, .int .i64 s.2] 225)).drewN nq) := (Frm.alloc _ _ _).drewN1
            have n1 : ((wr.alloc (.cells #[.int .i64 s.1, .int .i64 s.2] 225)).drewN nq).cell? ⟨wr.heap.size, 1, none⟩ = some (.int .i64 s.2) := cell_at' (heap_alloc_new wr _) 1 rfl
            have cl2 := hfr.cell' cl id
            have fl2 := (hfr.frozen (p := ⟨g, L * 2 + 1, none⟩) hgb id).trans fl
            have hg2 : g < ((wr.alloc (.cells #[.int .i64 s.1, .int .i64 s.2] 225)).drewN nq).heap.size := Nat.lt_of_lt_of_le hgb hfr.size
            have HFR := Lib.hid hfr; clear hfr
            clear cl fl q0 q1
            have hgs : wr.heap.size ≠ g := by omega
            generalize wr.heap.size = rs at *
            generalize (wr.alloc (.cells #[.int .i64 s.1, .int .i64 s.2] 225)).drewN nq = W2 at *
            have hwr : IntKind.i64.wrap (L : Int) = L := IntWalk.i64_in _ (by omega)
            have hx0 : (0 : Int) ≤ (L : Int) := by omega
            have hx1 : (L : Int) < (L : Int) + 1 := by omega
            have hx2 : (L : Int) < ((L + 1 : Nat) : Int) := by omega
            go_still_tail 14, (by kernel_rfl)
            clear hwr
            change wpList _ _ _ _ _ W2.drew
            clear hx0 hx1 hx2
            go_wp2
            go_roundw
            case rel =>
              refine ⟨k + 1, lo ++ [(r.1, max r.2 s.2)], by omega, by rw [List.length_append, HLN.out]; exact Nat.succ_le_succ (Nat.le_trans (Nat.le_succ _) HOK.out), by go_num, ?_, HM.out hc, ?_⟩
              · rw [List.length_append, HLN.out]
                try rw [max_if]
                exact ((HO.out.keep HFR.out).set_last HLN.out _).keep (Frm.drew _ _)
              · intro x hx
                rcases List.mem_append.1 hx with hx | hx
                · exact HBO.out x (List.mem_append_left _ hx)
                · simp at hx; subst hx; exact ⟨t1, t2, by show 1 ≤ max r.2 s.2; omega, by show max r.2 s.2 ≤ _; omega⟩
            case measure => simp [intOf]; omega
          · go_wp2_with fail
            go_big_quiet (fail)
            go_wp2_with (at_builtin; go_loud (refine wpList_appO w _ [.int .i64 s.1, .int .i64 s.2] rfl (.tmp 43) (.tmp 45) 195 rfl 225 i0 _ 2 16 Tryz.underlying195 hi hz0 hz1 hz2 (by decide) (by decide) _ _ _ (HO.out.keep (Frm.alloc _ _ _).drewN1) 1 1 rfl (by simp [Act.eval]) rfl (by simp [Value.oneCell']) (by simp only [maxLen]; omega) (by omega) ?_); intro ad cc2 w2 own2; have OW := Lib.hid own2; clear own2)
            go_roundw
            case rel => exact ⟨k + 1, lo ++ [r] ++ [s], by omega, by rw [List.length_append, List.length_append, HLN.out]; have := HOK.out; simp; omega, by go_num, by rw [List.length_append, List.length_append, HLN.out, ruC_append]; exact OW.out, HA.out hc, fun x hx => by
              rcases List.mem_append.1 hx with hx | hx
              · exact HBO.out x hx
              · simp at hx; subst hx; exact HBR.out⟩
            case measure => simp [intOf]; omega
    · obtain rfl : n = k := by omega
      obtain ⟨av, cv, hv⟩ := HO.out.shape
      subst hv
      go_wp2
      go_ret
      have := HJ.out.all HN.out
      subst this
      exact ⟨_, rfl, HO.out⟩
end Go.Proofs.YtggfoihfenlckaaGreat
/- context: apart: the walk. -/
namespace Go.Proofs.YtggfoihfenlckaaGreat
open Go.RowKit
def LastIs (c : CtxL) (k la : Nat) : Prop := (k = 0 ∧ la = 0) ∨ (0 < k ∧ (c.getD (k - 1) (0, 0, 0)).1 = la)
theorem apart_step {c : CtxL} {k la : Nat} (h : DcFrom 0 (c.take k)) (hl : LastIs c k la) (hk : k < c.length) :
    DcFrom 0 (c.take (k + 1)) ↔ (la : Int) ≤ (c.getD k (0, 0, 0)).1 ∧ (c.getD k (0, 0, 0)).1 < 4 := by
  rw [dcFrom_step h hk]
  rcases hl with ⟨rfl, rfl⟩ | ⟨h0, h1⟩
  · simp
  · have hge : 0 ≤ (c.getD (k - 1) (0, 0, 0)).1 := by rw [h1]; omega
    rw [h1] at hge ⊢
    constructor
    · rintro ⟨_, h3, h4⟩; exact ⟨h4 h0, h3⟩
    · rintro ⟨h3, h4⟩; exact ⟨by omega, h4, fun _ => h3⟩
theorem not_dcFrom {c : CtxL} {k : Nat} (h : ¬ DcFrom 0 (c.take k)) : ¬ RightC c := fun hr => h (dcFrom_take hr.1 k)
/-- A context's parts. -/
structure PartsAt (w0 w : World) (vs : Nat → Value) (p : Nat → RunL) : Prop where
  own : ∀ d, d < 4 → OwnAt w0 w 225 2 (vs d) (p d).length (ruC (p d))
def ApartPost (w : World) (c : CtxL) (e : Ending) (w' : World) : Prop :=
  Frm NoS w w' ∧ (RightC c → ∃ A : Nat → Option Addr × Nat × Nat, e = .returned (.tuple #[.agg #[.slice (A 0).1 (A 0).2.1 (A 0).2.2, .slice (A 1).1 (A 1).2.1 (A 1).2.2, .slice (A 2).1 (A 2).2.1 (A 2).2.2, .slice (A 3).1 (A 3).2.1 (A 3).2.2], .bool true]) ∧ PartsAt w w' (fun d => .slice (A d).1 (A d).2.1 (A d).2.2) (fun d => partL c d)) ∧ (¬ RightC c → e = .returned (.tuple #[.agg #[.slice none 0 0, .slice none 0 0, .slice none 0 0, .slice none 0 0], .bool false]))
set_option maxHeartbeats 4000000 in
set_option maxRecDepth 1000000 in
theorem capart_any (w : World) (v : Value) (c : CtxL) (hv : CtxAt w v c) (hf : FitsC c) (hl : c.length ≤ 100000) :
    Calls Tryz.prog 127 #[v] w (ApartPost w c) := by
  obtain ⟨i0, hi, hz0, hz1, hz2⟩ := info_parts info_srun
  obtain ⟨aA, cA, rfl⟩ := hv.sl
  have HH := Lib.hid hv; clear hv
  have HF := Lib.hid hf; clear hf
  generalize hn : c.length = n at *
  have HN := Lib.hid hn; clear hn
  have HLL := Lib.hid hl; clear hl
  have HST := Lib.hid (FourAt.start (M := fun k => k = w.heap.size) 197 225 2 (Frm.alloc NoS w (.cells #[.slice none 0 0, .slice none 0 0, .slice none 0 0, .slice none 0 0] 197)) (fun k hk => by rw [hk]; simp))
  go_enter Tryz.func127, Tryz.ntmps127
  go_wp2
  go_loopw [5, 12] (fun la i ww => ∃ (k l : Nat) (vs : Nat → Value), k ≤ n ∧ i = .int .i64 k ∧ la = .int .i64 l ∧ l < 4 ∧ LastIs c k l ∧ DcFrom 0 (c.take k) ∧
    FourAt (fun k => k = w.heap.size) 197 225 2 w ww (w.heap.size + 1) vs (fun d => (partL (c.take k) d).length) (fun d => ruC (partL (c.take k) d)) ∧ ww.heap[w.heap.size]? = some (.cells #[.slice none 0 0, .slice none 0 0, .slice none 0 0, .slice none 0 0] 197 (0, 0))) (fun _ i _ => n - (intOf i).toNat)
  case atStart => exact ⟨0, 0, fun _ => .slice none 0 0, Nat.zero_le _, rfl, rfl, by omega, .inl ⟨rfl, rfl⟩, trivial, by have := HST.out; simp only [World.size_alloc] at this; exact this, by rw [Below.heap_alloc _ _ _ (by simp)]; exact heap_alloc_new w _⟩
  case round =>
    obtain ⟨k, l, vs, hk, rfl, rfl, hl4, hla, hdc, h4, hres⟩ := hrel
    have H4 := Lib.hid h4; clear h4
    have HRES := Lib.hid hres; clear hres
    have HDC := Lib.hid hdc; clear hdc
    have HLA := Lib.hid hla; clear hla
    have z0 : wr.cell? ⟨w.heap.size, 0, none⟩ = some (.slice none 0 0) := cell_at' HRES.out 0 rfl
    have z1 : wr.cell? ⟨w.heap.size, 1, none⟩ = some (.slice none 0 0) := cell_at' HRES.out 1 rfl
    have z2 : wr.cell? ⟨w.heap.size, 2, none⟩ = some (.slice none 0 0) := cell_at' HRES.out 2 rfl
    have z3 : wr.cell? ⟨w.heap.size, 3, none⟩ = some (.slice none 0 0) := cell_at' HRES.out 3 rfl
    have f0 := free_at' HRES.out 0
    have f1 := free_at' HRES.out 1
    have f2 := free_at' HRES.out 2
    have f3 := free_at' HRES.out 3
    have hgr : w.heap.size < wr.heap.size := lt_of_block HRES.out
    have HR4 := Lib.hid (res4 HRES.out H4.out.frm (Nat.le_refl _) (.slice none 0 0) (.slice none 0 0) (.slice none 0 0) (.slice none 0 0))
    by_cases hlt : k < n
    · rcases Rd.shape HH.out with ⟨ad, he, h0⟩ | ⟨b, off, cc, he, hmax⟩
      · exfalso; have := HN.out; omega
      · injection he with e1 e2 e3
        subst e1 e3
        clear e2
        rw [HN.out] at hmax
        have hlk : k < c.length := by rw [HN.out]; exact hlt
        obtain ⟨p0, p1, p2⟩ := spn_at HH.out HN.out.symm k hlk
        have q0 := H4.out.frm.cell' p0 id
        have q1 := H4.out.frm.cell' p1 id
        have q2 := H4.out.frm.cell' p2 id
        clear p0 p1 p2
        have hbf := HF.out _ (getD_mem (0, 0, 0) hlk)
        have HS := Lib.hid (apart_step HDC.out HLA.out hlk)
        have HPT := Lib.hid (fun d => partL_take_succ (c := c) (k := k) d hlk)
        obtain ⟨s, hgd⟩ : ∃ s, s = c.getD k (0, 0, 0) := ⟨_, rfl⟩
        rw [← hgd] at HS HPT q0 q1 q2 hbf
        have HGD := Lib.hid hgd.symm; clear hgd
        by_cases c1 : s.1 < (l : Int)
        · go_wp2
          have hb4 := HR4.out.1
          have y0 := (Frm.alloc NoS _ (.cells #[.int .i64 s.1, .int .i64 s.2.1, .int .i64 s.2.2] 122)).cell' (cell_at' hb4 0 rfl) id
          have y1 := (Frm.alloc NoS _ (.cells #[.int .i64 s.1, .int .i64 s.2.1, .int .i64 s.2.2] 122)).cell' (cell_at' hb4 1 rfl) id
          have y2 := (Frm.alloc NoS _ (.cells #[.int .i64 s.1, .int .i64 s.2.1, .int .i64 s.2.2] 122)).cell' (cell_at' hb4 2 rfl) id
          have y3 := (Frm.alloc NoS _ (.cells #[.int .i64 s.1, .int .i64 s.2.1, .int .i64 s.2.2] 122)).cell' (cell_at' hb4 3 rfl) id
          refine bodyPost_ret (v := .tuple #[.agg #[.slice none 0 0, .slice none 0 0, .slice none 0 0, .slice none 0 0], .bool false]) (by simp [results, Tryz.results127, go_sem, y0, y1, y2, y3]) rfl ⟨HR4.out.2.alloc1, fun hr => absurd hr (not_dcFrom (k := k + 1) fun h => by have := (HS.out.1 h).1; omega), fun _ => rfl⟩
        · by_cases c2 : 4 ≤ s.1
          · go_wp2
            have hb4 := HR4.out.1
            have y0 := (Frm.alloc NoS _ (.cells #[.int .i64 s.1, .int .i64 s.2.1, .int .i64 s.2.2] 122)).cell' (cell_at' hb4 0 rfl) id
            have y1 := (Frm.alloc NoS _ (.cells #[.int .i64 s.1, .int .i64 s.2.1, .int .i64 s.2.2] 122)).cell' (cell_at' hb4 1 rfl) id
            have y2 := (Frm.alloc NoS _ (.cells #[.int .i64 s.1, .int .i64 s.2.1, .int .i64 s.2.2] 122)).cell' (cell_at' hb4 2 rfl) id
            have y3 := (Frm.alloc NoS _ (.cells #[.int .i64 s.1, .int .i64 s.2.1, .int .i64 s.2.2] 122)).cell' (cell_at' hb4 3 rfl) id
            refine bodyPost_ret (v := .tuple #[.agg #[.slice none 0 0, .slice none 0 0, .slice none 0 0, .slice none 0 0], .bool false]) (by simp [results, Tryz.results127, go_sem, y0, y1, y2, y3]) rfl ⟨HR4.out.2.alloc1, fun hr => absurd hr (not_dcFrom (k := k + 1) fun h => by have := (HS.out.1 h).2; omega), fun _ => rfl⟩
          · obtain ⟨dn, hdn⟩ : ∃ dn : Nat, s.1 = dn := ⟨s.1.toNat, by omega⟩
            have hd4 : dn < 4 := by omega
            rw [hdn] at c1 c2 q0
            have HDN := Lib.hid hdn; clear hdn
            have hcd := H4.out.cell hd4
            have hc4 : (dn : Int) < 4 := by omega
            clear z0 z1 z2 z3 f0 f1 f2 f3
            have hsp : (wr.alloc (.cells #[.int .i64 s.1, .int .i64 s.2.1, .int .i64 s.2.2] 122)).heap[wr.heap.size]? = some (.cells #[.int .i64 s.1, .int .i64 s.2.1, .int .i64 s.2.2] 122 (0, 0)) := heap_alloc_new wr _
            rw [HDN.out] at hsp
            have HK4 := Lib.hid (((H4.out.box (.cells #[.int .i64 dn, .int .i64 s.2.1, .int .i64 s.2.2] 122)).keep (Frm.drew _ _)))
            have HRK := Lib.hid ((Frm.alloc NoS wr (.cells #[.int .i64 dn, .int .i64 s.2.1, .int .i64 s.2.2] 122)).drew1.blk HRES.out id)
            have hsb : wr.heap.size < (wr.alloc (.cells #[.int .i64 dn, .int .i64 s.2.1, .int .i64 s.2.2] 122)).heap.size := by simp
            have hlen : (partL (c.take k) dn).length ≤ k := Nat.le_trans (partL_length_le _ _) (List.length_take_le _ _)
            have HLEN := Lib.hid (Nat.le_trans hlen (Nat.le_trans hk HLL.out))
            clear hlen
            go_wp2_with fail
            generalize hW : wr.alloc (.cells #[.int .i64 dn, .int .i64 s.2.1, .int .i64 s.2.2] 122) = W at *
            clear hW hgr q0 q1 q2 hcd
            generalize wr.heap.size = sb at *
            obtain ⟨pl, hpl⟩ : ∃ pl, pl = (partL (c.take k) dn).length := ⟨_, rfl⟩
            have hob : OwnBut (Rest4 (fun k => k = w.heap.size ∨ k = sb) (w.heap.size + 1) vs dn) w W.drew 225 2 (vs dn) pl (ruC (partL (c.take k) dn)) := by rw [hpl]; exact HK4.out.but hd4
            have HOB := Lib.hid hob; clear hob
            rw [← hpl] at HLEN
            have HPL := Lib.hid hpl; clear hpl
            refine wp_region_G (S := fun w' => w'.cell? ⟨sb, 0, none⟩ = some (.int .i64 dn) ∧ w'.cell? ⟨sb, 1, none⟩ = some (.int .i64 s.2.1) ∧ w'.cell? ⟨sb, 2, none⟩ = some (.int .i64 s.2.2) ∧ w'.cell? ⟨w.heap.size + 1, dn, none⟩ = some (vs dn)) 14 (by kernel_rfl) ⟨cell_at' hsp 0 rfl, cell_at' hsp 1 rfl, cell_at' hsp 2 rfl, HK4.out.cell hd4⟩ ?_
            intro hS
            have hsb : sb < W.drew.heap.size := hsb
            have hsp : W.drew.heap[sb]? = _ := hsp
            generalize W.drew = Y at *
            have HSP := Lib.hid hsp; clear hsp
            refine take_opG 0 28 (v := ?_) rfl rfl (by kernel_rfl) (by kernel_rfl) (by decide) (by kernel_rfl) (by kernel_rfl) (fun _ _ _ h => h) (Or.inl ⟨by rfl, ?_⟩) (by assumption) ?_
            rotate_left 1
            · (intro w hSw; (try dsimp only at hSw); go_simp; (try with_reducible rfl))
            try simp only [Act.put, List.setIfInBounds_toArray, List.set_cons_zero, List.set_cons_succ]
            refine take_opG 1 29 (v := ?_) rfl rfl (by kernel_rfl) (by kernel_rfl) (by decide) (by kernel_rfl) (by kernel_rfl) (fun _ _ _ h => h) (Or.inl ⟨by rfl, ?_⟩) (by assumption) ?_
            rotate_left 1
            · (intro w hSw; (try dsimp only at hSw); go_simp; (try with_reducible rfl))
            try simp only [Act.put, List.setIfInBounds_toArray, List.set_cons_zero, List.set_cons_succ]
            refine take_opG 2 30 (v := ?_) rfl rfl (by kernel_rfl) (by kernel_rfl) (by decide) (by kernel_rfl) (by kernel_rfl) (fun _ _ _ h => h) (Or.inl ⟨by rfl, ?_⟩) (by assumption) ?_
            rotate_left 1
            · (intro w hSw; (try dsimp only at hSw); go_simp; (try with_reducible rfl))
            try simp only [Act.put, List.setIfInBounds_toArray, List.set_cons_zero, List.set_cons_succ]
            refine take_opG 3 31 (v := ?_) rfl rfl (by kernel_rfl) (by kernel_rfl) (by decide) (by kernel_rfl) (by kernel_rfl) (fun _ _ _ h => h) (Or.inl ⟨by rfl, ?_⟩) (by assumption) ?_
            rotate_left 1
            · (intro w hSw; (try dsimp only at hSw); go_simp; (try with_reducible rfl))
            try simp only [Act.put, List.setIfInBounds_toArray, List.set_cons_zero, List.set_cons_succ]
            refine take_opG 4 32 (v := ?_) rfl rfl (by kernel_rfl) (by kernel_rfl) (by decide) (by kernel_rfl) (by kernel_rfl) (fun _ _ _ h => h) (Or.inl ⟨by rfl, ?_⟩) (by assumption) ?_
            rotate_left 1
            · (intro w hSw; (try dsimp only at hSw); go_simp; (try with_reducible rfl))
            try simp only [Act.put, List.setIfInBounds_toArray, List.set_cons_zero, List.set_cons_succ]
            refine take_opG 5 33 (v := ?_) rfl rfl (by kernel_rfl) (by kernel_rfl) (by decide) (by kernel_rfl) (by kernel_rfl) (fun _ _ _ h => h) (Or.inl ⟨by rfl, ?_⟩) (by assumption) ?_
            rotate_left 1
            · (intro w hSw; (try dsimp only at hSw); go_simp; (try with_reducible rfl))
            try simp only [Act.put, List.setIfInBounds_toArray, List.set_cons_zero, List.set_cons_succ]
            refine take_opG 6 34 (v := ?_) rfl rfl (by kernel_rfl) (by kernel_rfl) (by decide) (by kernel_rfl) (by kernel_rfl) (fun _ _ _ h => h) (Or.inl ⟨by rfl, ?_⟩) (by assumption) ?_
            rotate_left 1
            · (intro w hSw; (try dsimp only at hSw); go_simp; (try with_reducible rfl))
            try simp only [Act.put, List.setIfInBounds_toArray, List.set_cons_zero, List.set_cons_succ]
            refine take_opG 7 35 (v := ?_) rfl rfl (by kernel_rfl) (by kernel_rfl) (by decide) (by kernel_rfl) (by kernel_rfl) (fun _ _ _ h => h) (Or.inl ⟨by rfl, ?_⟩) (by assumption) ?_
            rotate_left 1
            · (intro w hSw; (try dsimp only at hSw); go_simp; (try with_reducible rfl))
            try simp only [Act.put, List.setIfInBounds_toArray, List.set_cons_zero, List.set_cons_succ]
            refine take_opG 8 36 (v := ?_) rfl rfl (by kernel_rfl) (by kernel_rfl) (by decide) (by kernel_rfl) (by kernel_rfl) (fun _ _ _ h => h) (Or.inl ⟨by rfl, ?_⟩) (by assumption) ?_
            rotate_left 1
            · (intro w hSw; (try dsimp only at hSw); go_simp; (try with_reducible rfl))
            try simp only [Act.put, List.setIfInBounds_toArray, List.set_cons_zero, List.set_cons_succ]
            refine take_opG 9 37 (v := ?_) rfl rfl (by kernel_rfl) (by kernel_rfl) (by decide) (by kernel_rfl) (by kernel_rfl) (fun _ _ _ h => h) (Or.inl ⟨by rfl, ?_⟩) (by assumption) ?_
            rotate_left 1
            · (intro w hSw; (try dsimp only at hSw); go_simp; (try with_reducible rfl))
            try simp only [Act.put, List.setIfInBounds_toArray, List.set_cons_zero, List.set_cons_succ]
            refine take_opG 10 38 (v := ?_) rfl rfl (by kernel_rfl) (by kernel_rfl) (by decide) (by kernel_rfl) (by kernel_rfl) (fun _ _ _ h => h) (Or.inl ⟨by rfl, ?_⟩) (by assumption) ?_
            rotate_left 1
            · (intro w hSw; (try dsimp only at hSw); go_simp; (try with_reducible rfl))
            try simp only [Act.put, List.setIfInBounds_toArray, List.set_cons_zero, List.set_cons_succ]
            refine one_opG (i := 11) (by kernel_rfl) rfl (fun K hK => ?_)
            go_simp
            refine hK.out _ _ ⟨(Frm.alloc NoS Y _).cell' hS.1 id, (Frm.alloc NoS Y _).cell' hS.2.1 id, (Frm.alloc NoS Y _).cell' hS.2.2.1 id, (Frm.alloc NoS Y _).cell' hS.2.2.2 id⟩ ?_
            clear hK K
            have hS1 : (Y.alloc (.cells #[.int .i64 s.2.1, .int .i64 s.2.2] 225)).cell? ⟨sb, 0, none⟩ = some (.int .i64 dn) ∧ (Y.alloc (.cells #[.int .i64 s.2.1, .int .i64 s.2.2] 225)).cell? ⟨sb, 1, none⟩ = some (.int .i64 s.2.1) ∧ (Y.alloc (.cells #[.int .i64 s.2.1, .int .i64 s.2.2] 225)).cell? ⟨sb, 2, none⟩ = some (.int .i64 s.2.2) ∧ (Y.alloc (.cells #[.int .i64 s.2.1, .int .i64 s.2.2] 225)).cell? ⟨w.heap.size + 1, dn, none⟩ = some (vs dn) := ⟨(Frm.alloc NoS Y _).cell' hS.1 id, (Frm.alloc NoS Y _).cell' hS.2.1 id, (Frm.alloc NoS Y _).cell' hS.2.2.1 id, (Frm.alloc NoS Y _).cell' hS.2.2.2 id⟩
            try simp only [Act.put, List.setIfInBounds_toArray, List.set_cons_zero, List.set_cons_succ]
            refine one_opG (i := 12) (by kernel_rfl) rfl (fun K hK => ?_)
            refine step_appB (Rest4 (fun k => k = w.heap.size ∨ k = sb) (w.heap.size + 1) vs dn) w Y [.int .i64 s.2.1, .int .i64 s.2.2] rfl (.tmp 33) (.tmp 39) 195 rfl 225 i0 _ 2 16 Tryz.underlying195 hi hz0 hz1 hz2 (by decide) (by decide) (vs dn) pl _ HOB.out (HK4.out.lt dn) 1 1 (by simp [Act.eval]) (by simp [Act.eval]) rfl (by simp [Value.oneCell']) (by have := HLEN.out; simp only [maxLen]; omega) (by have := HLEN.out; omega) ?_
            intro ad cc2 w2 own2 kp2
            have hS2 : w2.cell? ⟨sb, 0, none⟩ = some (.int .i64 dn) ∧ w2.cell? ⟨sb, 1, none⟩ = some (.int .i64 s.2.1) ∧ w2.cell? ⟨sb, 2, none⟩ = some (.int .i64 s.2.2) ∧ w2.cell? ⟨w.heap.size + 1, dn, none⟩ = some (vs dn) := ⟨kp2.cell (.inr (.inl (.inr rfl))) hS.1, kp2.cell (.inr (.inl (.inr rfl))) hS.2.1, kp2.cell (.inr (.inl (.inr rfl))) hS.2.2.1, kp2.cell (.inl rfl) hS.2.2.2⟩
            refine hK.out _ _ hS2 ?_
            clear hK K hS1
            have HSTP := Lib.hid (((HK4.out.step hd4 kp2 own2).mono (M' := fun k => k = w.heap.size) fun k hk => .inl hk).congr (n' := fun d => (partL (c.take (k + 1)) d).length) (xs' := fun d => ruC (partL (c.take (k + 1)) d)) (fun d hd => by
              rw [HPT.out]
              by_cases he : d = dn
              · subst he; rw [upd_same, if_pos HDN.out, List.length_append, ← HPL.out]; rfl
              · rw [upd_other _ _ he, if_neg (by rw [HDN.out]; omega), List.append_nil]) (fun d hd => by
              rw [HPT.out]
              by_cases he : d = dn
              · subst he; rw [upd_same, if_pos HDN.out, ruC_append]; rfl
              · rw [upd_other _ _ he, if_neg (by rw [HDN.out]; omega), List.append_nil]))
            have HR2 := Lib.hid (kp2.blk (.inr (.inl (.inl rfl))) HRK.out)
            have hcf := kp2.frozen (p := ⟨w.heap.size + 1, dn, none⟩) (.inl rfl) (free_at' HK4.out.blk dn)
            clear own2 kp2
            try simp only [Act.put, List.setIfInBounds_toArray, List.set_cons_zero, List.set_cons_succ]
            refine take_opG 13 41 (v := ?_) rfl rfl (by kernel_rfl) (by kernel_rfl) (by decide) (by kernel_rfl) (by kernel_rfl) (fun _ _ _ h => h) (Or.inl ⟨by rfl, ?_⟩) (by assumption) ?_
            rotate_left 1
            · (intro w hSw; (try dsimp only at hSw); go_simp; (try with_reducible rfl))
            try simp only [Act.put, List.setIfInBounds_toArray, List.set_cons_zero, List.set_cons_succ]
            refine last_opG (by kernel_rfl) (by kernel_rfl) rfl (fun K hK => ?_)
            have hcz := hS2.2.2.2
            clear hS2 hS
            go_simp
            refine hK.out _ _ ?_
            clear hK K hcz hcf
            go_wp2
            go_roundw
            case rel => exact ⟨k + 1, dn, _, by omega, by go_num, rfl, hd4, .inr ⟨by omega, by rw [Nat.add_sub_cancel, HGD.out, HDN.out]⟩, HS.out.2 ⟨by rw [HDN.out]; exact c1, by rw [HDN.out]; omega⟩, HSTP.out, (Frm.setCell (S := fun k => k = w.heap.size + 1) w2 (p := ⟨w.heap.size + 1, dn, none⟩) (.inl rfl) _).blk HR2.out (fun h => by have h : w.heap.size = w.heap.size + 1 := h; omega)⟩
            case measure => simp [intOf]; omega
    · obtain rfl : n = k := by omega
      rw [List.take_of_length_le (by rw [HN.out]; exact Nat.le_refl _)] at H4 HDC
      obtain ⟨wo, rfl⟩ : ∃ wo : World, wo = wr := ⟨_, rfl⟩
      have hsh : ∀ d, d < 4 → ∃ t : Option Addr × Nat × Nat, vs d = .slice t.1 t.2.1 t.2.2 := fun d hd => by
        obtain ⟨a, c, h⟩ := (H4.out.own d hd).at_.shape
        exact ⟨(a, _, c), h⟩
      obtain ⟨A, hA⟩ := Go.Deep.choose_lt hsh
      clear hsh
      have c0 := hA 0 (by omega) ▸ H4.out.cell (d := 0) (by omega)
      have c1 := hA 1 (by omega) ▸ H4.out.cell (d := 1) (by omega)
      have c2 := hA 2 (by omega) ▸ H4.out.cell (d := 2) (by omega)
      have c3 := hA 3 (by omega) ▸ H4.out.cell (d := 3) (by omega)
      have HAA := Lib.hid hA; clear hA
      go_wp2
      clear z0 z1 z2 z3 f0 f1 f2 f3 c0 c1 c2 c3
      go_loopw [44] (fun i ww => ∃ j : Nat, j ≤ 4 ∧ i = .int .i64 j ∧ (∀ d : Nat, d < j → RightR (partL c d)) ∧ Frm NoS wo ww) (fun i _ => 4 - (intOf i).toNat)
      case atStart => exact ⟨0, by omega, rfl, (fun d hd => by omega), Frm.refl _ _⟩
      case round =>
        obtain ⟨j, hj, rfl, hr, hw⟩ := hrel
        have HW := Lib.hid hw; clear hw
        have HR := Lib.hid hr; clear hr
        have HRS := Lib.hid (HW.out.blk HRES.out id)
        have z0 : wr.cell? ⟨w.heap.size, 0, none⟩ = some (.slice none 0 0) := cell_at' HRS.out 0 rfl
        have z1 : wr.cell? ⟨w.heap.size, 1, none⟩ = some (.slice none 0 0) := cell_at' HRS.out 1 rfl
        have z2 : wr.cell? ⟨w.heap.size, 2, none⟩ = some (.slice none 0 0) := cell_at' HRS.out 2 rfl
        have z3 : wr.cell? ⟨w.heap.size, 3, none⟩ = some (.slice none 0 0) := cell_at' HRS.out 3 rfl
        have f0 := free_at' HRS.out 0
        have f1 := free_at' HRS.out 1
        have f2 := free_at' HRS.out 2
        have f3 := free_at' HRS.out 3
        by_cases hj4 : j < 4
        · have hix : ∀ W, (Instr.index 197 (.agg #[.slice (A 0).1 (A 0).2.1 (A 0).2.2, .slice (A 1).1 (A 1).2.1 (A 1).2.2, .slice (A 2).1 (A 2).2.1 (A 2).2.2, .slice (A 3).1 (A 3).2.1 (A 3).2.2]) (.int .i64 (j : Int))).run Tryz.prog W = .ok (.slice (A j).1 (A j).2.1 (A j).2.2) W := by
            rcases (by omega : j = 0 ∨ j = 1 ∨ j = 2 ∨ j = 3) with rfl | rfl | rfl | rfl <;> exact fun _ => by kernel_rfl
          have hown := ((H4.out.own j hj4).at_.keep HW.out).rd
          rw [HAA.out j hj4] at hown
          have hcall := sRight_any wr _ (partL c j) hown (HF.out.part j)
          by_cases hrj : RightR (partL c j)
          · rw [tf_true hrj] at hcall
            have HC := Lib.hid hcall; clear hcall hown
            have HRJ := Lib.hid hrj; clear hrj
            clear z0 z1 z2 z3 f0 f1 f2 f3
            go_wp2_with (go_at_call 163; refine HC.out.mono ?_; rintro e w1 ⟨rfl, hw1⟩; have HW1 := Lib.hid hw1; clear hw1)
            go_roundw
            case rel => exact ⟨j + 1, by omega, by go_num, (fun d hd => by
              by_cases he : d = j
              · subst he; exact HRJ.out
              · exact HR.out d (by omega)), HW.out.then1 HW1.out⟩
            case measure => simp [intOf]; omega
          · rw [tf_false hrj] at hcall
            have HC := Lib.hid hcall; clear hcall hown
            have HRJ := Lib.hid hrj; clear hrj
            clear z0 z1 z2 z3 f0 f1 f2 f3
            go_wp2_with (go_at_call 163; refine HC.out.mono ?_; rintro e w1 ⟨rfl, hw1⟩; have HW1 := Lib.hid hw1; clear hw1; have HB1 := Lib.hid (HW1.out.blk HRS.out id); have z0 : w1.cell? ⟨w.heap.size, 0, none⟩ = some (.slice none 0 0) := cell_at' HB1.out 0 rfl; have z1 : w1.cell? ⟨w.heap.size, 1, none⟩ = some (.slice none 0 0) := cell_at' HB1.out 1 rfl; have z2 : w1.cell? ⟨w.heap.size, 2, none⟩ = some (.slice none 0 0) := cell_at' HB1.out 2 rfl; have z3 : w1.cell? ⟨w.heap.size, 3, none⟩ = some (.slice none 0 0) := cell_at' HB1.out 3 rfl; have f0 := free_at' HB1.out 0; have f1 := free_at' HB1.out 1; have f2 := free_at' HB1.out 2; have f3 := free_at' HB1.out 3)
            have hr4 := res4 HB1.out ((H4.out.frm.then1 HW.out).then1 HW1.out) (Nat.le_refl _) (.slice none 0 0) (.slice none 0 0) (.slice none 0 0) (.slice none 0 0)
            have y0 := cell_at' hr4.1 0 rfl
            have y1 := cell_at' hr4.1 1 rfl
            have y2 := cell_at' hr4.1 2 rfl
            have y3 := cell_at' hr4.1 3 rfl
            exact bodyPost_ret (v := .tuple #[.agg #[.slice none 0 0, .slice none 0 0, .slice none 0 0, .slice none 0 0], .bool false]) (by simp [results, Tryz.results127, go_sem, y0, y1, y2, y3]) rfl ⟨hr4.2, fun hr => absurd (hr.2 j (by omega) (by omega)) HRJ.out, fun _ => rfl⟩
        · obtain rfl : j = 4 := by omega
          have hk4 := H4.out.keep HW.out
          have c0 := HAA.out 0 (by omega) ▸ hk4.cell (d := 0) (by omega)
          have c1 := HAA.out 1 (by omega) ▸ hk4.cell (d := 1) (by omega)
          have c2 := HAA.out 2 (by omega) ▸ hk4.cell (d := 2) (by omega)
          have c3 := HAA.out 3 (by omega) ▸ hk4.cell (d := 3) (by omega)
          have HK := Lib.hid hk4; clear hk4
          have hr4 := res4 HRS.out (H4.out.frm.then1 HW.out) (Nat.le_refl _) (.slice (A 0).1 (A 0).2.1 (A 0).2.2) (.slice (A 1).1 (A 1).2.1 (A 1).2.2) (.slice (A 2).1 (A 2).2.1 (A 2).2.2) (.slice (A 3).1 (A 3).2.1 (A 3).2.2)
          have HR4 := Lib.hid hr4; clear hr4
          have hrc : RightC c := ⟨HDC.out, fun d h0 h4 => by
            obtain ⟨e, rfl⟩ : ∃ e : Nat, d = e := ⟨d.toNat, by omega⟩
            exact HR.out e (by omega)⟩
          have HRC := Lib.hid hrc; clear hrc
          go_wp2
          have y0 := cell_at' HR4.out.1 0 rfl
          have y1 := cell_at' HR4.out.1 1 rfl
          have y2 := cell_at' HR4.out.1 2 rfl
          have y3 := cell_at' HR4.out.1 3 rfl
          refine bodyPost_ret (v := .tuple #[.agg #[.slice (A 0).1 (A 0).2.1 (A 0).2.2, .slice (A 1).1 (A 1).2.1 (A 1).2.2, .slice (A 2).1 (A 2).2.1 (A 2).2.2, .slice (A 3).1 (A 3).2.1 (A 3).2.2], .bool true]) (by simp [results, Tryz.results127, go_sem, y0, y1, y2, y3]) rfl ⟨HR4.out.2, fun _ => ⟨A, rfl, ⟨fun d hd => ?_⟩⟩, fun h => absurd HRC.out h⟩
          have ho := HK.out.own d hd
          rw [HAA.out d hd] at ho
          have f4 : Frm (fun k => k = w.heap.size) wr ((((wr.setCell ⟨w.heap.size, 0, none⟩ (.slice (A 0).1 (A 0).2.1 (A 0).2.2)).setCell ⟨w.heap.size, 1, none⟩ (.slice (A 1).1 (A 1).2.1 (A 1).2.2)).setCell ⟨w.heap.size, 2, none⟩ (.slice (A 2).1 (A 2).2.1 (A 2).2.2)).setCell ⟨w.heap.size, 3, none⟩ (.slice (A 3).1 (A 3).2.1 (A 3).2.2)) :=
            (((Frm.setCell (S := fun k => k = w.heap.size) wr (p := ⟨w.heap.size, 0, none⟩) (.inl rfl) (.slice (A 0).1 (A 0).2.1 (A 0).2.2)).trans (Frm.setCell (S := fun k => k = w.heap.size) _ (p := ⟨w.heap.size, 1, none⟩) (.inl rfl) (.slice (A 1).1 (A 1).2.1 (A 1).2.2)) fun _ _ h => h).trans (Frm.setCell (S := fun k => k = w.heap.size) _ (p := ⟨w.heap.size, 2, none⟩) (.inl rfl) (.slice (A 2).1 (A 2).2.1 (A 2).2.2)) fun _ _ h => h).trans (Frm.setCell (S := fun k => k = w.heap.size) _ (p := ⟨w.heap.size, 3, none⟩) (.inl rfl) (.slice (A 3).1 (A 3).2.1 (A 3).2.2)) fun _ _ h => h
          exact ⟨f4.owns ho.at_.own fun k hk he => ho.but k hk (.inr he), ho.at_.new, HR4.out.2⟩
end Go.Proofs.YtggfoihfenlckaaGreat
/- context: whole: the walk. -/
namespace Go.Proofs.YtggfoihfenlckaaGreat
open Go.RowKit
abbrev Sl := Option Addr × Nat × Nat
/-- A center's runs, told by the center. -/
def WhR (p : Nat → RunL) (d : Int) (o : RunL) : Prop := o = p d.toNat
theorem UpTo.whole_ {p : Nat → RunL} {c : CtxL} (h : UpTo (WhR p) 4 c) : c = wholeL fun d => p d.toNat := by
  rw [← whole_parts (Int.le_refl 0) h.rise]
  unfold wholeL
  rw [h.parts 0 (by decide) (by decide), h.parts 1 (by decide) (by decide), h.parts 2 (by decide) (by decide), h.parts 3 (by decide) (by decide)]
set_option maxHeartbeats 2000000 in
set_option maxRecDepth 1000000 in
theorem cwhole_any (w : World) (A : Nat → Sl) (p : Nat → RunL) (hp : ∀ d, d < 4 → RunAt w (.slice (A d).1 (A d).2.1 (A d).2.2) (p d)) (hl : ∀ d, d < 4 → (p d).length ≤ 200000) :
    Calls Tryz.prog 189 #[.agg #[.slice (A 0).1 (A 0).2.1 (A 0).2.2, .slice (A 1).1 (A 1).2.1 (A 1).2.2, .slice (A 2).1 (A 2).2.1 (A 2).2.2, .slice (A 3).1 (A 3).2.1 (A 3).2.2]] w fun e w' =>
      ∃ v' c, e = .returned v' ∧ OwnAt w w' 122 3 v' c.length (spC c) ∧ c = (wholeL fun d => p d.toNat) ∧ c.length ≤ 800000 := by
  obtain ⟨i0, hi, hz0, hz1, hz2⟩ := info_parts info_span
  have HP := Lib.hid hp; clear hp
  have HL := Lib.hid hl; clear hl
  have hb : Frm NoS w (w.alloc (.cells #[.slice (A 0).1 (A 0).2.1 (A 0).2.2, .slice (A 1).1 (A 1).2.1 (A 1).2.2, .slice (A 2).1 (A 2).2.1 (A 2).2.2, .slice (A 3).1 (A 3).2.1 (A 3).2.2] 197)) := Frm.alloc _ _ _
  have HFB := Lib.hid hb; clear hb
  go_enter Tryz.func189, Tryz.ntmps189
  go_wp2
  go_loopw [3, 9] (fun v i ww => ∃ (k : Nat) (c : CtxL), k ≤ 4 ∧ i = .int .i64 k ∧ OwnAt w ww 122 3 v c.length (spC c) ∧ UpTo (WhR p) k c ∧ c.length ≤ 200000 * k) (fun _ i _ => 4 - (intOf i).toNat)
  case atStart => exact ⟨0, [], by omega, rfl, OwnAt.nil HFB.out _ _, UpTo.zero _, Nat.zero_le _⟩
  case round =>
    obtain ⟨wo, rfl⟩ : ∃ wo : World, wo = wr := ⟨_, rfl⟩
    obtain ⟨k, c, hk, rfl, ho, hu, hlen⟩ := hrel
    obtain ⟨av, cv, rfl⟩ := ho.shape
    have HO := Lib.hid ho; clear ho
    have HU := Lib.hid hu; clear hu
    have HLEN := Lib.hid hlen; clear hlen
    by_cases hlt : k < 4
    · have hki : (k : Int) < 4 := by omega
      have hkd : decide ((k : Int) < 4) = true := by simpa using hki
      have hpk := HP.out k hlt
      have hlk := HL.out k hlt
      have hst := HU.out.step (o := p k) (by omega) (by omega) (by unfold WhR; rw [Int.toNat_natCast])
      have hix : ∀ W, (Instr.index 197 (.agg #[.slice (A 0).1 (A 0).2.1 (A 0).2.2, .slice (A 1).1 (A 1).2.1 (A 1).2.2, .slice (A 2).1 (A 2).2.1 (A 2).2.2, .slice (A 3).1 (A 3).2.1 (A 3).2.2]) (.int .i64 (k : Int))).run Tryz.prog W = .ok (.slice (A k).1 (A k).2.1 (A k).2.2) W := by
        rcases (by omega : k = 0 ∨ k = 1 ∨ k = 2 ∨ k = 3) with rfl | rfl | rfl | rfl <;> exact fun _ => by kernel_rfl
      obtain ⟨a1, c1, he⟩ := hpk.sl
      rw [he] at hpk hix
      clear he
      generalize p k = l at *
      have HPK := Lib.hid hpk; clear hpk
      have HST := Lib.hid hst; clear hst
      have HLK := Lib.hid hlk; clear hlk
      generalize hn : l.length = n at *
      have HN := Lib.hid hn; clear hn
      go_wp2
      clear hix
      go_loopw [3, 15] (fun v i ww => ∃ (j m : Nat), j ≤ n ∧ m = c.length + j ∧ i = .int .i64 j ∧ OwnAt w ww 122 3 v m (spC (c ++ spansL k (l.take j)))) (fun _ i _ => n - (intOf i).toNat)
      case atStart => exact ⟨0, _, Nat.zero_le _, rfl, rfl, by simpa [spansL] using HO.out⟩
      case round =>
        obtain ⟨j, m, hj, hm, rfl, hoj⟩ := hrel
        obtain ⟨a3, c3, rfl⟩ := hoj.shape
        have HOJ := Lib.hid hoj; clear hoj
        have HM := Lib.hid hm; clear hm
        by_cases hjl : j < n
        · rcases Rd.shape HPK.out with ⟨ad, he, h0⟩ | ⟨b, off, cc, he, hmax⟩
          · exfalso; have := HN.out; omega
          · injection he with e1 e2 e3
            subst e1 e3
            clear e2
            rw [HN.out] at hmax
            have hjk : j < l.length := by rw [HN.out]; exact hjl
            obtain ⟨p0, p1⟩ := run_at HPK.out HN.out.symm j hjk
            have q0 := HOJ.out.frm.cell' p0 id
            have q1 := HOJ.out.frm.cell' p1 id
            have hE := spansL_take_succ (l := l) (k := j) k hjk
            generalize l.getD j (0, 0) = r at *
            clear p0 p1
            have HE := Lib.hid hE; clear hE
            have hml : m ≤ 1000000 := by have := HM.out; have := HLEN.out; have := HLK.out; omega
            have HML := Lib.hid hml; clear hml
            go_wp2_with (at_builtin; go_loud (refine wpList_appO w _ [.int .i64 k, .int .i64 r.1, .int .i64 r.2] rfl (.tmp 19) (.tmp 26) 31 rfl 122 i0 _ 3 24 Tryz.underlying31 hi hz0 hz1 hz2 (by decide) (by decide) _ _ _ (HOJ.out.keep (Frm.alloc _ _ _)) 1 1 rfl (by simp [Act.eval]) rfl (by simp [Value.oneCell']) (by have := HML.out; simp only [maxLen]; omega) (by have := HML.out; omega) ?_); intro ad2 cc2 w2 own2; have OW := Lib.hid own2; clear own2)
            go_roundw
            case rel =>
              refine ⟨j + 1, m + 1, by omega, by rw [HM.out]; omega, by go_num, ?_⟩
              rw [HE.out, ← List.append_assoc, spC_append]
              exact OW.out
            case measure => simp [intOf]; omega
        · obtain rfl : n = j := by omega
          rw [List.take_of_length_le (by rw [HN.out]; exact Nat.le_refl _)] at HOJ
          go_wp2
          go_roundw
          case rel =>
            refine ⟨k + 1, c ++ spansL k l, by omega, by go_num, ?_, HST.out, ?_⟩
            · have : (c ++ spansL k l).length = m := by rw [List.length_append, spC_spans_len, HN.out, HM.out]
              rw [this]; exact HOJ.out
            · rw [List.length_append, spC_spans_len, HN.out]
              have := HLEN.out; have := HLK.out; omega
          case measure => simp [intOf]; omega
    · obtain rfl : k = 4 := by omega
      go_wp2
      go_ret
      exact ⟨_, c, rfl, HO.out, HU.out.whole_, HLEN.out⟩
end Go.Proofs.YtggfoihfenlckaaGreat