/- Words for the law PackBack: Own2, KidQ, Trod, TreeOpen, HeldLast, Four. -/
import Derived.Test.YtggfoihfenlckaaGreatPackBackG1
import Derived.Test.YtggfoihfenlckaaGreatPackBackG3
import Derived.Test.YtggfoihfenlckaaGreatPackBackG4
import Derived.Deep.Strs
import Derived.ChangeArms
import Derived.ProofKit
import Derived.OpenShut
import Derived.ChangeSame
import Derived.Deep.RegionHeld
set_option linter.unusedSimpArgs false
set_option linter.unusedVariables false
/- A slice of one's own that lies in none of some blocks: append, store. -/
namespace Go.Proofs.YtggfoihfenlckaaGreat
open Go.RowKit
/-- A slice in memory made since w0, in none of the blocks N. -/
structure OwnBut (N : Nat → Prop) (w0 w : World) (e : TypeId) (size : Nat) (v : Value) (n : Nat) (xs : List Value) : Prop where
  at_ : OwnAt w0 w e size v n xs
  but : ∀ k, v.ownBlock = some k → ¬ N k
theorem OwnAt.lt {w0 w : World} {e : TypeId} {size : Nat} {v : Value} {n : Nat} {xs : List Value} (h : OwnAt w0 w e size v n xs) : ∀ k, v.ownBlock = some k → k < w.heap.size := fun k hk => by
  rcases h.own.2 with ⟨rfl, _⟩ | ⟨g, cap, cur, rfl, _, hg, _⟩
  · simp [Value.ownBlock] at hk
  · simp [Value.ownBlock] at hk
    subst hk
    exact lt_of_block hg
/-- Blocks that are newer hold nothing of it. -/
theorem OwnAt.away {N : Nat → Prop} {w0 w w' : World} {e : TypeId} {size : Nat} {v : Value} {n : Nat} {xs : List Value} (h : OwnAt w0 w e size v n xs) (f : Frm NoS w w') (hN : ∀ k, N k → w.heap.size ≤ k) : OwnBut N w0 w' e size v n xs :=
  ⟨h.keep f, fun k hk hn => by have := h.lt k hk; have := hN k hn; omega⟩
theorem OwnBut.nil {N : Nat → Prop} {w0 w : World} (f : Frm NoS w0 w) (e : TypeId) (size : Nat) : OwnBut N w0 w e size (.slice none 0 0) 0 [] := ⟨OwnAt.nil f e size, fun k hk => by simp [Value.ownBlock] at hk⟩
theorem OwnBut.keep {N : Nat → Prop} {w0 w w' : World} {e : TypeId} {size : Nat} {v : Value} {n : Nat} {xs : List Value} (h : OwnBut N w0 w e size v n xs) (f : Frm NoS w w') : OwnBut N w0 w' e size v n xs := ⟨h.at_.keep f, h.but⟩
theorem OwnBut.box {N : Nat → Prop} {w0 w : World} {e : TypeId} {size : Nat} {v : Value} {n : Nat} {xs : List Value} (h : OwnBut N w0 w e size v n xs) (o : Obj) : OwnBut (fun k => N k ∨ k = w.heap.size) w0 (w.alloc o) e size v n xs :=
  ⟨h.at_.keep (Frm.alloc _ _ _), fun k hk hn => by
    rcases hn with hn | hn
    · exact h.but k hk hn
    · have := h.at_.lt k hk; omega⟩
theorem OwnBut.mono {N M : Nat → Prop} {w0 w : World} {e : TypeId} {size : Nat} {v : Value} {n : Nat} {xs : List Value} (h : OwnBut N w0 w e size v n xs) (hs : ∀ k, M k → N k) : OwnBut M w0 w e size v n xs := ⟨h.at_, fun k hk hm => h.but k hk (hs k hm)⟩
/-- A store into one of the blocks. -/
theorem OwnBut.set {N : Nat → Prop} {w0 w : World} {e : TypeId} {size : Nat} {v : Value} {n : Nat} {xs : List Value} (h : OwnBut N w0 w e size v n xs) {p : Addr} (hp : N p.block) (hn : w0.heap.size ≤ p.block) (u : Value) : OwnBut N w0 (w.setCell p u) e size v n xs :=
  ⟨⟨(Frm.setCell (S := fun k => k = p.block) w (.inl rfl) u).owns h.at_.own (fun k hk he => h.but k hk (by have he : k = p.block := he; rw [he]; exact hp)), h.at_.new, h.at_.frm.set1 (.inr hn)⟩, h.but⟩
/-- What lies in the blocks N is as it was. -/
def KeepsN (N : Nat → Prop) (w w' : World) : Prop := w.heap.size ≤ w'.heap.size ∧ ∀ b, N b → w'.heap[b]? = w.heap[b]?
theorem KeepsN.cell {N : Nat → Prop} {w w' : World} (h : KeepsN N w w') {p : Addr} {u : Value} (hp : N p.block) (hu : w.cell? p = some u) : w'.cell? p = some u :=
  (World.cell?_of_block (w := w) (h.2 p.block hp)).trans hu
theorem KeepsN.frozen {N : Nat → Prop} {w w' : World} (h : KeepsN N w w') {p : Addr} (hp : N p.block) {b : Bool} (hu : w.frozen? p = b) : w'.frozen? p = b :=
  (World.frozen?_of_block (w := w) (h.2 p.block hp)).trans hu
theorem KeepsN.blk {N : Nat → Prop} {w w' : World} (h : KeepsN N w w') {b : Nat} {o : Obj} (hp : N b) (hu : w.heap[b]? = some o) : w'.heap[b]? = some o := (h.2 b hp).trans hu
theorem OwnBut.step {N : Nat → Prop} {w0 w w' : World} {e e' : TypeId} {size size' : Nat} {v v' : Value} {n n' : Nat} {xs xs' : List Value} (h : OwnBut N w0 w e size v n xs) (hN : ∀ k, N k → k < w.heap.size)
    (own : w'.ownsRow 0 e' size' v' n' xs') (fm : Frm (RowS v) w w') (fr : Fresh w v v') : OwnBut N w0 w' e' size' v' n' xs' ∧ KeepsN N w w' :=
  ⟨⟨h.at_.step own fm fr, fun k hk hn => by
    rcases fr k hk with h1 | h1
    · exact h.but k h1 hn
    · have := hN k hn; omega⟩, fm.size, fun b hb => fm.block b (hN b hb) fun hs => h.but b hs hb⟩
section
variable {P : Program}
/-- append of what the translation has just laid. -/
theorem wpList_appB {ops : Array Oper} {rest : List Oper} {o : Oper} {a : Act} {Q : Exit → Act → World → Prop} (N : Nat → Prop) (w0 w : World) (news : List Value) (hgd : o.guard = none) (s x : Operand) (t : TypeId)
    (ho : o.op = .call { callee := .builtin .append, args := #[s, x], argTypes := #[t, t] })
    (e : TypeId) (i : TypeInfo) (z : Value) (size bytes : Nat) (ht : P.underlying t = some (.slice e)) (hi : P.info? e = some i) (hz : i.zero = some z)
    (hsize : i.size = size) (hby : i.bytes = bytes) (hzs : z.cells.size = size) (hsz : 0 < size)
    (v : Value) (n : Nat) (xs : List Value) (hown : OwnBut N w0 w e size v n xs) (hN : ∀ k, N k → k < w.heap.size) (m c : Nat) (hv : a.eval s = v) (hx : a.eval x = .slice (some ⟨w.heap.size, 0, none⟩) m c)
    (hnl : news.length = m * size) (h1 : ∀ u ∈ news, u.oneCell' = true) (h63 : n + m ≤ maxLen) (hbytes : (n + m) * bytes ≤ 140737488355328)
    (h : ∀ ad c w', OwnBut N w0 w' e size (.slice ad (n + m) c) (n + m) (xs ++ news) → KeepsN N w w' → wpList P ops Q rest (a.put o.dst (.slice ad (n + m) c)) w') :
    wpList P ops Q (o :: rest) a (w.alloc (.cells news.toArray e)) :=
  wpList_app1 w news hgd s x t ho e i z size bytes ht hi hz hsize hby hzs hsz v n xs hown.at_.own m c hv hx hnl h1 h63 hbytes fun ad c' w' g1 g2 g3 => h ad c' w' (hown.step hN g1 g2 g3).1 (hown.step hN g1 g2 g3).2
end
end Go.Proofs.YtggfoihfenlckaaGreat
/- Kids one by one: a list of them, how their tree lies; what is kept where other blocks turn. -/
namespace Go.Proofs.YtggfoihfenlckaaGreat
open Go.RowKit
/-- A kid that was read: its key, its tree, where its tree's slices lie. -/
structure KidQ where
  key : ByteArray
  es : List Ent
  sub : KidsL
  ev : Value
  kv : Value
instance : Inhabited KidQ := ⟨⟨ByteArray.empty, [], .nil, .slice none 0 0, .slice none 0 0⟩⟩
def KidQ.cells (q : KidQ) : List Value := [.string q.key, q.ev, q.kv]
/-- Kids ahead of other ones. -/
def appK : List KidQ → KidsL → KidsL
  | [], r => r
  | q :: l, r => .cons q.key q.es q.sub (appK l r)
def mkK (l : List KidQ) : KidsL := appK l .nil
def outK (l : List KidQ) : List (Value × Value) := l.map fun q => (q.ev, q.kv)
theorem appK_snoc : ∀ (l : List KidQ) (q : KidQ) (r : KidsL), appK (l ++ [q]) r = appK l (.cons q.key q.es q.sub r)
  | [], _, _ => rfl
  | x :: l, q, r => by show KidsL.cons _ _ _ (appK (l ++ [q]) r) = _; rw [appK_snoc l q r]; rfl
theorem mkK_len : ∀ l : List KidQ, (mkK l).len = l.length
  | [] => rfl
  | q :: l => by show (mkK l).len + 1 = _; rw [mkK_len l]; rfl
theorem mkK_cells : ∀ l : List KidQ, kidC (mkK l) (outK l) = l.flatMap KidQ.cells
  | [] => rfl
  | q :: l => by show _ :: _ :: _ :: kidC (mkK l) (outK l) = _; rw [mkK_cells l]; rfl
theorem mkK_for {Q : Nat → Prop} {w : World} : ∀ {l : List KidQ}, (∀ q ∈ l, TreeAt Q w q.ev q.kv q.es q.sub) → ForAt Q w (mkK l) (outK l)
  | [], _ => rfl
  | q :: l, h => by
    obtain ⟨h1, os, h2, h3⟩ := h q List.mem_cons_self
    exact ⟨q.ev, q.kv, outK l, os, rfl, h1, h2, h3, mkK_for fun x hx => h x (List.mem_cons_of_mem _ hx)⟩
theorem mkK_ok : ∀ {l : List KidQ}, (∀ q ∈ l, q.key.size ≤ 9223372036854775807 ∧ TrOk q.es q.sub) → (mkK l).Ok
  | [], _ => trivial
  | q :: l, h => by
    obtain ⟨h1, h2⟩ := h q List.mem_cons_self
    exact ⟨h1, h2.es, h2.len, h2.ks, mkK_ok fun x hx => h x (List.mem_cons_of_mem _ hx)⟩
/-- What lies in blocks that are as they were reads as it did. -/
theorem RdQ.turn {Q Q' : Nat → Prop} {w w' : World} {v : Value} {n : Nat} {xs : List Value} (h : RdQ Q w v n xs) (f : ∀ b, b < w.heap.size → Q b → w'.heap[b]? = w.heap[b]? ∧ Q' b) : RdQ Q' w' v n xs := by
  rcases h.rd with ⟨ad, h1, h2, h3⟩ | ⟨b, off, c, rfl, h1, h2, h3⟩
  · exact ⟨.inl ⟨ad, h1, h2, h3⟩, fun hx => absurd h3 hx⟩
  · have key_ : ∀ j u, xs[j]? = some u → w'.cell? ⟨b, off + j, none⟩ = some u ∧ Q' b := fun j u hu => by
      have hc := h3 j u hu
      have hlt : b < w.heap.size := World.block_lt_of_cell? _ _ hc
      obtain ⟨g1, g2⟩ := f b hlt (h.q (fun e => by rw [e] at hu; simp at hu) b rfl)
      exact ⟨(World.cell?_of_block (w := w) g1).trans hc, g2⟩
    refine ⟨.inr ⟨b, off, c, rfl, h1, h2, fun j u hu => (key_ j u hu).1⟩, fun hx k hk => ?_⟩
    simp [Value.ownBlock] at hk
    subst hk
    cases xs with
    | nil => exact absurd rfl hx
    | cons x xs => exact (key_ 0 x rfl).2
theorem ForAt.turn {Q Q' : Nat → Prop} {w w' : World} (f : ∀ b, b < w.heap.size → Q b → w'.heap[b]? = w.heap[b]? ∧ Q' b) : ∀ {ks : KidsL} {os : List (Value × Value)}, ForAt Q w ks os → ForAt Q' w' ks os
  | .nil, _, h => h
  | .cons _ _ _ _, _, ⟨ev, kv, outs', os, h1, h2, h3, h4, h5⟩ => ⟨ev, kv, outs', os, h1, h2.turn f, h3.turn f, h4.turn f, h5.turn f⟩
theorem TreeAt.turn {Q Q' : Nat → Prop} {w w' : World} {ev kv : Value} {es : List Ent} {ks : KidsL} (h : TreeAt Q w ev kv es ks) (f : ∀ b, b < w.heap.size → Q b → w'.heap[b]? = w.heap[b]? ∧ Q' b) : TreeAt Q' w' ev kv es ks :=
  ⟨h.ents.turn f, let ⟨os, h1, h2⟩ := h.kids; ⟨os, h1.turn f, h2.turn f⟩⟩
theorem OwnAt.rdq {w0 w : World} {e : TypeId} {size : Nat} {v : Value} {n : Nat} {xs : List Value} (h : OwnAt w0 w e size v n xs) : RdQ (fun k => w0.heap.size ≤ k) w v n xs := ⟨h.rd, fun _ k hk => h.new k hk⟩
end Go.Proofs.YtggfoihfenlckaaGreat
/- Opening what came in: slices of whatever elements, told cell by cell. -/
namespace Go.Proofs.YtggfoihfenlckaaGreat
open Go.RowKit
theorem list_of_lt {α : Type} [Inhabited α] {n : Nat} {p : Nat → α → Prop} (h : ∀ i, i < n → ∃ x, p i x) : ∃ l : List α, l.length = n ∧ ∀ i, i < n → ∀ d, p i (l.getD i d) := by
  obtain ⟨f, hf⟩ := Go.Deep.choose_lt h
  refine ⟨(List.range n).map f, by simp, fun i hi d => ?_⟩
  have : ((List.range n).map f).getD i d = f i := by simp [List.getD, hi]
  rw [this]
  exact hf i hi
section
variable {H : Type} {enc : TypeId × Value → H} {P : Program} {w : World} {base : Nat} {sp : Nat → Bool} {held : Bool}
/-- A slice that is read, spare and all: empty without capacity, or behind an address without a spot; each element's cells, and its own reading. -/
theorem open_arr {t e sz : Nat} {a0 : Option Addr} {len cap : Nat} {d : DataW H × List MemPlace} {fuel : Nat} (ht : P.underlying t = some (.slice e)) (hsz : P.cellsOf e = sz) (hpos : 0 < sz) (hsp : ∀ b, sp b = true)
    (h : DataW.trod enc P w base sp held fuel t [.slice a0 len cap] = some d) :
    (len = 0 ∧ cap = 0) ∨ ∃ b off, a0 = some ⟨b, off, none⟩ ∧ len ≤ cap ∧ cap ≤ maxLen ∧
      ∃ n, ∀ k, k < len → ∃ cs : List Value, cs.length = sz ∧ (∀ j u, cs[j]? = some u → w.cell? ⟨b, off + k * sz + j, none⟩ = some u) ∧ ∃ y, DataW.trod enc P w base sp held n e cs = some y := by
  rcases Go.Deep.open_slice ht h with ⟨hcs, _⟩ | ⟨a, len', cap', m, n, D, Pl, hcs, _, hl, hm, hmm, _, hel⟩
  · left
    simp only [List.cons.injEq, Value.slice.injEq, and_true] at hcs
    exact ⟨hcs.2.1, hcs.2.2⟩
  · simp only [List.cons.injEq, Value.slice.injEq, and_true] at hcs
    obtain ⟨rfl, rfl, rfl⟩ := hcs
    rw [hsp] at hmm
    simp only [if_true] at hmm
    subst hmm
    subst hsz
    rcases Nat.eq_zero_or_pos m with h0 | h0
    · left; omega
    · right
      obtain ⟨b, off, spot⟩ := a
      have hspot : spot = none := by
        obtain ⟨cs', hc, _⟩ := hel 0 h0
        obtain ⟨_, hlen, hcells⟩ := World.cells?_some hc
        have h00 : cs'[0]? = some (cs'[0]'(by omega)) := List.getElem?_eq_getElem _
        have := hcells 0 (by omega)
        rw [h00] at this
        have hs := World.cell?_spot this
        simpa [Addr.add] using hs
      subst hspot
      refine ⟨b, off, rfl, hl, hm, n, fun k hk => ?_⟩
      obtain ⟨cs', hc, ht'⟩ := hel k (by omega)
      obtain ⟨_, hlen, hcells⟩ := World.cells?_some hc
      refine ⟨cs', hlen, fun j u hu => ?_, _, ht'⟩
      have hj : j < P.cellsOf e := by rw [← hlen]; exact (List.getElem?_eq_some_iff.1 hu).1
      have := hcells j hj
      rw [addr_add, addr_add] at this
      rw [this, hu]
end
end Go.Proofs.YtggfoihfenlckaaGreat
/- What came in: trees, contexts, vectors. -/
namespace Go.Proofs.YtggfoihfenlckaaGreat
open Go.RowKit Go.WideShapes
theorem flatMap_get {α : Type} (f : α → List Value) (k : Nat) (hk : 0 < k) (hf : ∀ x, (f x).length = k) (d : α) : ∀ (l : List α) (j : Nat) (u : Value), (l.flatMap f)[j]? = some u → j / k < l.length ∧ (f (l.getD (j / k) d))[j % k]? = some u
  | [], j, u, h => by simp at h
  | x :: l, j, u, h => by
    rw [List.flatMap_cons] at h
    by_cases hj : j < k
    · rw [List.getElem?_append_left (by rw [hf]; exact hj)] at h
      rw [Nat.div_eq_of_lt hj, Nat.mod_eq_of_lt hj]
      exact ⟨Nat.zero_lt_succ _, h⟩
    · rw [List.getElem?_append_right (by rw [hf]; omega), hf] at h
      obtain ⟨h1, h2⟩ := flatMap_get f k hk hf d l (j - k) u h
      have e1 : j / k = (j - k) / k + 1 := by rw [Nat.div_eq_sub_div hk (by omega)]
      have e2 : j % k = (j - k) % k := Nat.mod_eq_sub_mod (by omega)
      rw [e1, e2]
      exact ⟨by simpa using h1, by simpa using h2⟩
theorem split_at (j k : Nat) (off : Nat) : off + j / k * k + j % k = off + j := by
  have := Nat.div_add_mod j k
  rw [Nat.mul_comm] at this
  omega
theorem weightsAll_mem {H : Type} {P : Program} {e : TypeId} : ∀ {l : List (DataW H)} {y : DataW H}, y ∈ l → ∀ n ∈ y.weights P e, n ∈ DataW.weightsAll P e l
  | d :: l, y, h, n, hn => by
    rw [DataW.weightsAll, List.mem_append]
    rcases List.mem_cons.1 h with rfl | h
    · exact .inl hn
    · exact .inr (weightsAll_mem h n hn)
theorem wfInt {x : Int} (h : (Lit.int .i64 x).wf = true) : -9223372036854775808 ≤ x ∧ x ≤ 9223372036854775807 := by
  simp only [Lit.wf, IntKind.min, IntKind.max, IntKind.signed, IntKind.bits] at h
  simpa using h
section
variable {H : Type} {enc : TypeId × Value → H} {P : Program} {w : World}
theorem open_arr2 {t e sz by_ : Nat} {a0 : Option Addr} {len cap : Nat} {x : DataW H × List MemPlace} {fuel : Nat} (ht : P.underlying t = some (.slice e)) (hsz : P.cellsOf e = sz) (hpos : 0 < sz) (hby : P.bytesOf e = by_)
    (h : DataW.trod enc P w 0 (fun _ => true) true fuel t [.slice a0 len cap] = some x) (hw : ∀ n ∈ x.1.weights P t, n ≤ reachBytes) :
    (len = 0 ∧ cap = 0) ∨ ∃ b off n, a0 = some ⟨b, off, none⟩ ∧ len ≤ cap ∧ cap ≤ maxLen ∧ fuel = n + 1 ∧ len * by_ ≤ reachBytes ∧
      ∀ k, k < len → ∃ cs : List Value, cs.length = sz ∧ (∀ j u, cs[j]? = some u → w.cell? ⟨b, off + k * sz + j, none⟩ = some u) ∧ ∃ y, DataW.trod enc P w 0 (fun _ => true) true n e cs = some y ∧ ∀ n ∈ y.1.weights P e, n ≤ reachBytes := by
  rcases open_arr ht hsz hpos (fun _ => rfl) h with h0 | ⟨b, off, rfl, hl, hm, _⟩
  · exact .inl h0
  right
  rcases DataW.trod_slice ht h with ⟨hcs, _⟩ | ⟨a, len', cap', elems, rest, n, hfuel, hcs, rfl, _, _, _, hlen, hel, hsp, _⟩
  · simp at hcs
  simp only [List.cons.injEq, Value.slice.injEq, Option.some.injEq, and_true] at hcs
  obtain ⟨rfl, rfl, rfl⟩ := hcs
  subst hsz
  subst hby
  simp only [DataW.weights, ht] at hw
  refine ⟨b, off, n, rfl, hl, hm, hfuel, ?_, fun k hk => ?_⟩
  · have h1 := hw _ List.mem_cons_self
    simp only [List.length_map] at h1
    rw [hlen] at h1
    exact Nat.le_trans (Nat.mul_le_mul_right _ (Nat.le_add_right _ _)) h1
  · have hke : k < elems.length := by omega
    have h1 := hel k hk
    rw [List.getElem?_eq_getElem hke, Option.bind_eq_some_iff] at h1
    obtain ⟨cs', hc, ht'⟩ := h1
    obtain ⟨_, hcl, hcells⟩ := World.cells?_some hc
    refine ⟨cs', hcl, fun j u hu => ?_, _, ht', fun m hm => ?_⟩
    · have hj : j < P.cellsOf e := by rw [← hcl]; exact (List.getElem?_eq_some_iff.1 hu).1
      have := hcells j hj
      rw [addr_add, addr_add] at this
      rw [this, hu]
    · refine hw m (List.mem_cons_of_mem _ (List.mem_append_left _ (weightsAll_mem (y := elems[k].1) ?_ m hm)))
      exact List.mem_map.2 ⟨_, List.getElem_mem hke, rfl⟩
theorem slice_of_trod {t e : Nat} {c : Value} {x : DataW H × List MemPlace} {fuel : Nat} (ht : P.underlying t = some (.slice e)) (h : DataW.trod enc P w 0 (fun _ => true) true fuel t [c] = some x) : ∃ a l k, c = .slice a l k := by
  rcases DataW.trod_slice ht h with ⟨hcs, _⟩ | ⟨a, len', cap', elems, rest, n, hfuel, hcs, _⟩
  · simp at hcs; exact ⟨_, _, _, hcs⟩
  · simp at hcs; exact ⟨_, _, _, hcs⟩
end
section
variable {H : Type} {enc : TypeId × Value → H} {w : World}
theorem Tryz.cells_entry : Tryz.prog.cellsOf 137 = 4 := by kernel_rfl
theorem Tryz.bytes_entry : Tryz.prog.bytesOf 137 = 40 := by kernel_rfl
theorem Tryz.cells_kid : Tryz.prog.cellsOf 139 = 3 := by kernel_rfl
theorem Tryz.bytes_kid : Tryz.prog.bytesOf 139 = 64 := by kernel_rfl
theorem Tryz.cells_dot : Tryz.prog.cellsOf 135 = 2 := by kernel_rfl
theorem Tryz.cells_span : Tryz.prog.cellsOf 122 = 3 := by kernel_rfl
theorem Tryz.bytes_span : Tryz.prog.bytesOf 122 = 24 := by kernel_rfl
theorem Tryz.cells_I : Tryz.prog.cellsOf 3 = 1 := by kernel_rfl
theorem Tryz.cells_I64 : Tryz.prog.cellsOf 2 = 1 := by kernel_rfl
theorem Tryz.cells_S : Tryz.prog.cellsOf 9 = 1 := by kernel_rfl
instance : Inhabited Ent := ⟨Ent.zero⟩
instance : Inhabited KidsL := ⟨.nil⟩
theorem entC_get (l : List Ent) (j : Nat) (u : Value) (h : (entC l)[j]? = some u) : j / 4 < l.length ∧ (l.getD (j / 4) Ent.zero).cells[j % 4]? = some u := flatMap_get Ent.cells 4 (by decide) (fun _ => rfl) Ent.zero l j u h
set_option maxRecDepth 100000 in
theorem ent_of_trod {n : Nat} {cs : List Value} {y : DataW H × List MemPlace} (hl : cs.length = 4) (h : DataW.trod enc Tryz.prog w 0 (fun _ => true) true n 137 cs = some y) : ∃ e : Ent, cs = e.cells ∧ e.fits := by
  obtain ⟨c0, c1, c2, c3, rfl⟩ : ∃ c0 c1 c2 c3, cs = [c0, c1, c2, c3] := by
    match cs, hl with
    | [c0, c1, c2, c3], _ => exact ⟨c0, c1, c2, c3, rfl⟩
  obtain ⟨y0, y1, y2, m, _, _, g0, g1, g2⟩ := Go.Deep.trod_struct3 Tryz.underlying137 h
  rw [Tryz.cells_dot] at g0
  rw [Tryz.cells_S] at g1
  rw [Tryz.cells_I64] at g2
  obtain ⟨z0, z1, m2, _, _, k0, k1⟩ := Go.ChangeShapes.trod_struct2 Tryz.underlying135 g0
  rw [Tryz.cells_I] at k0
  rw [Tryz.cells_I64] at k1
  obtain ⟨d, e0, _, w0⟩ := DataW.trod_int Tryz.underlying3 k0
  obtain ⟨x, e1, _, w1⟩ := DataW.trod_int Tryz.underlying2 k1
  obtain ⟨s, e2, _, hs⟩ := DataW.trod_string Tryz.underlying9 g1
  obtain ⟨z, e3, _, w3⟩ := DataW.trod_int Tryz.underlying2 g2
  simp at e0 e1 e2 e3
  subst e0 e1 e2 e3
  exact ⟨⟨d, x, s, z⟩, rfl, wfInt w0, wfInt w1, wfInt w3, by simp only [maxLen] at hs; omega⟩
theorem open_ents {fuel : Nat} {c : Value} {x : DataW H × List MemPlace} (h : DataW.trod enc Tryz.prog w 0 (fun _ => true) true fuel 32 [c] = some x) (hw : ∀ n ∈ x.1.weights Tryz.prog 32, n ≤ reachBytes) :
    ∃ es : List Ent, RdQ (fun _ => True) w c es.length (entC es) ∧ EsOk es := by
  obtain ⟨a0, len, cap, rfl⟩ := slice_of_trod Tryz.underlying32 h
  rcases open_arr2 Tryz.underlying32 Tryz.cells_entry (by decide) Tryz.bytes_entry h hw with ⟨rfl, rfl⟩ | ⟨b, off, n, rfl, h1, h2, _, h3, hel⟩
  · exact ⟨[], ⟨.inl ⟨a0, rfl, rfl, rfl⟩, fun _ _ _ => trivial⟩, by simp, by simp⟩
  · have hx : ∀ k, k < len → ∃ e : Ent, (∀ j u, e.cells[j]? = some u → w.cell? ⟨b, off + k * 4 + j, none⟩ = some u) ∧ e.fits := fun k hk => by
      obtain ⟨cs, hl, hc, y, hy, _⟩ := hel k hk
      obtain ⟨e, rfl, hf⟩ := ent_of_trod hl hy
      exact ⟨e, hc, hf⟩
    obtain ⟨l, hl, hlp⟩ := list_of_lt hx
    have hlen : l.length ≤ 140737488351232 := by unfold reachBytes at h3; omega
    refine ⟨l, ⟨.inr ⟨b, off, cap, by rw [hl], by omega, h2, fun j u hu => ?_⟩, fun _ _ _ => trivial⟩, hlen, fun e he => ?_⟩
    · obtain ⟨g1, g2⟩ := entC_get l j u hu
      have := (hlp (j / 4) (by omega) Ent.zero).1 (j % 4) u g2
      rwa [split_at] at this
    · obtain ⟨k, hk, rfl⟩ := List.getElem_of_mem he
      have := (hlp k (by omega) Ent.zero).2
      rwa [getD_at Ent.zero hk] at this
set_option maxRecDepth 100000 in
theorem open_tree : ∀ (fuel : Nat) (ev kv : Value) (x : DataW H × List MemPlace), DataW.trod enc Tryz.prog w 0 (fun _ => true) true fuel 35 [ev, kv] = some x → (∀ n ∈ x.1.weights Tryz.prog 35, n ≤ reachBytes) →
    ∃ es ks, TreeAt (fun _ => True) w ev kv es ks ∧ TrOk es ks := by
  intro fuel
  induction fuel using Nat.strongRecOn with
  | _ fuel ih =>
    intro ev kv x h hw
    obtain ⟨xs, n, hn, rfl, _, hxl, hf⟩ := DataW.trod_struct Tryz.underlying35 h
    obtain ⟨y0, y1, rfl⟩ : ∃ y0 y1, xs = [y0, y1] := by
      match xs, hxl with
      | [y0, y1], _ => exact ⟨y0, y1, rfl⟩
    have g0 := hf 0 _ rfl
    have g1 := hf 1 _ rfl
    have g0 : DataW.trod enc Tryz.prog w 0 (fun _ => true) true n 32 [ev] = some y0 := g0
    have g1 : DataW.trod enc Tryz.prog w 0 (fun _ => true) true n 33 [kv] = some y1 := g1
    have hw2 : ∀ m ∈ y0.1.weights Tryz.prog 32 ++ (y1.1.weights Tryz.prog 33 ++ []), m ≤ reachBytes := fun m hm => hw m (by
      simp only [List.map_cons, List.map_nil, DataW.weights, Tryz.underlying35]
      exact hm)
    obtain ⟨es, he, hok⟩ := open_ents g0 fun m hm => hw2 m (List.mem_append_left _ hm)
    have hw3 : ∀ m ∈ y1.1.weights Tryz.prog 33, m ≤ reachBytes := fun m hm => hw2 m (List.mem_append_right _ (List.mem_append_left _ hm))
    obtain ⟨a0, len, cap, rfl⟩ := slice_of_trod Tryz.underlying33 g1
    rcases open_arr2 Tryz.underlying33 Tryz.cells_kid (by decide) Tryz.bytes_kid g1 hw3 with ⟨rfl, rfl⟩ | ⟨b, off, n2, rfl, h1, h2, hn2, h3, hel⟩
    · exact ⟨es, .nil, ⟨he, [], ⟨.inl ⟨a0, rfl, rfl, rfl⟩, fun _ _ _ => trivial⟩, rfl⟩, hok, by decide, trivial⟩
    · have hx : ∀ k, k < len → ∃ q : KidQ, (∀ j u, q.cells[j]? = some u → w.cell? ⟨b, off + k * 3 + j, none⟩ = some u) ∧ TreeAt (fun _ => True) w q.ev q.kv q.es q.sub ∧ q.key.size ≤ 9223372036854775807 ∧ TrOk q.es q.sub := fun k hk => by
        obtain ⟨cs, hl, hc, y, hy, hyw⟩ := hel k hk
        obtain ⟨c0, c1, c2, rfl⟩ : ∃ c0 c1 c2, cs = [c0, c1, c2] := by
          match cs, hl with
          | [c0, c1, c2], _ => exact ⟨c0, c1, c2, rfl⟩
        obtain ⟨zs, n3, hn3, rfl, _, hzl, hg⟩ := DataW.trod_struct Tryz.underlying139 hy
        obtain ⟨z0, z1, rfl⟩ : ∃ z0 z1, zs = [z0, z1] := by
          match zs, hzl with
          | [z0, z1], _ => exact ⟨z0, z1, rfl⟩
        have k0 := hg 0 _ rfl
        have k1 := hg 1 _ rfl
        have k0 : DataW.trod enc Tryz.prog w 0 (fun _ => true) true n3 9 [c0] = some z0 := k0
        have k1 : DataW.trod enc Tryz.prog w 0 (fun _ => true) true n3 35 [c1, c2] = some z1 := k1
        have hyw2 : ∀ m ∈ z0.1.weights Tryz.prog 9 ++ (z1.1.weights Tryz.prog 35 ++ []), m ≤ reachBytes := fun m hm => hyw m (by
          simp only [List.map_cons, List.map_nil, DataW.weights, Tryz.underlying139]
          exact hm)
        obtain ⟨s, e2, _, hs⟩ := DataW.trod_string Tryz.underlying9 k0
        simp at e2
        subst e2
        obtain ⟨es', ks', ht, hok'⟩ := ih n3 (by omega) c1 c2 z1 k1 fun m hm => hyw2 m (List.mem_append_right _ (List.mem_append_left _ hm))
        exact ⟨⟨s, es', ks', c1, c2⟩, hc, ht, by simp only [maxLen] at hs; show s.size ≤ _; omega, hok'⟩
      obtain ⟨l, hl, hlp⟩ := list_of_lt hx
      have hq : ∀ q ∈ l, TreeAt (fun _ => True) w q.ev q.kv q.es q.sub ∧ q.key.size ≤ 9223372036854775807 ∧ TrOk q.es q.sub := fun q hq => by
        obtain ⟨k, hk, rfl⟩ := List.getElem_of_mem hq
        have := (hlp k (by omega) default).2
        rwa [getD_at default hk] at this
      refine ⟨es, mkK l, ⟨he, outK l, ⟨.inr ⟨b, off, cap, by rw [mkK_len, hl], by rw [mkK_len]; omega, h2, fun j u hu => ?_⟩, fun _ _ _ => trivial⟩, mkK_for fun q h => (hq q h).1⟩, hok, by rw [mkK_len, hl]; unfold reachBytes at h3; omega, mkK_ok fun q h => (hq q h).2⟩
      rw [mkK_cells] at hu
      obtain ⟨g1, g2⟩ := flatMap_get KidQ.cells 3 (by decide) (fun _ => rfl) default l j u hu
      have := (hlp (j / 3) (by omega) default).1 (j % 3) u g2
      rwa [split_at] at this
theorem spC_get (l : CtxL) (j : Nat) (u : Value) (h : (spC l)[j]? = some u) : j / 3 < l.length ∧ ([.int .i64 (l.getD (j / 3) (0, 0, 0)).1, .int .i64 (l.getD (j / 3) (0, 0, 0)).2.1, .int .i64 (l.getD (j / 3) (0, 0, 0)).2.2] : List Value)[j % 3]? = some u :=
  flatMap_get (fun s : Int × Int × Int => [.int .i64 s.1, .int .i64 s.2.1, .int .i64 s.2.2]) 3 (by decide) (fun _ => rfl) (0, 0, 0) l j u h
set_option maxRecDepth 100000 in
theorem open_ctx {fuel : Nat} {c : Value} {x : DataW H × List MemPlace} (h : DataW.trod enc Tryz.prog w 0 (fun _ => true) true fuel 31 [c] = some x) (hw : ∀ n ∈ x.1.weights Tryz.prog 31, n ≤ reachBytes) :
    ∃ l : CtxL, CtxAt w c l ∧ FitsC l ∧ l.length ≤ 140737488351232 := by
  obtain ⟨a0, len, cap, rfl⟩ := slice_of_trod Tryz.underlying31 h
  rcases open_arr2 Tryz.underlying31 Tryz.cells_span (by decide) Tryz.bytes_span h hw with ⟨rfl, rfl⟩ | ⟨b, off, n, rfl, h1, h2, _, h3, hel⟩
  · exact ⟨[], .inl ⟨a0, rfl, rfl, rfl⟩, (fun s hs => by cases hs), Nat.zero_le _⟩
  · have hx : ∀ k, k < len → ∃ s : Int × Int × Int, (∀ j u, ([.int .i64 s.1, .int .i64 s.2.1, .int .i64 s.2.2] : List Value)[j]? = some u → w.cell? ⟨b, off + k * 3 + j, none⟩ = some u) ∧ (-9223372036854775808 ≤ s.1 ∧ s.1 ≤ 9223372036854775807 ∧ -9223372036854775808 ≤ s.2.1 ∧ s.2.1 ≤ 9223372036854775807 ∧ -9223372036854775808 ≤ s.2.2 ∧ s.2.2 ≤ 9223372036854775807) := fun k hk => by
      obtain ⟨cs, hl, hc, y, hy, _⟩ := hel k hk
      obtain ⟨c0, c1, c2, rfl⟩ : ∃ c0 c1 c2, cs = [c0, c1, c2] := by
        match cs, hl with
        | [c0, c1, c2], _ => exact ⟨c0, c1, c2, rfl⟩
      obtain ⟨y0, y1, y2, m, _, _, g0, g1, g2⟩ := Go.Deep.trod_struct3 Tryz.underlying122 hy
      rw [Tryz.cells_I] at g0
      rw [Tryz.cells_I64] at g1 g2
      obtain ⟨p, e0, _, w0⟩ := DataW.trod_int Tryz.underlying3 g0
      obtain ⟨q, e1, _, w1⟩ := DataW.trod_int Tryz.underlying2 g1
      obtain ⟨r, e2, _, w2⟩ := DataW.trod_int Tryz.underlying2 g2
      simp at e0 e1 e2
      subst e0 e1 e2
      exact ⟨(p, q, r), hc, (wfInt w0).1, (wfInt w0).2, (wfInt w1).1, (wfInt w1).2, (wfInt w2).1, (wfInt w2).2⟩
    obtain ⟨l, hl, hlp⟩ := list_of_lt hx
    refine ⟨l, .inr ⟨b, off, cap, by rw [hl], by omega, h2, fun j u hu => ?_⟩, fun s hs => ?_, by unfold reachBytes at h3; omega⟩
    · obtain ⟨g1, g2⟩ := spC_get l j u hu
      have := (hlp (j / 3) (by omega) (0, 0, 0)).1 (j % 3) u g2
      rwa [split_at] at this
    · obtain ⟨k, hk, rfl⟩ := List.getElem_of_mem hs
      have := (hlp k (by omega) (0, 0, 0)).2
      rwa [getD_at (0, 0, 0) hk] at this
end
end Go.Proofs.YtggfoihfenlckaaGreat
/- A region that draws its order and ends with one store: what its loads read holds behind every operation but that one. -/
namespace Go.Proofs.YtggfoihfenlckaaGreat
section
variable {P : Program} {ops : Array Oper} {Q : Exit → Act → World → Prop} {md : Region.Mode} {S : World → Prop} {z : Nat}
/-- Whatever order is picked from here on, S holds behind every operation but number z. -/
def wpAnyG (P : Program) (md : Region.Mode) (ops : Array Oper) (Q : Exit → Act → World → Prop) (S : World → Prop) (z : Nat) : Nat → Array Bool → Act → World → Prop
  | 0, listed, a, w => Region.ready md ops listed = [] ∧ Q .normal a w
  | fuel + 1, listed, a, w =>
    (Region.ready md ops listed = [] → Q .normal a w) ∧
    ∀ i ∈ Region.ready md ops listed, wpOp P ops Q i (fun a' w' => (i = z ∨ S w') ∧ wpAnyG P md ops Q S z fuel (listed.setIfInBounds i true) a' w') a w
theorem wpAny_of_G : ∀ (fuel : Nat) (listed : Array Bool) (a : Act) (w : World), wpAnyG P md ops Q S z fuel listed a w → wpAny P md ops Q fuel listed a w
  | 0, _, _, _, h => h
  | fuel + 1, _, _, _, h => ⟨h.1, fun i hi => wpOp_mono (fun a' w' h' => wpAny_of_G fuel _ a' w' h'.2) (h.2 i hi)⟩
/-- Number z waits for all others. -/
def lastB (md : Region.Mode) (ops : Array Oper) (z : Nat) : Bool := (List.range ops.size).all fun i => i == z || (match ops[z]? with | some o => o.after.any fun e => Region.binds md e && e.on == i | none => false)
theorem lastB_spec {i : Nat} {o oi : Oper} (h : lastB md ops z = true) (hz : ops[z]? = some o) (hi : ops[i]? = some oi) (hne : i ≠ z) : ∃ e ∈ o.after, Region.binds md e = true ∧ e.on = i := by
  unfold lastB at h
  rw [List.all_eq_true] at h
  have hlt : i < ops.size := (Array.getElem?_eq_some_iff.1 hi).1
  have h1 := h i (List.mem_range.2 hlt)
  rw [hz] at h1
  simp only [Bool.or_eq_true, beq_iff_eq, hne, false_or, Array.any_eq_true, Bool.and_eq_true] at h1
  obtain ⟨k, hk, h2, h3⟩ := h1
  exact ⟨o.after[k], Array.getElem_mem hk, h2, h3⟩
theorem wpAnyG_first {i : Nat} {oi : Oper} {v : Value} (hi : ops[i]? = some oi) (hsel : ∀ (j : Nat) (o : Oper) cs b, ops[j]? = some o → o.op ≠ .select cs b) (hl : lastB md ops z = true) (hiz : i ≠ z)
    (hQ : ∀ c a w, Q (.panic c) (a.put oi.dst v) w → Q (.panic c) a w) :
    ∀ (fuel : Nat) (listed : Array Bool) (a : Act) (w : World),
      (∀ j oj, ops[j]? = some oj → j ≠ i → listed.getD j true = false → (∀ e ∈ oj.after, Region.binds md e = true → e.on ≠ i) → oi.apart ops oj = true) →
      i ∈ Region.ready md ops listed → YieldsIf P ops S oi v a → S w →
      wpAnyG P md ops Q S z fuel (listed.setIfInBounds i true) (a.put oi.dst v) w → wpAnyG P md ops Q S z (fuel + 1) listed a w := by
  intro fuel
  induction fuel with
  | zero =>
    intro listed a w _ hr hy hS H
    refine ⟨fun h => (by rw [h] at hr; cases hr), fun j hj => ?_⟩
    by_cases hji : j = i
    · subst hji; exact hy.wpOp hi hS ⟨.inr hS, H⟩
    · have := ready_mono hj hji
      rw [H.1] at this
      cases this
  | succ fuel ih =>
    intro listed a w hfree hr hy hS H
    refine ⟨fun h => (by rw [h] at hr; cases hr), fun j hj => ?_⟩
    by_cases hji : j = i
    · subst hji; exact hy.wpOp hi hS ⟨.inr hS, H⟩
    · have h1 := H.2 j (ready_mono hj hji)
      obtain ⟨hjun, oj, hoj, hall⟩ := mem_ready.1 hj
      have hnot : ∀ e ∈ oj.after, Region.binds md e = true → e.on ≠ i := fun e he hb heq => by
        have h1 := hall e he hb
        have h0 := (mem_ready.1 hr).1
        rw [heq] at h1
        rcases Nat.lt_or_ge i listed.size with h' | h'
        · simp [h'] at h0 h1; rw [h0] at h1; cases h1
        · simp [Array.getElem?_eq_none h'] at h1
      have hjz : j ≠ z := fun hz => by
        subst hz
        obtain ⟨e, he, hb, heq⟩ := lastB_spec hl hoj hi hiz
        exact hnot e he hb heq
      have h2 := wpOp_putIf hoj (hfree j oj hoj hji hjun hnot) (fun cs b => hsel i oi cs b hi) (fun cs b => hsel j oj cs b hoj) hQ hy h1
      have hfree' : ∀ k ok, ops[k]? = some ok → k ≠ i → (listed.setIfInBounds j true).getD k true = false →
          (∀ e ∈ ok.after, Region.binds md e = true → e.on ≠ i) → oi.apart ops ok = true := fun k ok hk hki hun hno => by
        refine hfree k ok hk hki ?_ hno
        by_cases hjk : j = k
        · subst hjk; exact hjun
        · rw [getD_set_ne true hjk] at hun; exact hun
      refine wpOp_mono (fun a' w' h3 => ?_) h2
      have hS' : S w' := h3.2.1.resolve_left hjz
      refine ⟨.inr hS', ih (listed.setIfInBounds j true) a' w' hfree' (ready_mono hr (Ne.symm hji)) h3.1 hS' ?_⟩
      rw [Array.setIfInBounds_comm _ _ hji]
      exact h3.2.2
/-- An operation that reads is taken first. -/
theorem take_opG (i d : Nat) {oi : Oper} {v : Value} {fuel : Nat} {listed : Array Bool} {a : Act} {w : World} (hi : ops[i]? = some oi) (hd : oi.dst = some d)
    (hs : Region.noSelect ops = true) (hl : lastB md ops z = true) (hiz : i ≠ z) (hf : Region.free md ops listed i = true) (hr : (Region.ready md ops listed).contains i = true)
    (hQ : ∀ c a w, Q (.panic c) (a.put (some d) v) w → Q (.panic c) a w) (hy : YieldsIf P ops S oi v a) (hS : S w)
    (h : wpAnyG P md ops Q S z fuel (listed.setIfInBounds i true) (a.put (some d) v) w) : wpAnyG P md ops Q S z (fuel + 1) listed a w :=
  wpAnyG_first hi (Region.noSelect_spec hs) hl hiz (by rw [hd]; exact hQ) fuel listed a w (Region.free_spec hi hf) (by simpa using hr) hy hS (by rw [hd]; exact h)
/-- The one that comes up next. -/
theorem one_opG {i : Nat} {o : Oper} {fuel : Nat} {listed : Array Bool} {a : Act} {w : World} (hr : Region.ready md ops listed = [i]) (ho : ops[i]? = some o)
    (h : ∀ K' : Act → World → Prop, Shut (∀ a w, S w → wpAnyG P md ops Q S z fuel (listed.setIfInBounds i true) a w → K' a w) → if Region.wanted o (yielded ops a.tmps) = true then Oper.wp P o a w K' Q else K' (a.put o.dst undef) w) :
    wpAnyG P md ops Q S z (fuel + 1) listed a w :=
  ⟨fun h0 => (by rw [hr] at h0; cases h0), fun j hj => by
    rw [hr] at hj
    obtain rfl : j = i := by simpa using hj
    exact wpOp_step ho fun K' hK => h K' fun a w hS hW => hK a w ⟨.inr hS, hW⟩⟩
/-- The last one. -/
theorem last_opG {o : Oper} {fuel : Nat} {listed : Array Bool} {a : Act} {w : World} (hr : Region.ready md ops listed = [z]) (hr2 : Region.ready md ops (listed.setIfInBounds z true) = []) (ho : ops[z]? = some o)
    (h : ∀ K' : Act → World → Prop, Shut (∀ a w, Q .normal a w → K' a w) → if Region.wanted o (yielded ops a.tmps) = true then Oper.wp P o a w K' Q else K' (a.put o.dst undef) w) :
    wpAnyG P md ops Q S z (fuel + 1) listed a w :=
  ⟨fun h0 => (by rw [hr] at h0; cases h0), fun j hj => by
    rw [hr] at hj
    obtain rfl : j = z := by simpa using hj
    refine wpOp_step ho fun K' hK => h K' fun a w hQ => hK a w ⟨.inl rfl, ?_⟩
    cases fuel with
    | zero => exact ⟨hr2, hQ⟩
    | succ n => exact ⟨fun _ => hQ, by rw [hr2]; simp⟩⟩
theorem wp_region_G {id : Nat} {a : Act} {w : World} (z : Nat) (hm : P.follows .mixedOrders = true) (hS : S w.drew)
    (h : S w.drew → wpAnyG P .any ops Q S z ops.size (Array.replicate ops.size false) a w.drew) : (Code.region id ops true).wp P Q a w :=
  wp_region_any hm (wpAny_of_G _ _ _ _ (h hS))
end
end Go.Proofs.YtggfoihfenlckaaGreat
/- Four slices of one's own in a block: each may grow. -/
namespace Go.Proofs.YtggfoihfenlckaaGreat
open Go.RowKit
def upd {α : Type} (f : Nat → α) (d : Nat) (x : α) : Nat → α := fun c => if c = d then x else f c
theorem upd_same {α : Type} (f : Nat → α) (d : Nat) (x : α) : upd f d x d = x := by simp [upd]
theorem upd_other {α : Type} (f : Nat → α) {d c : Nat} (x : α) (h : c ≠ d) : upd f d x c = f c := by simp [upd, h]
def four4 (vs : Nat → Value) : Array Value := #[vs 0, vs 1, vs 2, vs 3]
theorem four4_at (vs : Nat → Value) {d : Nat} (h : d < 4) : (four4 vs)[d]? = some (vs d) := by
  rcases (by omega : d = 0 ∨ d = 1 ∨ d = 2 ∨ d = 3) with rfl | rfl | rfl | rfl <;> rfl
theorem four4_set (vs : Nat → Value) {d : Nat} (h : d < 4) (v : Value) : (four4 vs).setIfInBounds d v = four4 (upd vs d v) := by
  rcases (by omega : d = 0 ∨ d = 1 ∨ d = 2 ∨ d = 3) with rfl | rfl | rfl | rfl <;> rfl
theorem KeepsN.owns {N : Nat → Prop} {w w' : World} (h : KeepsN N w w') {base : Nat} {e : TypeId} {size : Nat} {v : Value} {n : Nat} {xs : List Value} (ho : w.ownsRow base e size v n xs) (hn : ∀ k, v.ownBlock = some k → N k) : w'.ownsRow base e size v n xs := by
  refine ⟨ho.1, ?_⟩
  rcases ho.2 with hx | ⟨g, cap, cur, rfl, hb, hg, rest⟩
  · exact .inl hx
  · exact .inr ⟨g, cap, cur, rfl, hb, h.blk (hn g rfl) hg, rest⟩
/-- The block pb holds four slices of one's own, made since w0, each in memory by itself and in none of the blocks M. -/
structure FourAt (M : Nat → Prop) (T e : TypeId) (size : Nat) (w0 w : World) (pb : Nat) (vs : Nat → Value) (n : Nat → Nat) (xs : Nat → List Value) : Prop where
  blk : w.heap[pb]? = some (.cells (four4 vs) T (0, 0))
  new : w0.heap.size ≤ pb
  mlt : ∀ k, M k → k < w.heap.size
  mne : ¬ M pb
  own : ∀ d, d < 4 → OwnBut (fun k => k = pb ∨ M k) w0 w e size (vs d) (n d) (xs d)
  apart : ∀ d c, d < 4 → c < 4 → d ≠ c → ∀ k, (vs d).ownBlock = some k → (vs c).ownBlock ≠ some k
/-- All that is beside one of the four. -/
def Rest4 (M : Nat → Prop) (pb : Nat) (vs : Nat → Value) (d k : Nat) : Prop := k = pb ∨ M k ∨ ∃ c, c < 4 ∧ c ≠ d ∧ (vs c).ownBlock = some k
section
variable {M : Nat → Prop} {T e : TypeId} {size : Nat} {w0 w w' : World} {pb : Nat} {vs : Nat → Value} {n : Nat → Nat} {xs : Nat → List Value}
theorem FourAt.cell (h : FourAt M T e size w0 w pb vs n xs) {d : Nat} (hd : d < 4) : w.cell? ⟨pb, d, none⟩ = some (vs d) := cell_at' h.blk d (four4_at vs hd)
theorem FourAt.but (h : FourAt M T e size w0 w pb vs n xs) {d : Nat} (hd : d < 4) : OwnBut (Rest4 M pb vs d) w0 w e size (vs d) (n d) (xs d) :=
  ⟨(h.own d hd).at_, fun k hk hr => by
    rcases hr with hr | hr | ⟨c, hc, hne, hck⟩
    · exact (h.own d hd).but k hk (.inl hr)
    · exact (h.own d hd).but k hk (.inr hr)
    · exact h.apart c d hc hd hne k hck hk⟩
theorem FourAt.lt (h : FourAt M T e size w0 w pb vs n xs) (d k : Nat) (hr : Rest4 M pb vs d k) : k < w.heap.size := by
  rcases hr with rfl | hr | ⟨c, hc, _, hck⟩
  · exact lt_of_block h.blk
  · exact h.mlt k hr
  · exact (h.own c hc).at_.lt k hck
theorem FourAt.keep (h : FourAt M T e size w0 w pb vs n xs) (f : Frm NoS w w') : FourAt M T e size w0 w' pb vs n xs :=
  ⟨f.blk h.blk id, h.new, fun k hk => Nat.lt_of_lt_of_le (h.mlt k hk) f.size, h.mne, fun d hd => (h.own d hd).keep f, h.apart⟩
theorem FourAt.frm (h : FourAt M T e size w0 w pb vs n xs) : Frm NoS w0 w := (h.own 0 (by omega)).at_.frm
/-- A block more that holds none of them. -/
theorem FourAt.box (h : FourAt M T e size w0 w pb vs n xs) (o : Obj) : FourAt (fun k => M k ∨ k = w.heap.size) T e size w0 (w.alloc o) pb vs n xs :=
  ⟨(Frm.alloc NoS w o).blk h.blk id, h.new, fun k hk => by
    simp
    rcases hk with hk | hk
    · have := h.mlt k hk; omega
    · omega, fun hm => hm.elim h.mne fun he => by have := lt_of_block h.blk; omega, fun d hd => ⟨((h.own d hd).keep (Frm.alloc _ _ _)).at_, fun k hk hr => by
    rcases hr with hr | hr | hr
    · exact (h.own d hd).but k hk (.inl hr)
    · exact (h.own d hd).but k hk (.inr hr)
    · have := (h.own d hd).at_.lt k hk; omega⟩, h.apart⟩
theorem FourAt.mono {M' : Nat → Prop} (h : FourAt M T e size w0 w pb vs n xs) (hm : ∀ k, M' k → M k) : FourAt M' T e size w0 w pb vs n xs :=
  ⟨h.blk, h.new, fun k hk => h.mlt k (hm k hk), fun hk => h.mne (hm _ hk), fun d hd => (h.own d hd).mono fun k hk => hk.elim .inl fun hk => .inr (hm k hk), h.apart⟩
/-- One of them has grown, and is stored. -/
theorem FourAt.step (h : FourAt M T e size w0 w pb vs n xs) {d : Nat} (hd : d < 4) {v' : Value} {n' : Nat} {xs' : List Value} (kp : KeepsN (Rest4 M pb vs d) w w') (ob : OwnBut (Rest4 M pb vs d) w0 w' e size v' n' xs') :
    FourAt M T e size w0 (w'.setCell ⟨pb, d, none⟩ v') pb (upd vs d v') (upd n d n') (upd xs d xs') := by
  have hset := set_at' (kp.blk (.inl rfl) h.blk) d v'
  rw [four4_set vs hd] at hset
  have hsz : (w'.setCell ⟨pb, d, none⟩ v').heap.size = w'.heap.size := by simp [World.setCell]
  refine ⟨hset, h.new, fun k hk => by rw [hsz]; exact Nat.lt_of_lt_of_le (h.mlt k hk) kp.1, h.mne, fun c hc => ?_, fun a c ha hc hne k hk => ?_⟩
  · by_cases he : c = d
    · subst he
      rw [upd_same, upd_same, upd_same]
      exact (ob.mono (M := fun k => k = pb ∨ M k) fun k hk => hk.elim .inl fun hk => .inr (.inl hk)).set (.inl rfl) h.new _
    · rw [upd_other _ _ he, upd_other _ _ he, upd_other _ _ he]
      have hc1 := h.own c hc
      have : OwnBut (fun k => k = pb ∨ M k) w0 w' e size (vs c) (n c) (xs c) :=
        ⟨⟨kp.owns hc1.at_.own (fun k hk => .inr (.inr ⟨c, hc, he, hk⟩)), hc1.at_.new, ob.at_.frm⟩, hc1.but⟩
      exact this.set (.inl rfl) h.new _
  · by_cases hea : a = d
    · subst hea
      rw [upd_same] at hk
      rw [upd_other _ _ (Ne.symm hne)]
      exact fun hck => ob.but k hk (.inr (.inr ⟨c, hc, Ne.symm hne, hck⟩))
    · rw [upd_other _ _ hea] at hk
      by_cases hec : c = d
      · subst hec
        rw [upd_same]
        exact fun hck => ob.but k hck (.inr (.inr ⟨a, ha, hea, hk⟩))
      · rw [upd_other _ _ hec]
        exact h.apart a c ha hc hne k hk
theorem FourAt.congr {n' : Nat → Nat} {xs' : Nat → List Value} (h : FourAt M T e size w0 w pb vs n xs) (hn : ∀ d, d < 4 → n' d = n d) (hx : ∀ d, d < 4 → xs' d = xs d) : FourAt M T e size w0 w pb vs n' xs' :=
  ⟨h.blk, h.new, h.mlt, h.mne, fun d hd => by rw [hn d hd, hx d hd]; exact h.own d hd, h.apart⟩
end
/-- Four cells of a block of one's own are stored. -/
theorem res4 {w0 w : World} {b : Nat} {T : TypeId} {a0 a1 a2 a3 : Value} (h : w.heap[b]? = some (.cells #[a0, a1, a2, a3] T (0, 0))) (f : Frm NoS w0 w) (hb : w0.heap.size ≤ b) (v0 v1 v2 v3 : Value) :
    ((((w.setCell ⟨b, 0, none⟩ v0).setCell ⟨b, 1, none⟩ v1).setCell ⟨b, 2, none⟩ v2).setCell ⟨b, 3, none⟩ v3).heap[b]? = some (.cells #[v0, v1, v2, v3] T (0, 0)) ∧
    Frm NoS w0 ((((w.setCell ⟨b, 0, none⟩ v0).setCell ⟨b, 1, none⟩ v1).setCell ⟨b, 2, none⟩ v2).setCell ⟨b, 3, none⟩ v3) :=
  ⟨set_at' (set_at' (set_at' (set_at' h 0 v0) 1 v1) 2 v2) 3 v3, (((f.set1 (p := ⟨b, 0, none⟩) (.inr hb)).set1 (p := ⟨b, 1, none⟩) (.inr hb)).set1 (p := ⟨b, 2, none⟩) (.inr hb)).set1 (p := ⟨b, 3, none⟩) (.inr hb)⟩
/-- At the start they are nil. -/
theorem FourAt.start {M : Nat → Prop} {w0 w : World} (T e : TypeId) (size : Nat) (f : Frm NoS w0 w) (hm : ∀ k, M k → k < w.heap.size) :
    FourAt M T e size w0 (w.alloc (.cells #[.slice none 0 0, .slice none 0 0, .slice none 0 0, .slice none 0 0] T)) w.heap.size (fun _ => .slice none 0 0) (fun _ => 0) (fun _ => []) :=
  ⟨heap_alloc_new w _, f.size, fun k hk => by have := hm k hk; simp; omega, fun h => by have := hm _ h; omega, fun d _ => OwnBut.nil (f.trans (Frm.alloc _ _ _) fun _ _ h => h) _ _, fun d c _ _ _ k hk => by simp [Value.ownBlock] at hk⟩
section
variable {P : Program}
/-- append in a region that draws its order, of what the translation has just laid. -/
theorem step_appB {ops : Array Oper} {o : Oper} {a : Act} (N : Nat → Prop) (w0 w : World) {K : Act → World → Prop} {Q : Exit → Act → World → Prop} {E : Prop} (news : List Value) (hgd : o.guard = none) (s x : Operand) (t : TypeId)
    (ho : o.op = .call { callee := .builtin .append, args := #[s, x], argTypes := #[t, t] })
    (e : TypeId) (i : TypeInfo) (z : Value) (size bytes : Nat) (ht : P.underlying t = some (.slice e)) (hi : P.info? e = some i) (hz : i.zero = some z)
    (hsize : i.size = size) (hby : i.bytes = bytes) (hzs : z.cells.size = size) (hsz : 0 < size)
    (v : Value) (n : Nat) (xs : List Value) (hown : OwnBut N w0 w e size v n xs) (hN : ∀ k, N k → k < w.heap.size) (m c : Nat) (hv : a.eval s = v) (hx : a.eval x = .slice (some ⟨w.heap.size, 0, none⟩) m c)
    (hnl : news.length = m * size) (h1 : ∀ u ∈ news, u.oneCell' = true) (h63 : n + m ≤ maxLen) (hbytes : (n + m) * bytes ≤ 140737488355328)
    (h : ∀ ad c w', OwnBut N w0 w' e size (.slice ad (n + m) c) (n + m) (xs ++ news) → KeepsN N w w' → K (a.put o.dst (.slice ad (n + m) c)) w') :
    if Region.wanted o (yielded ops a.tmps) = true then Oper.wp P o a (w.alloc (.cells news.toArray e)) K Q else E := by
  have hw : Region.wanted o (yielded ops a.tmps) = true := by simp [Region.wanted, hgd]
  rw [if_pos hw]
  have hs : Src P size t (.slice (some ⟨w.heap.size, 0, none⟩) m c) m news (w.alloc (.cells news.toArray e)) :=
    Src.ofSlice _ ht ⟨w.heap.size, 0, none⟩ m c news hnl (fun j u hj => by
      have hadd : (⟨w.heap.size, 0, none⟩ : Addr).add j = ⟨w.heap.size, j, none⟩ := by unfold Addr.add; split <;> simp_all
      rw [hadd, cell_of_row (w.alloc (.cells news.toArray e)) w.heap.size j news.toArray e (0, 0) (heap_alloc_new w _)]
      simpa using hj) h1
  obtain ⟨v', w', hr, h2, h3, h4, ⟨ad, c', rfl⟩, h6⟩ := run_app (P := P) (w.alloc (.cells news.toArray e)) t t o.type e i z size bytes ht hi hz hsize hby hzs hsz v n xs (hown.at_.own.alloc _) _ m news hs h63 hbytes
  unfold Oper.wp execOp
  simp only [ho, resolve, invoke, builtin, Sem.run_bind, Sem.run_pure, Result.andThen_ok, List.map_toArray, List.map_cons, List.map_nil, hv, hx, hr]
  have hst := hown.step hN h2 ((Frm.alloc (RowS v) w _).trans h3 (fun _ _ h => h)) fun k hk => (h4 k hk).elim .inl fun h => .inr (by simp at h; omega)
  exact h ad c' w' hst.1 hst.2
end
end Go.Proofs.YtggfoihfenlckaaGreat