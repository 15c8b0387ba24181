/- What a call may write: 'Frm S w w'': below the heap's size of w only blocks in S may have turned; the streams are as they were. -/
import Derived.WalkKit
import Derived.WalkSpells
import Derived.WalkLawsBesides
import Derived.Lib.Hide
import Derived.OneCell
import Derived.Deep.AppendSrc
namespace Go.Proofs.Ytclihppeaikhiaa
open Go.RowKit

/-- Below the heap's size of w only blocks in S may have turned; the streams are as they were; no block has gone. -/
structure Frm (S : Nat → Prop) (w w' : World) : Prop where
  os : w'.os = w.os
  tape : w'.tape = w.tape
  output : w'.output = w.output
  size : w.heap.size ≤ w'.heap.size
  block : ∀ k, k < w.heap.size → ¬ S k → w'.heap[k]? = w.heap[k]?

theorem Frm.refl (S : Nat → Prop) (w : World) : Frm S w w := ⟨rfl, rfl, rfl, Nat.le_refl _, fun _ _ _ => rfl⟩
theorem Frm.mono {S T : Nat → Prop} {w w' : World} (h : Frm S w w') (hs : ∀ k, k < w.heap.size → S k → T k) : Frm T w w' :=
  ⟨h.os, h.tape, h.output, h.size, fun k hk hn => h.block k hk fun s => hn (hs k hk s)⟩
theorem Frm.trans {S T : Nat → Prop} {a b c : World} (h : Frm S a b) (k : Frm T b c) (hs : ∀ i, i < a.heap.size → T i → S i) : Frm S a c :=
  ⟨k.os.trans h.os, k.tape.trans h.tape, k.output.trans h.output, Nat.le_trans h.size k.size,
   fun i hi hn => (k.block i (Nat.lt_of_lt_of_le hi h.size) fun t => hn (hs i hi t)).trans (h.block i hi hn)⟩
theorem Frm.alloc (S : Nat → Prop) (w : World) (o : Obj) : Frm S w (w.alloc o) :=
  ⟨rfl, rfl, rfl, by simp, fun k hk _ => Below.heap_alloc _ _ _ hk⟩
theorem Frm.drew (S : Nat → Prop) (w : World) : Frm S w w.drew := ⟨rfl, rfl, rfl, Nat.le_refl _, fun _ _ _ => rfl⟩
theorem Frm.drewN (S : Nat → Prop) (w : World) (n : Nat) : Frm S w (w.drewN n) := ⟨rfl, rfl, rfl, Nat.le_refl _, fun _ _ _ => rfl⟩
theorem Frm.setCell {S : Nat → Prop} (w : World) {p : Addr} (hp : S p.block ∨ w.heap.size ≤ p.block) (u : Value) : Frm S w (w.setCell p u) :=
  ⟨rfl, rfl, rfl, by simp [World.setCell], fun k hk hn => Below.heap_setCell _ _ _ _ fun e => by
    rcases hp with hp | hp
    · exact hn (e ▸ hp)
    · omega⟩
theorem Frm.grown {S : Nat → Prop} {w w' : World} {row : Option Nat} (h : w.grownBy w' row) (hr : ∀ k, row = some k → S k ∨ w.heap.size ≤ k) : Frm S w w' :=
  ⟨h.os, h.tape, h.output, h.size, fun k hk hn => h.block k hk fun e => by
    rcases hr k e.symm with hp | hp
    · exact hn hp
    · omega⟩
theorem Frm.cell {S : Nat → Prop} {w w' : World} (h : Frm S w w') {p : Addr} (hp : p.block < w.heap.size) (hn : ¬ S p.block) : w'.cell? p = w.cell? p :=
  World.cell?_of_block (w := w) (h.block p.block hp hn)
theorem Frm.cell' {S : Nat → Prop} {w w' : World} (h : Frm S w w') {p : Addr} {v : Value} (hv : w.cell? p = some v) (hn : ¬ S p.block) : w'.cell? p = some v :=
  (h.cell (World.block_lt_of_cell? w p hv) hn).trans hv
theorem Frm.frozen {S : Nat → Prop} {w w' : World} (h : Frm S w w') {p : Addr} (hp : p.block < w.heap.size) (hn : ¬ S p.block) : w'.frozen? p = w.frozen? p :=
  World.frozen?_of_block (w := w) (h.block p.block hp hn)
theorem Frm.blk {S : Nat → Prop} {w w' : World} (h : Frm S w w') {k : Nat} {o : Obj} (hv : w.heap[k]? = some o) (hn : ¬ S k) : w'.heap[k]? = some o :=
  (h.block k (lt_of_block hv) hn).trans hv
/-- Nothing that was there has turned. -/
theorem Frm.below {w w' : World} (h : Frm (fun _ => False) w w') : Below w.heap.size w w' :=
  ⟨h.os, h.tape, h.output, h.size, fun k hk => h.block k hk id⟩
theorem Frm.of_below {S : Nat → Prop} {w w' : World} (h : Below w.heap.size w w') : Frm S w w' :=
  ⟨h.os, h.tape, h.output, h.size, fun k hk _ => h.block k hk⟩
theorem Frm.grownBy {w w' : World} {r : Option Nat} (h : Frm (fun k => r = some k) w w') : w.grownBy w' r :=
  ⟨h.os, h.tape, h.output, h.size, fun k hk hn => h.block k hk fun e => hn e.symm⟩
theorem Frm.owns {S : Nat → Prop} {w w' : World} (h : Frm S w w') {base : Nat} {e : TypeId} {size : Nat} {v : Value} {n : Nat} {xs : List Value}
    (ho : w.ownsRow base e size v n xs) (hn : ∀ k, v.ownBlock = some k → ¬ S k) : w'.ownsRow base e size v n xs := by
  refine ⟨ho.1, ?_⟩
  rcases ho.2 with hx | ⟨g, cap, cur, rfl, hb, hg, rest⟩
  · exact .inl hx
  · exact .inr ⟨g, cap, cur, rfl, hb, h.blk hg (hn g rfl), rest⟩

theorem ret_bool {a b : Bool} (h : a = b) : Ending.returned (.bool a) = .returned (.bool b) := by rw [h]
theorem ret_int {k : IntKind} {a b : Int} (h : a = b) : Ending.returned (.int k a) = .returned (.int k b) := by rw [h]
/-- The bytes as values. -/
def bV (l : List UInt8) : List Value := l.map fun b => .int .u8 (b.toNat : Int)
@[simp] theorem bV_length (l : List UInt8) : (bV l).length = l.length := by simp [bV]
theorem bV_append (a b : List UInt8) : bV (a ++ b) = bV a ++ bV b := by simp [bV]
theorem bV_one (b : UInt8) : bV [b] = [.int .u8 (b.toNat : Int)] := rfl
theorem bV_snoc (l : List UInt8) (b : UInt8) {c : Int} (h : c = (b.toNat : Int)) : bV l ++ [.int .u8 c] = bV (l ++ [b]) := by rw [bV_append, bV_one, h]
theorem bV_oneCell (l : List UInt8) : ∀ v ∈ bV l, v.oneCell' = true := by
  intro v hv
  simp only [bV, List.mem_map] at hv
  obtain ⟨b, _, rfl⟩ := hv
  rfl

/-- Its slice lies where it lay, or in new memory. -/
def Fresh (w : World) (v v' : Value) : Prop := ∀ k, v'.ownBlock = some k → v.ownBlock = some k ∨ w.heap.size ≤ k
theorem Fresh.refl (w : World) (v : Value) : Fresh w v v := fun _ h => .inl h
theorem Fresh.trans {w w1 : World} {u v x : Value} (h : Fresh w u v) (hs : w.heap.size ≤ w1.heap.size) (k : Fresh w1 v x) : Fresh w u x := fun i hi => by
  rcases k i hi with h1 | h1
  · exact h i h1
  · exact .inr (by omega)
/-- What a value's own row may turn. -/
def RowS (v : Value) (k : Nat) : Prop := v.ownBlock = some k

theorem setCells_heap (g : Nat) (e : TypeId) (f : Nat × Nat) : ∀ (vs : List Value) (o : Nat) (w : World) (cur : Array Value), w.heap[g]? = some (.cells cur e f) → o + vs.length ≤ cur.size →
    (w.setCells g o vs).heap[g]? = some (.cells (cur.toList.take o ++ vs ++ cur.toList.drop (o + vs.length)).toArray e f)
  | [], o, w, cur, h, _ => by
    simp only [World.setCells, List.append_nil, List.length_nil, Nat.add_zero, List.take_append_drop, Array.toArray_toList]
    exact h
  | v :: r, o, w, cur, h, hl => by
    have hlt : g < w.heap.size := lt_of_block h
    have h1 : (w.setCell ⟨g, o, none⟩ v).heap[g]? = some (.cells (cur.setIfInBounds o v) e f) := by
      simp only [World.setCell, Array.getElem?_modify, if_true, h, Option.map_some]
      rfl
    have hsz : o < cur.size := by simp only [List.length_cons] at hl; omega
    have ih := setCells_heap g e f r (o + 1) (w.setCell ⟨g, o, none⟩ v) (cur.setIfInBounds o v) h1 (by simp only [List.length_cons, Array.size_setIfInBounds] at hl ⊢; omega)
    rw [World.setCells, ih]
    congr 3
    simp only [Array.toList_setIfInBounds]
    rw [List.take_set, List.drop_set]
    have ht : (List.take (o + 1) cur.toList).set o v = List.take o cur.toList ++ [v] := by
      have hto : (List.take o cur.toList).length = o := by rw [List.length_take, Array.length_toList]; omega
      rw [List.take_succ_eq_append_getElem (by simpa using hsz), List.set_append_right _ _ (by omega), hto, Nat.sub_self]
      rfl
    rw [ht]
    simp only [List.length_cons, List.append_assoc, List.cons_append, List.nil_append]
    rw [if_pos (by omega)]
    rw [show o + 1 + r.length = o + (r.length + 1) by omega]

theorem Frm.setCells {S : Nat → Prop} (g : Nat) (w : World) (hp : S g ∨ w.heap.size ≤ g) : ∀ (vs : List Value) (o : Nat), Frm S w (w.setCells g o vs) := by
  intro vs
  induction vs generalizing w with
  | nil => intro o; exact Frm.refl _ _
  | cons v r ih =>
    intro o
    have h1 : Frm S w (w.setCell ⟨g, o, none⟩ v) := Frm.setCell w hp v
    refine h1.trans (ih (w.setCell ⟨g, o, none⟩ v) ?_ (o + 1)) (fun _ _ h => h)
    rcases hp with hp | hp
    · exact .inl hp
    · exact .inr (by simpa [World.setCell] using hp)

/-- A slice value that reads as n elements with the cells xs. -/
def Rd (w : World) (v : Value) (n : Nat) (xs : List Value) : Prop :=
  (∃ ad, v = .slice ad 0 0 ∧ n = 0 ∧ xs = []) ∨ ∃ b off c, v = .slice (some ⟨b, off, none⟩) n c ∧ n ≤ c ∧ c ≤ maxLen ∧ ∀ j u, xs[j]? = some u → w.cell? ⟨b, off + j, none⟩ = some u
/-- It lies in new memory. -/
def NewV (w : World) (v : Value) : Prop := ∀ k, v.ownBlock = some k → w.heap.size ≤ k
theorem addr_add (b off j : Nat) : (⟨b, off, none⟩ : Addr).add j = ⟨b, off + j, none⟩ := by unfold Addr.add; split <;> simp_all
theorem Rd.own {w : World} {base : Nat} {e : TypeId} {size : Nat} {v : Value} {n : Nat} {xs : List Value} (h : w.ownsRow base e size v n xs) : Rd w v n xs := by
  rcases h.2 with ⟨rfl, rfl⟩ | ⟨g, cap, cur, rfl, _, hg, hn, hc, hs, ht⟩
  · exact .inl ⟨none, rfl, rfl, List.eq_nil_of_length_eq_zero (by simpa using h.1)⟩
  · refine .inr ⟨g, 0, cap, rfl, hn, hc, fun j u hu => ?_⟩
    have := h.cells (g := g) rfl j u hu
    rwa [addr_add] at this
theorem Rd.keep {w w' : World} {v : Value} {n : Nat} {xs : List Value} (h : Rd w v n xs) {S : Nat → Prop} (f : Frm S w w') (hn : ∀ k, v.ownBlock = some k → ¬ S k) : Rd w' v n xs := by
  rcases h with h | ⟨b, off, c, rfl, h1, h2, h3⟩
  · exact .inl h
  · exact .inr ⟨b, off, c, rfl, h1, h2, fun j u hu => f.cell' (h3 j u hu) (hn b rfl)⟩
theorem Rd.src {P : Program} {w : World} {v : Value} {n : Nat} {xs : List Value} (h : Rd w v n xs) {size : Nat} {tx e' : TypeId} (hk : P.underlying tx = some (.slice e')) (hl : xs.length = n * size) (h1 : ∀ u ∈ xs, u.oneCell' = true) : Src P size tx v n xs w := by
  rcases h with ⟨ad, rfl, rfl, rfl⟩ | ⟨b, off, c, rfl, _, _, h3⟩
  · cases ad with
    | none => exact Src.ofNil w hk 0
    | some a => exact Src.ofSlice w hk a 0 0 [] hl (fun j u hu => by simp at hu) h1
  · exact Src.ofSlice w hk _ n c xs hl (fun j u hu => by rw [addr_add]; exact h3 j u hu) h1

section
variable {P : Program}
/-- append onto a slice of one's own, from whatever source. -/
theorem run_app (w : World) (t tx ty e : TypeId) (i : TypeInfo) (z : Value) (size bytes : Nat) (ht : P.underlying t = some (.slice e)) (hi : P.info? e = some i) (hz : i.zero = some z)
    (hsize : i.size = size) (hby : i.bytes = bytes) (hzs : z.cells.size = size) (hsz : 0 < size)
    (v : Value) (n : Nat) (xs : List Value) (hown : w.ownsRow 0 e size v n xs) (x : Value) (m : Nat) (news : List Value) (hs : Src P size tx x m news w)
    (h63 : n + m ≤ maxLen) (hbytes : (n + m) * bytes ≤ 140737488355328) :
    ∃ v' w', (Builtin.append_ #[t, tx] ty #[v, x]).run P w = .ok v' w' ∧ w'.ownsRow 0 e size v' (n + m) (xs ++ news) ∧ Frm (RowS v) w w' ∧ Fresh w v v' ∧
      (∃ a c, v' = .slice a (n + m) c) ∧ (v' = .slice none 0 0 ↔ v = .slice none 0 0 ∧ m = 0) := by
  subst hsize
  subst hby
  have hnl := hs.newsLen
  have hsmall : n + m ≤ 9223372036854775807 := by simp only [maxLen] at h63; omega
  have hlen : (xs ++ news).length = (n + m) * i.size := by rw [List.length_append, hown.1, hnl, Nat.add_mul]
  have grow : ∀ (base : Option Addr) (old : Nat), v = .slice base n old → old < n + m → (Builtin.firstCells i.size n (.slice base n old)).run P w.drew = .ok xs.toArray w.drew →
      ∃ v' w', (Builtin.append_ #[t, tx] ty #[v, x]).run P w = .ok v' w' ∧ w'.ownsRow 0 e i.size v' (n + m) (xs ++ news) ∧ Frm (RowS v) w w' ∧ Fresh w v v' ∧
      (∃ a c, v' = .slice a (n + m) c) ∧ (v' = .slice none 0 0 ↔ v = .slice none 0 0 ∧ m = 0) := by
    intro base old hv ho hold
    have hge := grownCap_ge w (n + m) old e
    have hcm : grownCap w (n + m) old e ≤ maxLen := grownCap_le_maxLen w (n + m) old e h63
    have hr := run_append_grow_src (P := P) w t tx ty e i z ht hi hz base n old xs hold x m news hs ho (by omega) (growslice_fits (by omega) hbytes)
    subst hv
    refine ⟨_, _, hr, ⟨hlen, .inr ⟨w.heap.size, _, _, rfl, Nat.zero_le _, heap_alloc_new w.drew _, hge, hcm, ?_, ?_⟩⟩, ?_, ?_, ⟨_, _, rfl⟩, ?_⟩
    · rw [Array.size_append, List.size_toArray, size_zeroCells, hzs, hlen, ← Nat.add_mul]
      congr 1
      omega
    · simp only [Array.toList_append]
      rw [← hlen]
      exact List.take_left
    · exact (Frm.drew _ w).trans (Frm.alloc (RowS (.slice base n old)) w.drew _) (fun _ _ h => h)
    · intro k hk
      simp [Value.ownBlock] at hk
      exact .inr (by omega)
    · constructor
      · intro h; cases h
      · rintro ⟨h1, h2⟩
        cases h1
        omega
  rcases hown.2 with ⟨rfl, rfl⟩ | ⟨g, cap, cur, rfl, hbg, hg, hnc, hcm, hcs, htake⟩
  · have hx : xs = [] := List.eq_nil_of_length_eq_zero (by simpa using hown.1)
    subst hx
    by_cases hm : m = 0
    · subst hm
      have hn : news = [] := List.eq_nil_of_length_eq_zero (by simpa using hnl)
      subst hn
      refine ⟨.slice none 0 0, w, ?_, World.ownsRow_nil w 0 e i.size, Frm.refl _ _, Fresh.refl _ _, ⟨_, _, rfl⟩, by simp⟩
      rcases hs.kind with ⟨e', hk⟩ | hk <;> simp [Builtin.append_, run_underlying ht, run_underlying hk, sizeOf, typeInfo, hi, hs.len, hs.cells]
    · exact grow none 0 rfl (by omega) (run_firstCells_none w.drew i.size 0 0 0)
  · by_cases hroom : n + m ≤ cap
    · have hfit : n * i.size + news.length ≤ cur.size := by rw [hnl, hcs, ← Nat.add_mul]; exact Nat.mul_le_mul_right _ hroom
      have hr := run_append_room_src (P := P) w t tx ty e i ht hi g 0 n cap x m news hs hroom
        (fun j hj => by simp [World.cell?, hg]; omega) (fun j hj => by simp [World.frozen?, hg])
      rw [Nat.zero_add] at hr
      refine ⟨_, _, hr, ⟨hlen, .inr ⟨g, cap, _, rfl, hbg, setCells_heap g e (0, 0) news (n * i.size) w cur hg hfit, hroom, hcm, ?_, ?_⟩⟩, Frm.setCells (S := RowS (.slice (some ⟨g, 0, none⟩) n cap)) g w (.inl rfl) _ _, Fresh.refl _ _, ⟨_, _, rfl⟩, by simp⟩
      · simp only [List.size_toArray, List.length_append, List.length_take, List.length_drop, Array.length_toList]
        omega
      · rw [htake, ← hlen]
        exact List.take_left
    · have holds : ∀ j u, xs[j]? = some u → w.cell? ((⟨g, 0, none⟩ : Addr).add j) = some u := hown.cells (g := g) rfl
      exact grow (some ⟨g, 0, none⟩) cap rfl (by omega) (run_firstCells_some (P := P) w.drew i.size n ⟨g, 0, none⟩ n cap xs hown.1 (by simpa using holds))

theorem wpList_app {ops : Array Oper} {rest : List Oper} {o : Oper} {a : Act} {Q : Exit → Act → World → Prop} (w : World) (hgd : o.guard = none) (s x : Operand) (t tx : TypeId)
    (ho : o.op = .call { callee := .builtin .append, args := #[s, x], argTypes := #[t, tx] })
    (e : TypeId) (i : TypeInfo) (z : Value) (size bytes : Nat) (ht : P.underlying t = some (.slice e)) (hi : P.info? e = some i) (hz : i.zero = some z)
    (hsize : i.size = size) (hby : i.bytes = bytes) (hzs : z.cells.size = size) (hsz : 0 < size)
    (v : Value) (n : Nat) (xs : List Value) (hv : a.eval s = v) (hown : w.ownsRow 0 e size v n xs) (xv : Value) (m : Nat) (news : List Value) (hx : a.eval x = xv) (hs : Src P size tx xv m news w)
    (h63 : n + m ≤ maxLen) (hbytes : (n + m) * bytes ≤ 140737488355328)
    (h : ∀ ad c w', w'.ownsRow 0 e size (.slice ad (n + m) c) (n + m) (xs ++ news) → Frm (RowS v) w w' → Fresh w v (.slice ad (n + m) c) → (Value.slice ad (n + m) c = .slice none 0 0 ↔ v = .slice none 0 0 ∧ m = 0) → wpList P ops Q rest (a.put o.dst (.slice ad (n + m) c)) w') :
    wpList P ops Q (o :: rest) a w := by
  obtain ⟨v', w', hr, h2, h3, h4, ⟨ad, c, rfl⟩, h6⟩ := run_app (P := P) w t tx o.type e i z size bytes ht hi hz hsize hby hzs hsz v n xs hown xv m news hs h63 hbytes
  refine wpList_plain hgd fun K hK => ?_
  unfold Oper.wp execOp
  simp only [ho, resolve, invoke, builtin, Sem.run_bind, Sem.run_pure, Result.andThen_ok, List.map_toArray, List.map_cons, List.map_nil, hv, hx, hr]
  exact hK _ _ (h ad c w' h2 h3 h4 h6)

/-- append of elements that the translation has just laid in a block of their own: the frame is told from before that block. -/
theorem wpList_app1 {ops : Array Oper} {rest : List Oper} {o : Oper} {a : Act} {Q : Exit → Act → World → Prop} (w : World) (news : List Value) (hgd : o.guard = none) (s x : Operand) (t : TypeId)
    (ho : o.op = .call { callee := .builtin .append, args := #[s, x], argTypes := #[t, t] })
    (e : TypeId) (i : TypeInfo) (z : Value) (size bytes : Nat) (ht : P.underlying t = some (.slice e)) (hi : P.info? e = some i) (hz : i.zero = some z)
    (hsize : i.size = size) (hby : i.bytes = bytes) (hzs : z.cells.size = size) (hsz : 0 < size)
    (v : Value) (n : Nat) (xs : List Value) (hown : w.ownsRow 0 e size v n xs) (m c : Nat) (hv : a.eval s = v) (hx : a.eval x = .slice (some ⟨w.heap.size, 0, none⟩) m c)
    (hnl : news.length = m * size) (h1 : ∀ u ∈ news, u.oneCell' = true) (h63 : n + m ≤ maxLen) (hbytes : (n + m) * bytes ≤ 140737488355328)
    (h : ∀ ad c w', w'.ownsRow 0 e size (.slice ad (n + m) c) (n + m) (xs ++ news) → Frm (RowS v) w w' → Fresh w v (.slice ad (n + m) c) → wpList P ops Q rest (a.put o.dst (.slice ad (n + m) c)) w') :
    wpList P ops Q (o :: rest) a (w.alloc (.cells news.toArray e)) := by
  have hs : Src P size t (.slice (some ⟨w.heap.size, 0, none⟩) m c) m news (w.alloc (.cells news.toArray e)) :=
    Src.ofSlice _ ht ⟨w.heap.size, 0, none⟩ m c news hnl (fun j u hj => by
      have hadd : (⟨w.heap.size, 0, none⟩ : Addr).add j = ⟨w.heap.size, j, none⟩ := by unfold Addr.add; split <;> simp_all
      rw [hadd, cell_of_row (w.alloc (.cells news.toArray e)) w.heap.size j news.toArray e (0, 0) (heap_alloc_new w _)]
      simpa using hj) h1
  refine wpList_app _ hgd s x t t ho e i z size bytes ht hi hz hsize hby hzs hsz v n xs hv (hown.alloc _) _ m news hx hs h63 hbytes fun ad c' w' g1 g2 g3 _ => ?_
  refine h ad c' w' g1 ((Frm.alloc (RowS v) w _).trans g2 (fun _ _ h => h)) fun k hk => ?_
  rcases g3 k hk with h | h
  · exact .inl h
  · refine .inr ?_
    simp at h
    omega
end
end Go.Proofs.Ytclihppeaikhiaa
