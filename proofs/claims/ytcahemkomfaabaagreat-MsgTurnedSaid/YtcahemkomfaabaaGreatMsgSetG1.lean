/- Words for the law MsgSet: Mem, Quiet, Runs, Runs2, Runs3, RunsBy. -/
import Derived.WalkKit
import Derived.WalkSpells
import Derived.WalkLawsBesides
import Derived.Lib.Hide
import Derived.OneCell
import Derived.Deep.AppendSrc
import Derived.BigQuiet
import Derived.Deep.QuietTactic
import Derived.ProofKit
set_option linter.unusedSimpArgs false
set_option linter.unusedVariables false
set_option maxHeartbeats 32000000
set_option maxRecDepth 1000000
namespace Go.Proofs.YtcahemkomfaabaaGreat
open Go.RowKit
structure Frm (S : Nat → Prop) (w w' : World) : Prop where
 os : w'.os = w.os
 tape : w'.tape = w.tape
 output : w'.output = w.output
 size : w.heap.size ≤ w'.heap.size
 block : ∀ k, k < w.heap.size → ¬ S k → w'.heap[k]? = w.heap[k]?
theorem Frm.refl (S : Nat → Prop) (w : World) : Frm S w w := ⟨rfl, rfl, rfl, Nat.le_refl _, fun _ _ _ => rfl⟩
theorem Frm.mono {S T : Nat → Prop} {w w' : World} (h : Frm S w w') (hs : ∀ k, k < w.heap.size → S k → T k) : Frm T w w' :=
 ⟨h.os, h.tape, h.output, h.size, fun k hk hn => h.block k hk fun s => hn (hs k hk s)⟩
theorem Frm.trans {S T : Nat → Prop} {a b c : World} (h : Frm S a b) (k : Frm T b c) (hs : ∀ i, i < a.heap.size → T i → S i) : Frm S a c :=
 ⟨k.os.trans h.os, k.tape.trans h.tape, k.output.trans h.output, Nat.le_trans h.size k.size,
  fun i hi hn => (k.block i (Nat.lt_of_lt_of_le hi h.size) fun t => hn (hs i hi t)).trans (h.block i hi hn)⟩
theorem Frm.alloc (S : Nat → Prop) (w : World) (o : Obj) : Frm S w (w.alloc o) :=
 ⟨rfl, rfl, rfl, by simp, fun k hk _ => Below.heap_alloc _ _ _ hk⟩
theorem Frm.drew (S : Nat → Prop) (w : World) : Frm S w w.drew := ⟨rfl, rfl, rfl, Nat.le_refl _, fun _ _ _ => rfl⟩
theorem Frm.drewN (S : Nat → Prop) (w : World) (n : Nat) : Frm S w (w.drewN n) := ⟨rfl, rfl, rfl, Nat.le_refl _, fun _ _ _ => rfl⟩
theorem Frm.setCell {S : Nat → Prop} (w : World) {p : Addr} (hp : S p.block ∨ w.heap.size ≤ p.block) (u : Value) : Frm S w (w.setCell p u) :=
 ⟨rfl, rfl, rfl, by simp [World.setCell], fun k hk hn => Below.heap_setCell _ _ _ _ fun e => by
  rcases hp with hp | hp
  · exact hn (e ▸ hp)
  · omega⟩
theorem Frm.cell {S : Nat → Prop} {w w' : World} (h : Frm S w w') {p : Addr} (hp : p.block < w.heap.size) (hn : ¬ S p.block) : w'.cell? p = w.cell? p :=
 World.cell?_of_block (w := w) (h.block p.block hp hn)
theorem Frm.cell' {S : Nat → Prop} {w w' : World} (h : Frm S w w') {p : Addr} {v : Value} (hv : w.cell? p = some v) (hn : ¬ S p.block) : w'.cell? p = some v :=
 (h.cell (World.block_lt_of_cell? w p hv) hn).trans hv
theorem Frm.frozen {S : Nat → Prop} {w w' : World} (h : Frm S w w') {p : Addr} (hp : p.block < w.heap.size) (hn : ¬ S p.block) : w'.frozen? p = w.frozen? p :=
 World.frozen?_of_block (w := w) (h.block p.block hp hn)
theorem Frm.blk {S : Nat → Prop} {w w' : World} (h : Frm S w w') {k : Nat} {o : Obj} (hv : w.heap[k]? = some o) (hn : ¬ S k) : w'.heap[k]? = some o :=
 (h.block k (lt_of_block hv) hn).trans hv
theorem Frm.below {w w' : World} (h : Frm (fun _ => False) w w') : Below w.heap.size w w' :=
 ⟨h.os, h.tape, h.output, h.size, fun k hk => h.block k hk id⟩
theorem Frm.owns {S : Nat → Prop} {w w' : World} (h : Frm S w w') {base : Nat} {e : TypeId} {size : Nat} {v : Value} {n : Nat} {xs : List Value}
 (ho : w.ownsRow base e size v n xs) (hn : ∀ k, v.ownBlock = some k → ¬ S k) : w'.ownsRow base e size v n xs := by
 refine ⟨ho.1, ?_⟩
 rcases ho.2 with hx | ⟨g, cap, cur, rfl, hb, hg, rest⟩
 · exact .inl hx
 · exact .inr ⟨g, cap, cur, rfl, hb, h.blk hg (hn g rfl), rest⟩
theorem ret_bool {a b : Bool} (h : a = b) : Ending.returned (.bool a) = .returned (.bool b) := by rw [h]
theorem ret_int {k : IntKind} {a b : Int} (h : a = b) : Ending.returned (.int k a) = .returned (.int k b) := by rw [h]
def bV (l : List UInt8) : List Value := l.map fun b => .int .u8 (b.toNat : Int)
@[simp] theorem bV_length (l : List UInt8) : (bV l).length = l.length := by simp [bV]
theorem bV_append (a b : List UInt8) : bV (a ++ b) = bV a ++ bV b := by simp [bV]
theorem bV_one (b : UInt8) : bV [b] = [.int .u8 (b.toNat : Int)] := rfl
theorem bV_snoc (l : List UInt8) (b : UInt8) {c : Int} (h : c = (b.toNat : Int)) : bV l ++ [.int .u8 c] = bV (l ++ [b]) := by rw [bV_append, bV_one, h]
theorem bV_oneCell (l : List UInt8) : ∀ v ∈ bV l, v.oneCell' = true := by
 intro v hv
 simp only [bV, List.mem_map] at hv
 obtain ⟨b, _, rfl⟩ := hv
 rfl
def Fresh (w : World) (v v' : Value) : Prop := ∀ k, v'.ownBlock = some k → v.ownBlock = some k ∨ w.heap.size ≤ k
theorem Fresh.refl (w : World) (v : Value) : Fresh w v v := fun _ h => .inl h
theorem Fresh.trans {w w1 : World} {u v x : Value} (h : Fresh w u v) (hs : w.heap.size ≤ w1.heap.size) (k : Fresh w1 v x) : Fresh w u x := fun i hi => by
 rcases k i hi with h1 | h1
 · exact h i h1
 · exact .inr (by omega)
def RowS (v : Value) (k : Nat) : Prop := v.ownBlock = some k
theorem setCells_heap (g : Nat) (e : TypeId) (f : Nat × Nat) : ∀ (vs : List Value) (o : Nat) (w : World) (cur : Array Value), w.heap[g]? = some (.cells cur e f) → o + vs.length ≤ cur.size →
 (w.setCells g o vs).heap[g]? = some (.cells (cur.toList.take o ++ vs ++ cur.toList.drop (o + vs.length)).toArray e f)
 | [], o, w, cur, h, _ => by
  simp only [World.setCells, List.append_nil, List.length_nil, Nat.add_zero, List.take_append_drop, Array.toArray_toList]
  exact h
 | v :: r, o, w, cur, h, hl => by
  have hlt : g < w.heap.size := lt_of_block h
  have h1 : (w.setCell ⟨g, o, none⟩ v).heap[g]? = some (.cells (cur.setIfInBounds o v) e f) := by
   simp only [World.setCell, Array.getElem?_modify, if_true, h, Option.map_some]
   rfl
  have hsz : o < cur.size := by simp only [List.length_cons] at hl; omega
  have ih := setCells_heap g e f r (o + 1) (w.setCell ⟨g, o, none⟩ v) (cur.setIfInBounds o v) h1 (by simp only [List.length_cons, Array.size_setIfInBounds] at hl ⊢; omega)
  rw [World.setCells, ih]
  congr 3
  simp only [Array.toList_setIfInBounds]
  rw [List.take_set, List.drop_set]
  have ht : (List.take (o + 1) cur.toList).set o v = List.take o cur.toList ++ [v] := by
   have hto : (List.take o cur.toList).length = o := by rw [List.length_take, Array.length_toList]; omega
   rw [List.take_succ_eq_append_getElem (by simpa using hsz), List.set_append_right _ _ (by omega), hto, Nat.sub_self]
   rfl
  rw [ht]
  simp only [List.length_cons, List.append_assoc, List.cons_append, List.nil_append]
  rw [if_pos (by omega)]
  rw [show o + 1 + r.length = o + (r.length + 1) by omega]
theorem Frm.setCells {S : Nat → Prop} (g : Nat) (w : World) (hp : S g ∨ w.heap.size ≤ g) : ∀ (vs : List Value) (o : Nat), Frm S w (w.setCells g o vs) := by
 intro vs
 induction vs generalizing w with
 | nil => intro o; exact Frm.refl _ _
 | cons v r ih =>
  intro o
  have h1 : Frm S w (w.setCell ⟨g, o, none⟩ v) := Frm.setCell w hp v
  refine h1.trans (ih (w.setCell ⟨g, o, none⟩ v) ?_ (o + 1)) (fun _ _ h => h)
  rcases hp with hp | hp
  · exact .inl hp
  · exact .inr (by simpa [World.setCell] using hp)
def Rd (w : World) (v : Value) (n : Nat) (xs : List Value) : Prop :=
 (∃ ad, v = .slice ad 0 0 ∧ n = 0 ∧ xs = []) ∨ ∃ b off c, v = .slice (some ⟨b, off, none⟩) n c ∧ n ≤ c ∧ c ≤ maxLen ∧ ∀ j u, xs[j]? = some u → w.cell? ⟨b, off + j, none⟩ = some u
def NewV (w : World) (v : Value) : Prop := ∀ k, v.ownBlock = some k → w.heap.size ≤ k
theorem addr_add (b off j : Nat) : (⟨b, off, none⟩ : Addr).add j = ⟨b, off + j, none⟩ := by unfold Addr.add; split <;> simp_all
theorem Rd.own {w : World} {base : Nat} {e : TypeId} {size : Nat} {v : Value} {n : Nat} {xs : List Value} (h : w.ownsRow base e size v n xs) : Rd w v n xs := by
 rcases h.2 with ⟨rfl, rfl⟩ | ⟨g, cap, cur, rfl, _, hg, hn, hc, hs, ht⟩
 · exact .inl ⟨none, rfl, rfl, List.eq_nil_of_length_eq_zero (by simpa using h.1)⟩
 · refine .inr ⟨g, 0, cap, rfl, hn, hc, fun j u hu => ?_⟩
   have := h.cells (g := g) rfl j u hu
   rwa [addr_add] at this
theorem Rd.keep {w w' : World} {v : Value} {n : Nat} {xs : List Value} (h : Rd w v n xs) {S : Nat → Prop} (f : Frm S w w') (hn : ∀ k, v.ownBlock = some k → ¬ S k) : Rd w' v n xs := by
 rcases h with h | ⟨b, off, c, rfl, h1, h2, h3⟩
 · exact .inl h
 · exact .inr ⟨b, off, c, rfl, h1, h2, fun j u hu => f.cell' (h3 j u hu) (hn b rfl)⟩
theorem Rd.src {P : Program} {w : World} {v : Value} {n : Nat} {xs : List Value} (h : Rd w v n xs) {size : Nat} {tx e' : TypeId} (hk : P.underlying tx = some (.slice e')) (hl : xs.length = n * size) (h1 : ∀ u ∈ xs, u.oneCell' = true) : Src P size tx v n xs w := by
 rcases h with ⟨ad, rfl, rfl, rfl⟩ | ⟨b, off, c, rfl, _, _, h3⟩
 · cases ad with
   | none => exact Src.ofNil w hk 0
   | some a => exact Src.ofSlice w hk a 0 0 [] hl (fun j u hu => by simp at hu) h1
 · exact Src.ofSlice w hk _ n c xs hl (fun j u hu => by rw [addr_add]; exact h3 j u hu) h1
section
variable {P : Program}
theorem run_app (w : World) (t tx ty e : TypeId) (i : TypeInfo) (z : Value) (size bytes : Nat) (ht : P.underlying t = some (.slice e)) (hi : P.info? e = some i) (hz : i.zero = some z)
 (hsize : i.size = size) (hby : i.bytes = bytes) (hzs : z.cells.size = size) (hsz : 0 < size)
 (v : Value) (n : Nat) (xs : List Value) (hown : w.ownsRow 0 e size v n xs) (x : Value) (m : Nat) (news : List Value) (hs : Src P size tx x m news w)
 (h63 : n + m ≤ maxLen) (hbytes : (n + m) * bytes ≤ 140737488355328) :
 ∃ v' w', (Builtin.append_ #[t, tx] ty #[v, x]).run P w = .ok v' w' ∧ w'.ownsRow 0 e size v' (n + m) (xs ++ news) ∧ Frm (RowS v) w w' ∧ Fresh w v v' ∧
  (∃ a c, v' = .slice a (n + m) c) ∧ (v' = .slice none 0 0 ↔ v = .slice none 0 0 ∧ m = 0) := by
 subst hsize
 subst hby
 have hnl := hs.newsLen
 have hsmall : n + m ≤ 9223372036854775807 := by simp only [maxLen] at h63; omega
 have hlen : (xs ++ news).length = (n + m) * i.size := by rw [List.length_append, hown.1, hnl, Nat.add_mul]
 have grow : ∀ (base : Option Addr) (old : Nat), v = .slice base n old → old < n + m → (Builtin.firstCells i.size n (.slice base n old)).run P w.drew = .ok xs.toArray w.drew →
  ∃ v' w', (Builtin.append_ #[t, tx] ty #[v, x]).run P w = .ok v' w' ∧ w'.ownsRow 0 e i.size v' (n + m) (xs ++ news) ∧ Frm (RowS v) w w' ∧ Fresh w v v' ∧
  (∃ a c, v' = .slice a (n + m) c) ∧ (v' = .slice none 0 0 ↔ v = .slice none 0 0 ∧ m = 0) := by
  intro base old hv ho hold
  have hge := grownCap_ge w (n + m) old e
  have hcm : grownCap w (n + m) old e ≤ maxLen := grownCap_le_maxLen w (n + m) old e h63
  have hr := run_append_grow_src (P := P) w t tx ty e i z ht hi hz base n old xs hold x m news hs ho (by omega) (growslice_fits (by omega) hbytes)
  subst hv
  refine ⟨_, _, hr, ⟨hlen, .inr ⟨w.heap.size, _, _, rfl, Nat.zero_le _, heap_alloc_new w.drew _, hge, hcm, ?_, ?_⟩⟩, ?_, ?_, ⟨_, _, rfl⟩, ?_⟩
  · rw [Array.size_append, List.size_toArray, size_zeroCells, hzs, hlen, ← Nat.add_mul]
    congr 1
    omega
  · simp only [Array.toList_append]
    rw [← hlen]
    exact List.take_left
  · exact (Frm.drew _ w).trans (Frm.alloc (RowS (.slice base n old)) w.drew _) (fun _ _ h => h)
  · intro k hk
    simp [Value.ownBlock] at hk
    exact .inr (by omega)
  · constructor
    · intro h; cases h
    · rintro ⟨h1, h2⟩
      cases h1
      omega
 rcases hown.2 with ⟨rfl, rfl⟩ | ⟨g, cap, cur, rfl, hbg, hg, hnc, hcm, hcs, htake⟩
 · have hx : xs = [] := List.eq_nil_of_length_eq_zero (by simpa using hown.1)
   subst hx
   by_cases hm : m = 0
   · subst hm
     have hn : news = [] := List.eq_nil_of_length_eq_zero (by simpa using hnl)
     subst hn
     refine ⟨.slice none 0 0, w, ?_, World.ownsRow_nil w 0 e i.size, Frm.refl _ _, Fresh.refl _ _, ⟨_, _, rfl⟩, by simp⟩
     rcases hs.kind with ⟨e', hk⟩ | hk <;> simp [Builtin.append_, run_underlying ht, run_underlying hk, sizeOf, typeInfo, hi, hs.len, hs.cells]
   · exact grow none 0 rfl (by omega) (run_firstCells_none w.drew i.size 0 0 0)
 · by_cases hroom : n + m ≤ cap
   · have hfit : n * i.size + news.length ≤ cur.size := by rw [hnl, hcs, ← Nat.add_mul]; exact Nat.mul_le_mul_right _ hroom
     have hr := run_append_room_src (P := P) w t tx ty e i ht hi g 0 n cap x m news hs hroom
      (fun j hj => by simp [World.cell?, hg]; omega) (fun j hj => by simp [World.frozen?, hg])
     rw [Nat.zero_add] at hr
     refine ⟨_, _, hr, ⟨hlen, .inr ⟨g, cap, _, rfl, hbg, setCells_heap g e (0, 0) news (n * i.size) w cur hg hfit, hroom, hcm, ?_, ?_⟩⟩, Frm.setCells (S := RowS (.slice (some ⟨g, 0, none⟩) n cap)) g w (.inl rfl) _ _, Fresh.refl _ _, ⟨_, _, rfl⟩, by simp⟩
     · simp only [List.size_toArray, List.length_append, List.length_take, List.length_drop, Array.length_toList]
       omega
     · rw [htake, ← hlen]
       exact List.take_left
   · have holds : ∀ j u, xs[j]? = some u → w.cell? ((⟨g, 0, none⟩ : Addr).add j) = some u := hown.cells (g := g) rfl
     exact grow (some ⟨g, 0, none⟩) cap rfl (by omega) (run_firstCells_some (P := P) w.drew i.size n ⟨g, 0, none⟩ n cap xs hown.1 (by simpa using holds))
theorem wpList_app {ops : Array Oper} {rest : List Oper} {o : Oper} {a : Act} {Q : Exit → Act → World → Prop} (w : World) (hgd : o.guard = none) (s x : Operand) (t tx : TypeId)
 (ho : o.op = .call { callee := .builtin .append, args := #[s, x], argTypes := #[t, tx] })
 (e : TypeId) (i : TypeInfo) (z : Value) (size bytes : Nat) (ht : P.underlying t = some (.slice e)) (hi : P.info? e = some i) (hz : i.zero = some z)
 (hsize : i.size = size) (hby : i.bytes = bytes) (hzs : z.cells.size = size) (hsz : 0 < size)
 (v : Value) (n : Nat) (xs : List Value) (hv : a.eval s = v) (hown : w.ownsRow 0 e size v n xs) (xv : Value) (m : Nat) (news : List Value) (hx : a.eval x = xv) (hs : Src P size tx xv m news w)
 (h63 : n + m ≤ maxLen) (hbytes : (n + m) * bytes ≤ 140737488355328)
 (h : ∀ ad c w', w'.ownsRow 0 e size (.slice ad (n + m) c) (n + m) (xs ++ news) → Frm (RowS v) w w' → Fresh w v (.slice ad (n + m) c) → (Value.slice ad (n + m) c = .slice none 0 0 ↔ v = .slice none 0 0 ∧ m = 0) → wpList P ops Q rest (a.put o.dst (.slice ad (n + m) c)) w') :
 wpList P ops Q (o :: rest) a w := by
 obtain ⟨v', w', hr, h2, h3, h4, ⟨ad, c, rfl⟩, h6⟩ := run_app (P := P) w t tx o.type e i z size bytes ht hi hz hsize hby hzs hsz v n xs hown xv m news hs h63 hbytes
 refine wpList_plain hgd fun K hK => ?_
 unfold Oper.wp execOp
 simp only [ho, resolve, invoke, builtin, Sem.run_bind, Sem.run_pure, Result.andThen_ok, List.map_toArray, List.map_cons, List.map_nil, hv, hx, hr]
 exact hK _ _ (h ad c w' h2 h3 h4 h6)
theorem wpList_app1 {ops : Array Oper} {rest : List Oper} {o : Oper} {a : Act} {Q : Exit → Act → World → Prop} (w : World) (news : List Value) (hgd : o.guard = none) (s x : Operand) (t : TypeId)
 (ho : o.op = .call { callee := .builtin .append, args := #[s, x], argTypes := #[t, t] })
 (e : TypeId) (i : TypeInfo) (z : Value) (size bytes : Nat) (ht : P.underlying t = some (.slice e)) (hi : P.info? e = some i) (hz : i.zero = some z)
 (hsize : i.size = size) (hby : i.bytes = bytes) (hzs : z.cells.size = size) (hsz : 0 < size)
 (v : Value) (n : Nat) (xs : List Value) (hown : w.ownsRow 0 e size v n xs) (m c : Nat) (hv : a.eval s = v) (hx : a.eval x = .slice (some ⟨w.heap.size, 0, none⟩) m c)
 (hnl : news.length = m * size) (h1 : ∀ u ∈ news, u.oneCell' = true) (h63 : n + m ≤ maxLen) (hbytes : (n + m) * bytes ≤ 140737488355328)
 (h : ∀ ad c w', w'.ownsRow 0 e size (.slice ad (n + m) c) (n + m) (xs ++ news) → Frm (RowS v) w w' → Fresh w v (.slice ad (n + m) c) → wpList P ops Q rest (a.put o.dst (.slice ad (n + m) c)) w') :
 wpList P ops Q (o :: rest) a (w.alloc (.cells news.toArray e)) := by
 have hs : Src P size t (.slice (some ⟨w.heap.size, 0, none⟩) m c) m news (w.alloc (.cells news.toArray e)) :=
  Src.ofSlice _ ht ⟨w.heap.size, 0, none⟩ m c news hnl (fun j u hj => by
   have hadd : (⟨w.heap.size, 0, none⟩ : Addr).add j = ⟨w.heap.size, j, none⟩ := by unfold Addr.add; split <;> simp_all
   rw [hadd, cell_of_row (w.alloc (.cells news.toArray e)) w.heap.size j news.toArray e (0, 0) (heap_alloc_new w _)]
   simpa using hj) h1
 refine wpList_app _ hgd s x t t ho e i z size bytes ht hi hz hsize hby hzs hsz v n xs hv (hown.alloc _) _ m news hx hs h63 hbytes fun ad c' w' g1 g2 g3 _ => ?_
 refine h ad c' w' g1 ((Frm.alloc (RowS v) w _).trans g2 (fun _ _ h => h)) fun k hk => ?_
 rcases g3 k hk with h | h
 · exact .inl h
 · refine .inr ?_
   simp at h
   omega
end
theorem Frm.alloc1 {S : Nat → Prop} {a w : World} {o : Obj} (h : Frm S a w) : Frm S a (w.alloc o) := h.trans (Frm.alloc S w o) fun _ _ h => h
theorem Frm.drew1 {S : Nat → Prop} {a w : World} (h : Frm S a w) : Frm S a w.drew := h.trans (Frm.drew S w) fun _ _ h => h
theorem Frm.drewN1 {S : Nat → Prop} {a w : World} {n : Nat} (h : Frm S a w) : Frm S a (w.drewN n) := h.trans (Frm.drewN S w n) fun _ _ h => h
theorem Frm.set1 {S : Nat → Prop} {a w : World} {p : Addr} {u : Value} (h : Frm S a w) (hp : S p.block ∨ a.heap.size ≤ p.block) : Frm S a (w.setCell p u) :=
 h.trans (T := fun k => k = p.block) (Frm.setCell (S := fun k => k = p.block) w (.inl rfl) u) fun i hi he => by
  rcases hp with hp | hp
  · exact he ▸ hp
  · have hi : i < a.heap.size := hi
    have he : i = p.block := he
    omega
theorem Frm.then1 {S : Nat → Prop} {a w w' : World} (h : Frm S a w) (k : Frm (fun _ => False) w w') : Frm S a w' := h.trans k fun _ _ h => h.elim
theorem worlds (w : World) : ∃ (α : Type) (_ : Nonempty α) (K : α → World), (∀ s, Frm (fun _ => False) w (K s)) ∧ (∃ s, w.drew = K s) ∧ ∀ s w', Frm (fun _ => False) (K s) w' → ∃ s', w' = K s' :=
 ⟨{w' : World // Frm (fun _ => False) w w'}, ⟨⟨w, Frm.refl _ w⟩⟩, Subtype.val, fun s => s.2, ⟨⟨w.drew, Frm.drew _ w⟩, rfl⟩, fun s w' h => ⟨⟨w', s.2.trans h (fun _ _ h => h)⟩, rfl⟩⟩
theorem wp_region_new {P : Program} {id : Nat} {Q : Exit → Act → World → Prop} {a : Act} {w : World} {l : List Oper} {α : Type} (K : α → World) (hm : P.follows .mixedOrders = true) (hB : Region.lexB .any l.toArray = true) (h0 : ∃ s, w.drew = K s)
 (h : wpQuiet P l.toArray (fun w' => ∃ s, w' = K s) (fun a' => ∀ w', (∃ s, w' = K s) → Q .normal a' w') l a) : (Code.region id l.toArray true).wp P Q a w :=
 wp_region_quiet (C := fun w' => ∃ s, w' = K s) hm hB h0 (by simpa using h)
theorem Calls.in_class {P : Program} {f : FuncId} {args : Array Value} {v : Value} {α : Type} {K : α → World} {s : α} (hK : ∀ s w', Frm (fun _ => False) (K s) w' → ∃ s', w' = K s')
 (h : Calls P f args (K s) fun e w' => e = .returned v ∧ Frm (fun _ => False) (K s) w') : Calls P f args (K s) fun e w'' => e = .returned v ∧ ∃ s', w'' = K s' :=
 h.mono fun _ _ ⟨he, hf⟩ => ⟨he, hK s _ hf⟩
end Go.Proofs.YtcahemkomfaabaaGreat
namespace Go.Proofs.YtcahemkomfaabaaGreat
open Go.RowKit
abbrev RunL := List (Int × Int)
def RunsFrom : Int → RunL → Prop
 | _, [] => True
 | lo, r :: l => lo ≤ r.1 ∧ r.1 ≤ r.2 ∧ RunsFrom (r.2 + 2) l
def InR (l : RunL) (n : Int) : Prop := ∃ r ∈ l, r.1 ≤ n ∧ n ≤ r.2
theorem inR_nil (n : Int) : ¬ InR [] n := fun ⟨_, h, _⟩ => by cases h
theorem inR_cons (r : Int × Int) (l : RunL) (n : Int) : InR (r :: l) n ↔ (r.1 ≤ n ∧ n ≤ r.2) ∨ InR l n := by
 constructor
 · rintro ⟨x, hx, h⟩
   rcases List.mem_cons.1 hx with rfl | hx
   · exact .inl h
   · exact .inr ⟨x, hx, h⟩
 · rintro (h | ⟨x, hx, h⟩)
   · exact ⟨r, List.mem_cons_self, h⟩
   · exact ⟨x, List.mem_cons_of_mem _ hx, h⟩
theorem inR_ge : ∀ {l : RunL} {lo n : Int}, RunsFrom lo l → InR l n → lo ≤ n
 | [], _, _, _, h => absurd h (inR_nil _)
 | r :: l, lo, n, h, hn => by
  rcases (inR_cons r l n).1 hn with h1 | h1
  · exact Int.le_trans h.1 h1.1
  · have := inR_ge h.2.2 h1
    have := h.1
    have := h.2.1
    omega
theorem RunsFrom.mono {lo lo' : Int} {l : RunL} (h : RunsFrom lo l) (hl : lo' ≤ lo) : RunsFrom lo' l := by
 cases l with
 | nil => trivial
 | cons r l => exact ⟨Int.le_trans hl h.1, h.2.1, h.2.2⟩
theorem runs_ext : ∀ {l l' : RunL} {lo lo' : Int}, RunsFrom lo l → RunsFrom lo' l' → (∀ n, InR l n ↔ InR l' n) → l = l'
 | [], [], _, _, _, _, _ => rfl
 | [], r :: l', _, _, _, h', he => absurd ((he r.1).2 ((inR_cons _ _ _).2 (.inl ⟨Int.le_refl _, h'.2.1⟩))) (inR_nil _)
 | r :: l, [], _, _, h, _, he => absurd ((he r.1).1 ((inR_cons _ _ _).2 (.inl ⟨Int.le_refl _, h.2.1⟩))) (inR_nil _)
 | r :: l, r' :: l', lo, lo', h, h', he => by
  have e1 := (he r.1).1 ((inR_cons _ _ _).2 (.inl ⟨Int.le_refl _, h.2.1⟩))
  have e2 := (he r'.1).2 ((inR_cons _ _ _).2 (.inl ⟨Int.le_refl _, h'.2.1⟩))
  have a1 := inR_ge (l := r' :: l') (lo := r'.1) ⟨Int.le_refl _, h'.2.1, h'.2.2⟩ e1
  have a2 := inR_ge (l := r :: l) (lo := r.1) ⟨Int.le_refl _, h.2.1, h.2.2⟩ e2
  have hs : r.1 = r'.1 := by omega
  have top : r.2 = r'.2 := by
   rcases Int.lt_trichotomy r.2 r'.2 with hlt | heq | hgt
   · exfalso
     have := (he (r.2 + 1)).2 ((inR_cons _ _ _).2 (.inl ⟨by have := h.2.1; omega, by omega⟩))
     rcases (inR_cons _ _ _).1 this with h1 | h1
     · omega
     · have := inR_ge h.2.2 h1; omega
   · exact heq
   · exfalso
     have := (he (r'.2 + 1)).1 ((inR_cons _ _ _).2 (.inl ⟨by have := h'.2.1; omega, by omega⟩))
     rcases (inR_cons _ _ _).1 this with h1 | h1
     · omega
     · have := inR_ge h'.2.2 h1; omega
  have hr : r = r' := Prod.ext hs top
  subst hr
  have hl : l = l' := runs_ext h.2.2 h'.2.2 fun n => by
   have := he n
   rw [inR_cons, inR_cons] at this
   constructor
   · intro hn
     have g := inR_ge h.2.2 hn
     rcases this.1 (.inr hn) with h1 | h1
     · omega
     · exact h1
   · intro hn
     have g := inR_ge h'.2.2 hn
     rcases this.2 (.inr hn) with h1 | h1
     · omega
     · exact h1
  rw [hl]
end Go.Proofs.YtcahemkomfaabaaGreat
namespace Go.Proofs.YtcahemkomfaabaaGreat
open Go.RowKit
def minusIn (lo hi : Int) : RunL → RunL
 | [] => if lo ≤ hi then [(lo, hi)] else []
 | x :: b => if x.2 < lo ∨ hi < x.1 then minusIn lo hi b else (if lo < x.1 then [(lo, x.1 - 1)] else []) ++ minusIn (x.2 + 1) hi b
def minusL (a b : RunL) : RunL := a.flatMap fun r => minusIn r.1 r.2 b
theorem inR_append (a b : RunL) (n : Int) : InR (a ++ b) n ↔ InR a n ∨ InR b n := by
 constructor
 · rintro ⟨r, hr, h⟩
   rcases List.mem_append.1 hr with h1 | h1
   · exact .inl ⟨r, h1, h⟩
   · exact .inr ⟨r, h1, h⟩
 · rintro (⟨r, hr, h⟩ | ⟨r, hr, h⟩)
   · exact ⟨r, List.mem_append_left _ hr, h⟩
   · exact ⟨r, List.mem_append_right _ hr, h⟩
theorem inR_one (a b n : Int) : InR [(a, b)] n ↔ a ≤ n ∧ n ≤ b := by
 constructor
 · rintro ⟨r, hr, h⟩
   simp at hr
   subst hr
   exact h
 · intro h
   exact ⟨_, List.mem_singleton.2 rfl, h⟩
theorem minusIn_mem : ∀ (b : RunL) (lo hi lb n : Int), RunsFrom lb b → (InR (minusIn lo hi b) n ↔ lo ≤ n ∧ n ≤ hi ∧ ¬ InR b n)
 | [], lo, hi, lb, n, _ => by
  unfold minusIn
  by_cases h : lo ≤ hi
  · rw [if_pos h, inR_one]
    exact ⟨fun ⟨h1, h2⟩ => ⟨h1, h2, inR_nil n⟩, fun ⟨h1, h2, _⟩ => ⟨h1, h2⟩⟩
  · rw [if_neg h]
    exact ⟨fun h1 => absurd h1 (inR_nil n), fun ⟨h1, h2, _⟩ => by omega⟩
 | x :: b, lo, hi, lb, n, hb => by
  unfold minusIn
  have ih1 := minusIn_mem b lo hi (x.2 + 2) n hb.2.2
  have ih2 := minusIn_mem b (x.2 + 1) hi (x.2 + 2) n hb.2.2
  have hx := hb.2.1
  have hge : InR b n → x.2 + 2 ≤ n := fun h => inR_ge hb.2.2 h
  rw [inR_cons]
  by_cases h : x.2 < lo ∨ hi < x.1
  · rw [if_pos h, ih1]
    constructor
    · rintro ⟨h1, h2, h3⟩
      exact ⟨h1, h2, fun h4 => h4.elim (fun h5 => by omega) h3⟩
    · rintro ⟨h1, h2, h3⟩
      exact ⟨h1, h2, fun h4 => h3 (.inr h4)⟩
  · rw [if_neg h, inR_append, ih2]
    have hfirst : InR (if lo < x.1 then [(lo, x.1 - 1)] else []) n ↔ lo ≤ n ∧ n < x.1 := by
     by_cases h1 : lo < x.1
     · rw [if_pos h1, inR_one]; omega
     · rw [if_neg h1]; exact ⟨fun h => absurd h (inR_nil n), fun h => by omega⟩
    rw [hfirst]
    constructor
    · rintro (⟨h1, h2⟩ | ⟨h1, h2, h3⟩)
      · exact ⟨h1, by omega, fun h4 => h4.elim (fun h5 => by omega) (fun h5 => by have := hge h5; omega)⟩
      · exact ⟨by omega, h2, fun h4 => h4.elim (fun h5 => by omega) h3⟩
    · rintro ⟨h1, h2, h3⟩
      by_cases h4 : n < x.1
      · exact .inl ⟨h1, h4⟩
      · refine .inr ⟨?_, h2, fun h5 => h3 (.inr h5)⟩
        by_cases h5 : n ≤ x.2
        · exact absurd (.inl ⟨by omega, h5⟩) h3
        · omega
theorem minusIn_from : ∀ (b : RunL) (lo hi lb : Int), RunsFrom lb b → RunsFrom lo (minusIn lo hi b) ∧ ∀ r ∈ minusIn lo hi b, r.2 ≤ hi
 | [], lo, hi, lb, _ => by
  unfold minusIn
  by_cases h : lo ≤ hi
  · rw [if_pos h]
    exact ⟨⟨Int.le_refl _, h, trivial⟩, fun r hr => by simp at hr; subst hr; exact Int.le_refl _⟩
  · rw [if_neg h]
    exact ⟨trivial, fun r hr => by cases hr⟩
 | x :: b, lo, hi, lb, hb => by
  unfold minusIn
  have ih1 := minusIn_from b lo hi (x.2 + 2) hb.2.2
  have ih2 := minusIn_from b (x.2 + 1) hi (x.2 + 2) hb.2.2
  have hx := hb.2.1
  by_cases h : x.2 < lo ∨ hi < x.1
  · rw [if_pos h]; exact ih1
  · rw [if_neg h]
    by_cases h1 : lo < x.1
    · rw [if_pos h1]
      refine ⟨⟨Int.le_refl _, by show lo ≤ x.1 - 1; omega, ih2.1.mono (by show x.1 - 1 + 2 ≤ x.2 + 1; omega)⟩, fun r hr => ?_⟩
      rcases List.mem_cons.1 hr with rfl | hr
      · show x.1 - 1 ≤ hi; omega
      · exact ih2.2 r hr
    · rw [if_neg h1]
      exact ⟨ih2.1.mono (by omega), ih2.2⟩
theorem runsFrom_append : ∀ {a b : RunL} {lo hi : Int}, RunsFrom lo a → (∀ r ∈ a, r.2 ≤ hi) → RunsFrom (hi + 2) b → lo ≤ hi + 2 → RunsFrom lo (a ++ b)
 | [], _, _, _, _, _, hb, hl => hb.mono hl
 | r :: a, b, lo, hi, ha, hh, hb, _ => ⟨ha.1, ha.2.1, runsFrom_append ha.2.2 (fun x hx => hh x (List.mem_cons_of_mem _ hx)) hb (by have := hh r List.mem_cons_self; omega)⟩
theorem minusL_from : ∀ (a b : RunL) (lo lb : Int), RunsFrom lo a → RunsFrom lb b → RunsFrom lo (minusL a b)
 | [], _, _, _, _, _ => trivial
 | r :: a, b, lo, lb, ha, hb => by
  have h1 := minusIn_from b r.1 r.2 lb hb
  have h2 := minusL_from a b (r.2 + 2) lb ha.2.2 hb
  exact (runsFrom_append h1.1 h1.2 h2 (by have := ha.2.1; omega)).mono ha.1
theorem minusL_mem : ∀ (a b : RunL) (lb n : Int), RunsFrom lb b → (InR (minusL a b) n ↔ InR a n ∧ ¬ InR b n)
 | [], b, lb, n, _ => ⟨fun h => absurd h (inR_nil n), fun h => absurd h.1 (inR_nil n)⟩
 | r :: a, b, lb, n, hb => by
  show InR (minusIn r.1 r.2 b ++ minusL a b) n ↔ _
  rw [inR_append, minusIn_mem b r.1 r.2 lb n hb, minusL_mem a b lb n hb, inR_cons]
  constructor
  · rintro (⟨h1, h2, h3⟩ | ⟨h1, h2⟩)
    · exact ⟨.inl ⟨h1, h2⟩, h3⟩
    · exact ⟨.inr h1, h2⟩
  · rintro ⟨h1 | h1, h2⟩
    · exact .inl ⟨h1.1, h1.2, h2⟩
    · exact .inr ⟨h1, h2⟩
end Go.Proofs.YtcahemkomfaabaaGreat
namespace Go.Proofs.YtcahemkomfaabaaGreat
open Go.RowKit
def Rising : Int → RunL → Prop
 | _, [] => True
 | lo, r :: l => lo ≤ r.1 ∧ r.1 ≤ r.2 ∧ Rising r.1 l
def jn : Int × Int → RunL → RunL
 | cur, [] => [cur]
 | cur, r :: l => if r.1 ≤ cur.2 + 1 then jn (cur.1, max cur.2 r.2) l else cur :: jn r l
def joinedL : RunL → RunL
 | [] => []
 | r :: l => jn r l
theorem Rising.mono {lo lo' : Int} {l : RunL} (h : Rising lo l) (hl : lo' ≤ lo) : Rising lo' l := by
 cases l with
 | nil => trivial
 | cons r l => exact ⟨Int.le_trans hl h.1, h.2.1, h.2.2⟩
theorem jn_mem : ∀ (l : RunL) (cur : Int × Int) (n : Int), Rising cur.1 l → cur.1 ≤ cur.2 → (InR (jn cur l) n ↔ (cur.1 ≤ n ∧ n ≤ cur.2) ∨ InR l n)
 | [], cur, n, _, _ => by
  unfold jn
  exact ⟨fun ⟨r, hr, h⟩ => by simp at hr; subst hr; exact .inl h, fun h => h.elim (fun h => ⟨cur, List.mem_singleton.2 rfl, h⟩) (fun h => absurd h (inR_nil n))⟩
 | r :: l, cur, n, hr, hc => by
  unfold jn
  rw [inR_cons r l n]
  have h1 := hr.1
  have h2 := hr.2.1
  by_cases h : r.1 ≤ cur.2 + 1
  · rw [if_pos h, jn_mem l (cur.1, max cur.2 r.2) n (hr.2.2.mono hr.1) (by show cur.1 ≤ max cur.2 r.2; omega)]
    show (cur.1 ≤ n ∧ n ≤ max cur.2 r.2) ∨ InR l n ↔ _
    constructor
    · rintro (h3 | h3)
      · by_cases h4 : n ≤ cur.2
        · exact .inl ⟨h3.1, h4⟩
        · exact .inr (.inl ⟨by omega, by omega⟩)
      · exact .inr (.inr h3)
    · rintro (h3 | h3 | h3)
      · exact .inl ⟨h3.1, by omega⟩
      · exact .inl ⟨by omega, by omega⟩
      · exact .inr h3
  · rw [if_neg h, inR_cons, jn_mem l r n hr.2.2 h2]
theorem jn_from : ∀ (l : RunL) (cur : Int × Int), Rising cur.1 l → cur.1 ≤ cur.2 → RunsFrom cur.1 (jn cur l)
 | [], cur, _, hc => by unfold jn; exact ⟨Int.le_refl _, hc, trivial⟩
 | r :: l, cur, hr, hc => by
  unfold jn
  have h1 := hr.1
  have h2 := hr.2.1
  by_cases h : r.1 ≤ cur.2 + 1
  · rw [if_pos h]
    exact jn_from l (cur.1, max cur.2 r.2) (hr.2.2.mono hr.1) (by show cur.1 ≤ max cur.2 r.2; omega)
  · rw [if_neg h]
    exact ⟨Int.le_refl _, hc, (jn_from l r hr.2.2 h2).mono (by omega)⟩
theorem joinedL_mem {l : RunL} {lo : Int} (h : Rising lo l) (n : Int) : InR (joinedL l) n ↔ InR l n := by
 cases l with
 | nil => exact Iff.rfl
 | cons r l => rw [joinedL, jn_mem l r n h.2.2 h.2.1, inR_cons]
theorem joinedL_from {l : RunL} {lo : Int} (h : Rising lo l) : RunsFrom lo (joinedL l) := by
 cases l with
 | nil => trivial
 | cons r l => exact (jn_from l r h.2.2 h.2.1).mono h.1
end Go.Proofs.YtcahemkomfaabaaGreat
namespace Go.Proofs.YtcahemkomfaabaaGreat
open Go.RowKit
def stepN (a : Int) : Option Int → Int → Option Int
 | none, x => if a < x then some x else none
 | some b, x => if a < x ∧ x < b then some x else some b
def nextL (l : List Int) (a : Int) : Option Int := l.foldl (stepN a) none
theorem nextL_snoc (l : List Int) (x a : Int) : nextL (l ++ [x]) a = stepN a (nextL l a) x := by simp [nextL]
theorem fold_none (a : Int) : ∀ (l : List Int) (b : Option Int), l.foldl (stepN a) b = none ↔ b = none ∧ ∀ x ∈ l, x ≤ a
 | [], b => by simp
 | x :: l, b => by
  rw [List.foldl_cons, fold_none a l (stepN a b x)]
  cases b with
  | none =>
   by_cases h : a < x
   · simp only [stepN, if_pos h, List.mem_cons]
     constructor
     · intro hc; exact absurd hc.1 (by simp)
     · intro hc; have := hc.2 x (.inl rfl); omega
   · simp only [stepN, if_neg h, List.mem_cons, true_and]
     constructor
     · rintro hc y (rfl | hy)
       · omega
       · exact hc y hy
     · exact fun hc y hy => hc y (.inr hy)
  | some b =>
   simp only [stepN]
   by_cases h : a < x ∧ x < b
   · rw [if_pos h]; simp
   · rw [if_neg h]; simp
theorem fold_some (a : Int) : ∀ (l : List Int) (b : Option Int) (m : Int), l.foldl (stepN a) b = some m → (b = some m ∨ (m ∈ l ∧ a < m)) ∧ (∀ y, b = some y → m ≤ y) ∧ ∀ x ∈ l, a < x → m ≤ x
 | [], b, m, h => by
  have h : b = some m := h
  subst h
  exact ⟨.inl rfl, (fun y hy => by cases hy; omega), fun x hx => by cases hx⟩
 | x :: l, b, m, h => by
  rw [List.foldl_cons] at h
  obtain ⟨h1, h2, h3⟩ := fold_some a l _ m h
  cases b with
  | none =>
   by_cases hx : a < x
   · have hs : stepN a none x = some x := by simp [stepN, hx]
     rw [hs] at h1 h2
     refine ⟨.inr ?_, (fun y hy => by cases hy), ?_⟩
     · rcases h1 with h1 | h1
       · cases h1; exact ⟨List.mem_cons_self, hx⟩
       · exact ⟨List.mem_cons_of_mem _ h1.1, h1.2⟩
     · intro y hy hay
       rcases List.mem_cons.1 hy with rfl | hy
       · exact h2 _ rfl
       · exact h3 y hy hay
   · have hs : stepN a none x = none := by simp [stepN, hx]
     rw [hs] at h1 h2
     refine ⟨.inr ?_, (fun y hy => by cases hy), ?_⟩
     · rcases h1 with h1 | h1
       · cases h1
       · exact ⟨List.mem_cons_of_mem _ h1.1, h1.2⟩
     · intro y hy hay
       rcases List.mem_cons.1 hy with rfl | hy
       · omega
       · exact h3 y hy hay
  | some b =>
   by_cases hx : a < x ∧ x < b
   · have hs : stepN a (some b) x = some x := by simp [stepN, hx]
     rw [hs] at h1 h2
     have h4 := h2 x rfl
     refine ⟨?_, (fun y hy => by cases hy; omega), ?_⟩
     · rcases h1 with h1 | h1
       · cases h1; exact .inr ⟨List.mem_cons_self, hx.1⟩
       · exact .inr ⟨List.mem_cons_of_mem _ h1.1, h1.2⟩
     · intro y hy hay
       rcases List.mem_cons.1 hy with rfl | hy
       · exact h4
       · exact h3 y hy hay
   · have hs : stepN a (some b) x = some b := by simp only [stepN, if_neg hx]
     rw [hs] at h1 h2
     have h4 := h2 b rfl
     refine ⟨?_, (fun y hy => by cases hy; exact h4), ?_⟩
     · rcases h1 with h1 | h1
       · exact .inl h1
       · exact .inr ⟨List.mem_cons_of_mem _ h1.1, h1.2⟩
     · intro y hy hay
       rcases List.mem_cons.1 hy with rfl | hy
       · omega
       · exact h3 y hy hay
theorem nextL_none {l : List Int} {a : Int} : nextL l a = none ↔ ∀ x ∈ l, x ≤ a := by
 unfold nextL
 rw [fold_none]
 simp
theorem nextL_some {l : List Int} {a m : Int} (h : nextL l a = some m) : m ∈ l ∧ a < m ∧ ∀ x ∈ l, a < x → m ≤ x := by
 obtain ⟨h1, _, h3⟩ := fold_some a l none m h
 rcases h1 with h1 | h1
 · cases h1
 · exact ⟨h1.1, h1.2, h3⟩
def ahead (l : List Int) : Option Int → Nat
 | none => 0
 | some m => (l.filter fun x => decide (m ≤ x)).length
theorem ahead_lt {l : List Int} {m : Int} (hm : m ∈ l) : ahead l (nextL l m) < ahead l (some m) := by
 have h0 : 0 < ahead l (some m) := by
  unfold ahead
  exact List.length_pos_of_mem (List.mem_filter.2 ⟨hm, by simp⟩)
 cases h : nextL l m with
 | none => exact h0
 | some t =>
  obtain ⟨_, h2, _⟩ := nextL_some h
  unfold ahead
  have key : ∀ l : List Int, m ∈ l → (l.filter fun x => decide (t ≤ x)).length < (l.filter fun x => decide (m ≤ x)).length := by
   intro l
   have mono : ∀ l : List Int, (l.filter fun x => decide (t ≤ x)).length ≤ (l.filter fun x => decide (m ≤ x)).length := by
    intro l
    induction l with
    | nil => simp
    | cons x l ih =>
     simp only [List.filter_cons]
     by_cases h4 : t ≤ x
     · simp [h4, show m ≤ x by omega]; omega
     · by_cases h5 : m ≤ x <;> simp [h4, h5] <;> omega
   induction l with
   | nil => intro h; cases h
   | cons x l ih =>
    intro hx
    simp only [List.filter_cons]
    rcases List.mem_cons.1 hx with rfl | hx
    · have := mono l
      simp [show ¬ t ≤ m by omega]
      omega
    · have := ih hx
      by_cases h4 : t ≤ x
      · simp [h4, show m ≤ x by omega]; omega
      · by_cases h5 : m ≤ x <;> simp [h4, h5] <;> omega
  exact key l hm
def endsL (l : RunL) : List Int := l.flatMap fun r => [r.1, r.2 + 1]
theorem endsL_mem {l : RunL} {x : Int} : x ∈ endsL l ↔ ∃ r ∈ l, x = r.1 ∨ x = r.2 + 1 := by
 simp [endsL]
theorem between {l : RunL} {at_ to_ n : Int} (h : ∀ p ∈ endsL l, at_ < p → to_ ≤ p) (h1 : at_ ≤ n) (h2 : n < to_) : InR l n ↔ InR l at_ := by
 constructor
 · rintro ⟨r, hr, h3, h4⟩
   refine ⟨r, hr, ?_, by omega⟩
   by_cases h5 : at_ < r.1
   · have := h r.1 (endsL_mem.2 ⟨r, hr, .inl rfl⟩) h5; omega
   · omega
 · rintro ⟨r, hr, h3, h4⟩
   refine ⟨r, hr, by omega, ?_⟩
   have := h (r.2 + 1) (endsL_mem.2 ⟨r, hr, .inr rfl⟩) (by omega)
   omega
def pushL (out : RunL) (a hi : Int) : RunL :=
 match out.getLast? with
 | none => [(a, hi)]
 | some r => if r.2 = a - 1 then out.dropLast ++ [(r.1, hi)] else out ++ [(a, hi)]
theorem runsFrom_snoc : ∀ {l : RunL} {lo : Int} {r : Int × Int}, RunsFrom lo (l ++ [r]) ↔ RunsFrom lo l ∧ lo ≤ r.1 ∧ r.1 ≤ r.2 ∧ ∀ x ∈ l, x.2 + 2 ≤ r.1
 | [], lo, r => by simp [RunsFrom]
 | x :: l, lo, r => by
  rw [List.cons_append]
  show (lo ≤ x.1 ∧ x.1 ≤ x.2 ∧ RunsFrom (x.2 + 2) (l ++ [r])) ↔ _
  rw [runsFrom_snoc]
  constructor
  · rintro ⟨h1, h2, h3, h4, h5, h6⟩
    refine ⟨⟨h1, h2, h3⟩, by omega, h5, fun y hy => ?_⟩
    rcases List.mem_cons.1 hy with rfl | hy
    · exact h4
    · exact h6 y hy
  · rintro ⟨⟨h1, h2, h3⟩, h4, h5, h6⟩
    exact ⟨h1, h2, h3, h6 x List.mem_cons_self, h5, fun y hy => h6 y (List.mem_cons_of_mem _ hy)⟩
theorem pushL_nil (a hi : Int) : pushL [] a hi = [(a, hi)] := rfl
theorem pushL_snoc (l : RunL) (r : Int × Int) (a hi : Int) : pushL (l ++ [r]) a hi = if r.2 = a - 1 then l ++ [(r.1, hi)] else l ++ [r] ++ [(a, hi)] := by
 simp [pushL]
theorem inR_snoc (l : RunL) (r : Int × Int) (n : Int) : InR (l ++ [r]) n ↔ InR l n ∨ (r.1 ≤ n ∧ n ≤ r.2) := by
 rw [inR_append, inR_one r.1 r.2]
theorem pushL_ok {out : RunL} {lo a hi : Int} (h : RunsFrom lo out) (ho : ∀ r ∈ out, r.2 < a) (hl : lo ≤ a) (hh : a ≤ hi) :
 RunsFrom lo (pushL out a hi) ∧ (∀ r ∈ pushL out a hi, r.2 ≤ hi) ∧ ∀ n, InR (pushL out a hi) n ↔ InR out n ∨ (a ≤ n ∧ n ≤ hi) := by
 rcases List.eq_nil_or_concat out with rfl | ⟨l, r, rfl⟩
 · rw [pushL_nil]
   refine ⟨⟨hl, hh, trivial⟩, fun r hr => by simp at hr; subst hr; exact Int.le_refl _, fun n => ?_⟩
   rw [inR_one]
   exact ⟨.inr, fun h => h.elim (fun h => absurd h (inR_nil n)) id⟩
 · rw [List.concat_eq_append] at *
   rw [pushL_snoc]
   obtain ⟨h1, h2, h3, h4⟩ := runsFrom_snoc.1 h
   have hr := ho r (by simp)
   by_cases he : r.2 = a - 1
   · rw [if_pos he]
     refine ⟨runsFrom_snoc.2 ⟨h1, h2, by show r.1 ≤ hi; omega, h4⟩, fun x hx => ?_, fun n => ?_⟩
     · rcases List.mem_append.1 hx with hx | hx
       · have := ho x (by simp [hx]); omega
       · simp at hx; subst hx; exact Int.le_refl _
     · rw [inR_snoc, inR_snoc]
       constructor
       · rintro (h5 | h5)
         · exact .inl (.inl h5)
         · by_cases h6 : n ≤ r.2
           · exact .inl (.inr ⟨h5.1, h6⟩)
           · exact .inr ⟨by omega, h5.2⟩
       · rintro ((h5 | h5) | h5)
         · exact .inl h5
         · exact .inr ⟨h5.1, by show n ≤ hi; omega⟩
         · exact .inr ⟨by show r.1 ≤ n; omega, h5.2⟩
   · rw [if_neg he]
     refine ⟨runsFrom_snoc.2 ⟨h, hl, hh, fun x hx => ?_⟩, fun x hx => ?_, fun n => ?_⟩
     · show x.2 + 2 ≤ a
       rcases List.mem_append.1 hx with hx1 | hx1
       · have := h4 x hx1; omega
       · simp at hx1; subst hx1; omega
     · rcases List.mem_append.1 hx with hx | hx
       · have := ho x hx; omega
       · simp at hx; subst hx; exact Int.le_refl _
     · rw [inR_snoc (l ++ [r])]
def ByIn (how : Int) (p q : Prop) : Prop := if how = 2 then p ∧ ¬ q else if how = 1 then p ∧ q else p ∨ q
theorem ByIn.of_not {how : Int} {p q : Prop} (hp : ¬ p) (hq : ¬ q) : ¬ ByIn how p q := by
 unfold ByIn
 split
 · exact fun h => hp h.1
 · split
   · exact fun h => hp h.1
   · exact fun h => h.elim hp hq
theorem ByIn.congr {how : Int} {p q p' q' : Prop} (hp : p ↔ p') (hq : q ↔ q') : ByIn how p q ↔ ByIn how p' q' := by
 rw [propext hp, propext hq]
structure ByInv (a b : RunL) (how : Int) (out : RunL) (x : Option Int) : Prop where
 from_ : RunsFrom 1 out
 some_ : ∀ m, x = some m → 1 ≤ m ∧ m ∈ endsL a ++ endsL b ∧ (∀ r ∈ out, r.2 < m) ∧ ∀ n, InR out n ↔ n < m ∧ ByIn how (InR a n) (InR b n)
 none_ : x = none → ∀ n, InR out n ↔ ByIn how (InR a n) (InR b n)
theorem ends_ge {a : RunL} (ha : RunsFrom 1 a) {n : Int} (h : InR a n) : ∃ p ∈ endsL a, 0 < p ∧ p ≤ n ∧ n < p + 0 + (n - p + 1) := by
 obtain ⟨r, hr, h1, h2⟩ := h
 have : 1 ≤ r.1 := by
  have : ∀ {l : RunL} {lo : Int}, RunsFrom lo l → ∀ r ∈ l, lo ≤ r.1 := by
   intro l
   induction l with
   | nil => intro lo _ r hr; cases hr
   | cons y l ih =>
    intro lo h r hr
    rcases List.mem_cons.1 hr with rfl | hr
    · exact h.1
    · have := ih h.2.2 r hr
      have := h.1
      have := h.2.1
      omega
  exact this ha r hr
 exact ⟨r.1, endsL_mem.2 ⟨r, hr, .inl rfl⟩, by omega, h1, by omega⟩
theorem byInv_init {a b : RunL} (how : Int) (ha : RunsFrom 1 a) (hb : RunsFrom 1 b) : ByInv a b how [] (nextL (endsL a ++ endsL b) 0) := by
 refine ⟨trivial, fun m hm => ?_, fun hm n => ?_⟩
 · obtain ⟨h1, h2, h3⟩ := nextL_some hm
   refine ⟨by omega, h1, (fun r hr => by cases hr), fun n => ⟨fun h => absurd h (inR_nil n), fun ⟨h4, h5⟩ => ?_⟩⟩
   refine absurd h5 (ByIn.of_not (fun h => ?_) fun h => ?_)
   · obtain ⟨p, hp, h6, h7, _⟩ := ends_ge ha h
     have := h3 p (List.mem_append_left _ hp) h6
     omega
   · obtain ⟨p, hp, h6, h7, _⟩ := ends_ge hb h
     have := h3 p (List.mem_append_right _ hp) h6
     omega
 · have h3 := nextL_none.1 hm
   refine ⟨fun h => absurd h (inR_nil n), fun h5 => absurd h5 (ByIn.of_not (fun h => ?_) fun h => ?_)⟩
   · obtain ⟨p, hp, h6, h7, _⟩ := ends_ge ha h
     have := h3 p (List.mem_append_left _ hp)
     omega
   · obtain ⟨p, hp, h6, h7, _⟩ := ends_ge hb h
     have := h3 p (List.mem_append_right _ hp)
     omega
theorem byInv_last {a b : RunL} {how m n : Int} (h : nextL (endsL a ++ endsL b) m = none) (hn : m ≤ n) : ¬ ByIn how (InR a n) (InR b n) := by
 have h3 := nextL_none.1 h
 refine ByIn.of_not (fun ⟨r, hr, _, h2⟩ => ?_) fun ⟨r, hr, _, h2⟩ => ?_
 · have := h3 (r.2 + 1) (List.mem_append_left _ (endsL_mem.2 ⟨r, hr, .inr rfl⟩)); omega
 · have := h3 (r.2 + 1) (List.mem_append_right _ (endsL_mem.2 ⟨r, hr, .inr rfl⟩)); omega
theorem byInv_out {a b : RunL} {how m : Int} {out : RunL} (h : ByInv a b how out (some m)) (hi : ¬ ByIn how (InR a m) (InR b m)) : ByInv a b how out (nextL (endsL a ++ endsL b) m) := by
 obtain ⟨h1, h2, h3, h4⟩ := h.some_ m rfl
 refine ⟨h.from_, fun t ht => ?_, fun hn n => ?_⟩
 · obtain ⟨g1, g2, g3⟩ := nextL_some ht
   refine ⟨by omega, g1, fun r hr => by have := h3 r hr; omega, fun n => ?_⟩
   rw [h4]
   constructor
   · exact fun h => ⟨by omega, h.2⟩
   · rintro ⟨h5, h6⟩
     by_cases h7 : n < m
     · exact ⟨h7, h6⟩
     · exact absurd ((ByIn.congr (between (fun p hp hm => g3 p (List.mem_append_left _ hp) hm) (by omega) h5) (between (fun p hp hm => g3 p (List.mem_append_right _ hp) hm) (by omega) h5)).1 h6) hi
 · rw [h4]
   refine ⟨fun h => h.2, fun h6 => ⟨?_, h6⟩⟩
   by_cases h7 : n < m
   · exact h7
   · exact absurd h6 (byInv_last hn (by omega))
theorem byInv_in {a b : RunL} {how m t : Int} {out : RunL} (h : ByInv a b how out (some m)) (hi : ByIn how (InR a m) (InR b m)) (ht : nextL (endsL a ++ endsL b) m = some t) : ByInv a b how (pushL out m (t - 1)) (some t) := by
 obtain ⟨h1, h2, h3, h4⟩ := h.some_ m rfl
 obtain ⟨g1, g2, g3⟩ := nextL_some ht
 obtain ⟨p1, p2, p3⟩ := pushL_ok (hi := t - 1) h.from_ h3 h1 (by omega)
 refine ⟨p1, fun t' ht' => ?_, fun hn => by cases hn⟩
 cases ht'
 refine ⟨by omega, g1, fun r hr => by have := p2 r hr; omega, fun n => ?_⟩
 rw [p3, h4]
 constructor
 · rintro (h5 | h5)
   · exact ⟨by omega, h5.2⟩
   · exact ⟨by omega, (ByIn.congr (between (to_ := t) (fun p hp hm => g3 p (List.mem_append_left _ hp) hm) h5.1 (by omega)) (between (to_ := t) (fun p hp hm => g3 p (List.mem_append_right _ hp) hm) h5.1 (by omega))).2 hi⟩
 · rintro ⟨h5, h6⟩
   by_cases h7 : n < m
   · exact .inl ⟨h7, h6⟩
   · exact .inr ⟨by omega, by omega⟩
theorem byInv_some {a b : RunL} {how m : Int} (hi : ByIn how (InR a m) (InR b m)) : ∃ t, nextL (endsL a ++ endsL b) m = some t := by
 cases h : nextL (endsL a ++ endsL b) m with
 | none => exact absurd hi (byInv_last h (Int.le_refl _))
 | some t => exact ⟨t, rfl⟩
structure OfInv (l : List Int) (out : RunL) (x : Option Int) : Prop where
 from_ : RunsFrom 1 out
 some_ : ∀ m, x = some m → 1 ≤ m ∧ m ∈ l ∧ (∀ r ∈ out, r.2 < m) ∧ ∀ n, InR out n ↔ 0 < n ∧ n < m ∧ n ∈ l
 none_ : x = none → ∀ n, InR out n ↔ 0 < n ∧ n ∈ l
theorem ofInv_init (l : List Int) : OfInv l [] (nextL l 0) := by
 refine ⟨trivial, fun m hm => ?_, fun hm n => ?_⟩
 · obtain ⟨h1, h2, h3⟩ := nextL_some hm
   refine ⟨by omega, h1, (fun r hr => by cases hr), fun n => ⟨fun h => absurd h (inR_nil n), fun ⟨h4, h5, h6⟩ => ?_⟩⟩
   have := h3 n h6 h4
   omega
 · have h3 := nextL_none.1 hm
   refine ⟨fun h => absurd h (inR_nil n), fun ⟨h4, h5⟩ => ?_⟩
   have := h3 n h5
   omega
theorem ofInv_step {l : List Int} {out : RunL} {m : Int} (h : OfInv l out (some m)) : OfInv l (pushL out m m) (nextL l m) := by
 obtain ⟨h1, h2, h3, h4⟩ := h.some_ m rfl
 obtain ⟨p1, p2, p3⟩ := pushL_ok (hi := m) h.from_ h3 h1 (Int.le_refl _)
 refine ⟨p1, fun t ht => ?_, fun hn n => ?_⟩
 · obtain ⟨g1, g2, g3⟩ := nextL_some ht
   refine ⟨by omega, g1, fun r hr => by have := p2 r hr; omega, fun n => ?_⟩
   rw [p3, h4]
   constructor
   · rintro (h5 | h5)
     · exact ⟨h5.1, by omega, h5.2.2⟩
     · have : n = m := by omega
       subst this
       exact ⟨by omega, g2, h2⟩
   · rintro ⟨h5, h6, h7⟩
     by_cases h8 : n < m
     · exact .inl ⟨h5, h8, h7⟩
     · by_cases h9 : m < n
       · have := g3 n h7 h9; omega
       · exact .inr ⟨by omega, by omega⟩
 · have g := nextL_none.1 hn
   rw [p3, h4]
   constructor
   · rintro (h5 | h5)
     · exact ⟨h5.1, h5.2.2⟩
     · have : n = m := by omega
       subst this
       exact ⟨by omega, h2⟩
   · rintro ⟨h5, h7⟩
     have := g n h7
     by_cases h8 : n < m
     · exact .inl ⟨h5, h8, h7⟩
     · exact .inr ⟨by omega, by omega⟩
end Go.Proofs.YtcahemkomfaabaaGreat
