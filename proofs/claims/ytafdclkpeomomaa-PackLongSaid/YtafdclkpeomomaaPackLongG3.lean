/- Words for the law PackLong: Own, R6ends, R6Of. -/
import Derived.Test.YtafdclkpeomomaaPackLongG2
set_option linter.unusedSimpArgs false
set_option linter.unusedVariables false
/- A slice of one's own that grows in new memory: append, store. -/
namespace Go.Proofs.Ytafdclkpeomomaa
open Go.RowKit

theorem cell_at' {w : World} {b : Nat} {cs : Array Value} {t : TypeId} {f : Nat × Nat} (h : w.heap[b]? = some (.cells cs t f)) (j : Nat) {u : Value} (hu : cs[j]? = some u) : w.cell? ⟨b, j, none⟩ = some u :=
  (cell_of_row w b j cs t f h).trans hu
theorem free_at' {w : World} {b : Nat} {cs : Array Value} {t : TypeId} (h : w.heap[b]? = some (.cells cs t (0, 0))) (j : Nat) : w.frozen? ⟨b, j, none⟩ = false := by simp [World.frozen?, h]
theorem set_at' {w : World} {b : Nat} {cs : Array Value} {t : TypeId} {f : Nat × Nat} (h : w.heap[b]? = some (.cells cs t f)) (j : Nat) (u : Value) : (w.setCell ⟨b, j, none⟩ u).heap[b]? = some (.cells (cs.setIfInBounds j u) t f) := by
  simp only [World.setCell, Array.getElem?_modify, if_true, h, Option.map_some]
  rfl
/-- A slice in memory made since w0, nothing else having turned since. -/
structure OwnAt (w0 w : World) (e : TypeId) (size : Nat) (v : Value) (n : Nat) (xs : List Value) : Prop where
  own : w.ownsRow 0 e size v n xs
  new : NewV w0 v
  frm : Frm NoS w0 w
theorem OwnAt.nil {w0 w : World} (f : Frm NoS w0 w) (e : TypeId) (size : Nat) : OwnAt w0 w e size (.slice none 0 0) 0 [] :=
  ⟨World.ownsRow_nil w 0 e size, (fun k hk => by simp [Value.ownBlock] at hk), f⟩
theorem OwnAt.keep {w0 w w' : World} {e : TypeId} {size : Nat} {v : Value} {n : Nat} {xs : List Value} (h : OwnAt w0 w e size v n xs) (f : Frm NoS w w') : OwnAt w0 w' e size v n xs :=
  ⟨f.owns h.own (fun _ _ h => h), h.new, h.frm.then1 f⟩
theorem OwnAt.rd {w0 w : World} {e : TypeId} {size : Nat} {v : Value} {n : Nat} {xs : List Value} (h : OwnAt w0 w e size v n xs) : Rd w v n xs := Rd.own h.own
theorem OwnAt.shape {w0 w : World} {e : TypeId} {size : Nat} {v : Value} {n : Nat} {xs : List Value} (h : OwnAt w0 w e size v n xs) : ∃ a c, v = .slice a n c := by
  rcases h.own.2 with ⟨rfl, h0⟩ | ⟨g, cap, cur, rfl, _⟩
  · exact ⟨none, 0, by rw [h0]⟩
  · exact ⟨_, _, rfl⟩
theorem OwnAt.step {w0 w w' : World} {e e' : TypeId} {size size' : Nat} {v v' : Value} {n n' : Nat} {xs xs' : List Value} (h : OwnAt w0 w e size v n xs) (own : w'.ownsRow 0 e' size' v' n' xs') (fm : Frm (RowS v) w w') (fr : Fresh w v v') : OwnAt w0 w' e' size' v' n' xs' :=
  ⟨own, (fun k hk => by
    rcases fr k hk with h1 | h1
    · exact h.new k h1
    · have := h.frm.size; omega), h.frm.trans fm (fun i hi s => by have := h.new i s; omega)⟩
/-- What it holds, cell by cell, and that each may be written. -/
theorem OwnAt.row {w0 w : World} {e : TypeId} {size : Nat} {v : Value} {n : Nat} {xs : List Value} (h : OwnAt w0 w e size v n xs) (hn : 0 < n) :
    ∃ g c, v = .slice (some ⟨g, 0, none⟩) n c ∧ w0.heap.size ≤ g ∧ g < w.heap.size ∧ n ≤ c ∧ (∀ j u, xs[j]? = some u → w.cell? ⟨g, j, none⟩ = some u) ∧ (∀ j, w.frozen? ⟨g, j, none⟩ = false) ∧
      ∀ j u, OwnAt w0 (w.setCell ⟨g, j, none⟩ u) e size v n (xs.set j u) := by
  rcases h.own.2 with ⟨_, h0⟩ | ⟨g, cap, cur, rfl, hb, hg, hnc, hcm, hcs, htake⟩
  · omega
  · have hlt : w0.heap.size ≤ g := h.new g rfl
    refine ⟨g, cap, rfl, hlt, lt_of_block hg, hnc, fun j u hu => ?_, fun j => free_at' hg j, fun j u => ⟨⟨?_, .inr ⟨g, cap, _, rfl, hb, set_at' hg j u, hnc, hcm, by simp [hcs], ?_⟩⟩, h.new, ?_⟩⟩
    · refine cell_at' hg j ?_
      rw [← htake, List.getElem?_take] at hu
      split at hu
      · simpa using hu
      · cases hu
    · rw [List.length_set]; exact h.own.1
    · rw [Array.toList_setIfInBounds, List.take_set, htake]
    · exact h.frm.set1 (.inr hlt)

section
variable {P : Program}
/-- append onto a slice of one's own of what the translation has just laid. -/
theorem wpList_appO {ops : Array Oper} {rest : List Oper} {o : Oper} {a : Act} {Q : Exit → Act → World → Prop} (w0 w : World) (news : List Value) (hgd : o.guard = none) (s x : Operand) (t : TypeId)
    (ho : o.op = .call { callee := .builtin .append, args := #[s, x], argTypes := #[t, t] })
    (e : TypeId) (i : TypeInfo) (z : Value) (size bytes : Nat) (ht : P.underlying t = some (.slice e)) (hi : P.info? e = some i) (hz : i.zero = some z)
    (hsize : i.size = size) (hby : i.bytes = bytes) (hzs : z.cells.size = size) (hsz : 0 < size)
    (v : Value) (n : Nat) (xs : List Value) (hown : OwnAt w0 w e size v n xs) (m c : Nat) (hv : a.eval s = v) (hx : a.eval x = .slice (some ⟨w.heap.size, 0, none⟩) m c)
    (hnl : news.length = m * size) (h1 : ∀ u ∈ news, u.oneCell' = true) (h63 : n + m ≤ maxLen) (hbytes : (n + m) * bytes ≤ 140737488355328)
    (h : ∀ ad c w', OwnAt w0 w' e size (.slice ad (n + m) c) (n + m) (xs ++ news) → wpList P ops Q rest (a.put o.dst (.slice ad (n + m) c)) w') :
    wpList P ops Q (o :: rest) a (w.alloc (.cells news.toArray e)) :=
  wpList_app1 w news hgd s x t ho e i z size bytes ht hi hz hsize hby hzs hsz v n xs hown.own m c hv hx hnl h1 h63 hbytes fun ad c' w' g1 g2 g3 => h ad c' w' (hown.step g1 g2 g3)
/-- The same onto another slice that reads so. -/
theorem wpList_appR {ops : Array Oper} {rest : List Oper} {o : Oper} {a : Act} {Q : Exit → Act → World → Prop} (w0 w : World) (news : List Value) (hgd : o.guard = none) (s x : Operand) (t tx : TypeId)
    (ho : o.op = .call { callee := .builtin .append, args := #[s, x], argTypes := #[t, tx] })
    (e e' : TypeId) (i : TypeInfo) (z : Value) (size bytes : Nat) (ht : P.underlying t = some (.slice e)) (htx : P.underlying tx = some (.slice e')) (hi : P.info? e = some i) (hz : i.zero = some z)
    (hsize : i.size = size) (hby : i.bytes = bytes) (hzs : z.cells.size = size) (hsz : 0 < size)
    (v : Value) (n : Nat) (xs : List Value) (hown : OwnAt w0 w e size v n xs) (xv : Value) (m : Nat) (hv : a.eval s = v) (hx : a.eval x = xv) (hr : Rd w xv m news)
    (hnl : news.length = m * size) (h1 : ∀ u ∈ news, u.oneCell' = true) (h63 : n + m ≤ maxLen) (hbytes : (n + m) * bytes ≤ 140737488355328)
    (h : ∀ ad c w', OwnAt w0 w' e size (.slice ad (n + m) c) (n + m) (xs ++ news) → wpList P ops Q rest (a.put o.dst (.slice ad (n + m) c)) w') :
    wpList P ops Q (o :: rest) a w :=
  wpList_app w hgd s x t tx ho e i z size bytes ht hi hz hsize hby hzs hsz v n xs hv hown.own xv m news hx (hr.src htx hnl h1) h63 hbytes fun ad c' w' g1 g2 g3 _ => h ad c' w' (hown.step g1 g2 g3)
/-- In a region that draws its order. -/
theorem step_appO {ops : Array Oper} {o : Oper} {a : Act} (w0 w : World) {K : Act → World → Prop} {Q : Exit → Act → World → Prop} {E : Prop} (news : List Value) (hgd : o.guard = none) (s x : Operand) (t : TypeId)
    (ho : o.op = .call { callee := .builtin .append, args := #[s, x], argTypes := #[t, t] })
    (e : TypeId) (i : TypeInfo) (z : Value) (size bytes : Nat) (ht : P.underlying t = some (.slice e)) (hi : P.info? e = some i) (hz : i.zero = some z)
    (hsize : i.size = size) (hby : i.bytes = bytes) (hzs : z.cells.size = size) (hsz : 0 < size)
    (v : Value) (n : Nat) (xs : List Value) (hown : OwnAt w0 w e size v n xs) (m c : Nat) (hv : a.eval s = v) (hx : a.eval x = .slice (some ⟨w.heap.size, 0, none⟩) m c)
    (hnl : news.length = m * size) (h1 : ∀ u ∈ news, u.oneCell' = true) (h63 : n + m ≤ maxLen) (hbytes : (n + m) * bytes ≤ 140737488355328)
    (h : ∀ ad c w', OwnAt w0 w' e size (.slice ad (n + m) c) (n + m) (xs ++ news) → K (a.put o.dst (.slice ad (n + m) c)) w') :
    if Region.wanted o (yielded ops a.tmps) = true then Oper.wp P o a (w.alloc (.cells news.toArray e)) K Q else E := by
  have hw : Region.wanted o (yielded ops a.tmps) = true := by simp [Region.wanted, hgd]
  rw [if_pos hw]
  have hs : Src P size t (.slice (some ⟨w.heap.size, 0, none⟩) m c) m news (w.alloc (.cells news.toArray e)) :=
    Src.ofSlice _ ht ⟨w.heap.size, 0, none⟩ m c news hnl (fun j u hj => by
      have hadd : (⟨w.heap.size, 0, none⟩ : Addr).add j = ⟨w.heap.size, j, none⟩ := by unfold Addr.add; split <;> simp_all
      rw [hadd, cell_of_row (w.alloc (.cells news.toArray e)) w.heap.size j news.toArray e (0, 0) (heap_alloc_new w _)]
      simpa using hj) h1
  obtain ⟨v', w', hr, h2, h3, h4, ⟨ad, c', rfl⟩, h6⟩ := run_app (P := P) (w.alloc (.cells news.toArray e)) t t o.type e i z size bytes ht hi hz hsize hby hzs hsz v n xs (hown.own.alloc _) _ m news hs h63 hbytes
  unfold Oper.wp execOp
  simp only [ho, resolve, invoke, builtin, Sem.run_bind, Sem.run_pure, Result.andThen_ok, List.map_toArray, List.map_cons, List.map_nil, hv, hx, hr]
  refine h ad c' w' (hown.step h2 ((Frm.alloc (RowS v) w _).trans h3 (fun _ _ h => h)) fun k hk => ?_)
  rcases h4 k hk with h | h
  · exact .inl h
  · refine .inr ?_
    simp at h
    omega
end
theorem info_run : (Try.prog.info? 109).map (fun i => (i.zero, i.size, i.bytes)) = some (some (.agg #[.int .i64 0, .int .i64 0]), 2, 16) := by kernel_rfl
theorem info_i64 : (Try.prog.info? 2).map (fun i => (i.zero, i.size, i.bytes)) = some (some (.int .i64 0), 1, 8) := by kernel_rfl
end Go.Proofs.Ytafdclkpeomomaa

/- tributaryref06: ends: the walk. -/
namespace Go.Proofs.Ytafdclkpeomomaa
open Go.RowKit

theorem endsL_take_succ {l : RunL} {k : Nat} (hk : k < l.length) : endsL (l.take (k + 1)) = endsL (l.take k) ++ [(l.getD k (0, 0)).1, (l.getD k (0, 0)).2 + 1] := by
  rw [take_succ (0, 0) hk]; simp [endsL]
theorem endsL_length (l : RunL) : (endsL l).length = l.length * 2 := by
  induction l with
  | nil => rfl
  | cons r l ih =>
    have : endsL (r :: l) = [r.1, r.2 + 1] ++ endsL l := rfl
    rw [this, List.length_append, ih]; simp; omega
end Go.Proofs.Ytafdclkpeomomaa

/- tributaryref06: Of: the walk. -/
namespace Go.Proofs.Ytafdclkpeomomaa
open Go.RowKit

def aheadV (l : List Int) (x o : Value) : Nat :=
  match o with
  | .bool true => ahead l (some (intOf x))
  | _ => 0
theorem wrap_nat {n : Nat} (h : n + 1 ≤ 100000) : wrap64 (n : Int) = n := by unfold wrap64; omega
theorem ahead_le (l : List Int) (x : Option Int) : ahead l x ≤ l.length := by
  cases x with
  | none => exact Nat.zero_le _
  | some m => exact List.length_filter_le _ _
theorem pushL_length (out : RunL) (a hi : Int) : (pushL out a hi).length ≤ out.length + 1 := by
  rcases List.eq_nil_or_concat out with rfl | ⟨l, r, rfl⟩
  · simp [pushL]
  · rw [List.concat_eq_append, pushL_snoc]
    split <;> simp
theorem ruC_set_last (l : RunL) (r : Int × Int) (hi : Int) : (ruC (l ++ [r])).set (l.length * 2 + 1) (.int .i64 hi) = ruC (l ++ [(r.1, hi)]) := by
  rw [ruC_append, ruC_append, List.set_append_right _ _ (by rw [ruC_length]; omega), ruC_length, show l.length * 2 + 1 - l.length * 2 = 1 by omega]
  rfl
theorem ruC_last (l : RunL) (r : Int × Int) : (ruC (l ++ [r]))[l.length * 2 + 1]? = some (.int .i64 r.2) := by
  rw [ruC_append, List.getElem?_append_right (by rw [ruC_length]; omega), ruC_length, show l.length * 2 + 1 - l.length * 2 = 1 by omega]
  rfl
def OfRel (w : World) (l : List Int) (v x o : Value) (ww : World) : Prop :=
  ∃ (q : Option Int) (out : RunL), OwnAt w ww 109 2 v out.length (ruC out) ∧ OfInv l out q ∧ out.length + ahead l q ≤ l.length ∧ x = .int .i64 (q.getD 0) ∧ o = .bool q.isSome
end Go.Proofs.Ytafdclkpeomomaa
