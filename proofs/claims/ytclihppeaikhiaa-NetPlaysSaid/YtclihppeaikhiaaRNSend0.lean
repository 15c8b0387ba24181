/- tributaryref26.Net.Send: words for its drawn region. -/
import Derived.Test.YtclihppeaikhiaaRNet2
namespace Go.Proofs.Ytclihppeaikhiaa
open Go.RowKit

theorem step_app {P : Program} {ops : Array Oper} {o : Oper} {a : Act} (w : World) {K : Act → World → Prop} {Q : Exit → Act → World → Prop} {E : Prop} (hgd : o.guard = none) (s x : Operand) (t tx : TypeId)
    (ho : o.op = .call { callee := .builtin .append, args := #[s, x], argTypes := #[t, tx] })
    (e : TypeId) (i : TypeInfo) (z : Value) (size bytes : Nat) (ht : P.underlying t = some (.slice e)) (hi : P.info? e = some i) (hz : i.zero = some z)
    (hsize : i.size = size) (hby : i.bytes = bytes) (hzs : z.cells.size = size) (hsz : 0 < size)
    (v : Value) (n : Nat) (xs : List Value) (hown : w.ownsRow 0 e size v n xs) (xv : Value) (m : Nat) (news : List Value) (hv : a.eval s = v) (hx : a.eval x = xv) (hs : Src P size tx xv m news w)
    (h63 : n + m ≤ maxLen) (hbytes : (n + m) * bytes ≤ 140737488355328)
    (h : ∀ ad c w', w'.ownsRow 0 e size (.slice ad (n + m) c) (n + m) (xs ++ news) → Frm (RowS v) w w' → Fresh w v (.slice ad (n + m) c) → K (a.put o.dst (.slice ad (n + m) c)) w') :
    if Region.wanted o (yielded ops a.tmps) = true then Oper.wp P o a w K Q else E := by
  have hw : Region.wanted o (yielded ops a.tmps) = true := by simp [Region.wanted, hgd]
  rw [if_pos hw]
  obtain ⟨v', w', hr, h2, h3, h4, ⟨ad, c', rfl⟩, h6⟩ := run_app (P := P) w t tx o.type e i z size bytes ht hi hz hsize hby hzs hsz v n xs hown _ m news hs h63 hbytes
  unfold Oper.wp execOp
  simp only [ho, resolve, invoke, builtin, Sem.run_bind, Sem.run_pure, Result.andThen_ok, List.map_toArray, List.map_cons, List.map_nil, hv, hx, hr]
  exact h ad c' w' h2 h3 h4

theorem own_emptyR (w : World) : (w.alloc (.cells #[] 107)).ownsRow 0 107 2 (.slice (some ⟨w.heap.size, 0, none⟩) 0 0) 0 [] :=
  ⟨rfl, .inr ⟨w.heap.size, 0, #[], rfl, Nat.zero_le _, heap_alloc_new w _, Nat.le_refl _, Nat.zero_le _, rfl, rfl⟩⟩

/-- What Send's drawn region leaves as it is. -/
structure SndS (X0 : World) (n0 : Nat) (most : Int) (vL : Value) (t : Int) (sv : Value) (w : World) : Prop where
  c0 : w.cell? ⟨n0, 0, none⟩ = some (.int .i64 most)
  c1 : w.cell? ⟨n0, 1, none⟩ = some vL
  d0 : w.cell? ⟨n0 + 1, 0, none⟩ = some (.int .i64 t)
  d1 : w.cell? ⟨n0 + 1, 1, none⟩ = some sv
  r : ∃ x y, w.heap[n0 + 1 + 1]? = some (.cells #[x, y] 76 (0, 0))
  frm : Frm (fun i => i = n0 + 1 + 1) X0 w
theorem SndS.keep {X0 : World} {n0 : Nat} {most : Int} {vL : Value} {t : Int} {sv : Value} {w w' : World} (h : SndS X0 n0 most vL t sv w) (hn : X0.heap.size = n0 + 1 + 1 + 1) {S : Nat → Prop} (f : Frm S w w') (hs : ∀ i, S i → X0.heap.size ≤ i) : SndS X0 n0 most vL t sv w' := by
  have no : ∀ i, i < n0 + 3 → ¬ S i := fun i hi hsi => by have := hs i hsi; omega
  obtain ⟨x, y, hr⟩ := h.r
  exact ⟨f.cell' h.c0 (no _ (by show n0 < _; omega)), f.cell' h.c1 (no _ (by show n0 < _; omega)), f.cell' h.d0 (no _ (by show n0 + 1 < _; omega)), f.cell' h.d1 (no _ (by show n0 + 1 < _; omega)), ⟨x, y, f.blk hr (no _ (by omega))⟩,
    h.frm.trans f fun i hi hsi => by have := hs i hsi; omega⟩
theorem SndS.store {X0 : World} {n0 : Nat} {most : Int} {vL : Value} {t : Int} {sv : Value} {w : World} (h : SndS X0 n0 most vL t sv w) (a b : Value) :
    SndS X0 n0 most vL t sv ((w.setCell ⟨n0 + 1 + 1, 0, none⟩ a).setCell ⟨n0 + 1 + 1, 1, none⟩ b) ∧ ((w.setCell ⟨n0 + 1 + 1, 0, none⟩ a).setCell ⟨n0 + 1 + 1, 1, none⟩ b).heap[n0 + 1 + 1]? = some (.cells #[a, b] 76 (0, 0)) := by
  have f : Frm (fun i => i = n0 + 1 + 1) w ((w.setCell ⟨n0 + 1 + 1, 0, none⟩ a).setCell ⟨n0 + 1 + 1, 1, none⟩ b) :=
    (Frm.setCell (S := fun i => i = n0 + 1 + 1) w (p := ⟨n0 + 1 + 1, 0, none⟩) (.inl rfl) _).trans (Frm.setCell (S := fun i => i = n0 + 1 + 1) _ (p := ⟨n0 + 1 + 1, 1, none⟩) (.inl rfl) _) fun _ _ h => h
  obtain ⟨x, y, hr⟩ := h.r
  have h2 := set_at (set_at hr 0 a) 1 b
  exact ⟨⟨f.cell' h.c0 (fun e => by have e1 : n0 = n0 + 1 + 1 := e; omega), f.cell' h.c1 (fun e => by have e1 : n0 = n0 + 1 + 1 := e; omega), f.cell' h.d0 (fun e => by have e1 : n0 + 1 = n0 + 1 + 1 := e; omega), f.cell' h.d1 (fun e => by have e1 : n0 + 1 = n0 + 1 + 1 := e; omega), ⟨_, _, h2⟩,
    h.frm.trans f fun i _ h => h⟩, h2⟩

end Go.Proofs.Ytclihppeaikhiaa
