/- Items: how a slice of them reads; few, put. -/
import Derived.Test.YtclihppeaikhiaaRefNum
namespace Go.Proofs.Ytclihppeaikhiaa
open Go.RowKit

/-- A slice of n elements of sz cells each, told cell by cell. -/
def Arr (w : World) (v : Value) (n sz : Nat) (f : Nat → Nat → Value) : Prop :=
  (∃ ad, v = .slice ad 0 0 ∧ n = 0) ∨ ∃ b off c, v = .slice (some ⟨b, off, none⟩) n c ∧ n ≤ c ∧ c ≤ maxLen ∧ ∀ k j, k < n → j < sz → w.cell? ⟨b, off + k * sz + j, none⟩ = some (f k j)
theorem Arr.keep {w w' : World} {v : Value} {n sz : Nat} {f : Nat → Nat → Value} (h : Arr w v n sz f) {S : Nat → Prop} (fr : Frm S w w') (hn : ∀ k, v.ownBlock = some k → ¬ S k) : Arr w' v n sz f := by
  rcases h with h | ⟨b, off, c, rfl, h1, h2, h3⟩
  · exact .inl h
  · exact .inr ⟨b, off, c, rfl, h1, h2, fun k j hk hj => fr.cell' (h3 k j hk hj) (hn b rfl)⟩

structure Item where
  t : Bool
  n : Int
  s : ByteArray
def Item.zero : Item := ⟨false, 0, ByteArray.empty⟩
def Item.cell (i : Item) : Nat → Value
  | 0 => .bool i.t
  | 1 => .int .i64 i.n
  | _ => .string i.s
def Item.fits (i : Item) : Prop := -9223372036854775808 ≤ i.n ∧ i.n ≤ 9223372036854775807 ∧ i.s.size ≤ 9223372036854775807
/-- A slice of items. -/
def ItemsAt (w : World) (v : Value) (l : List Item) : Prop := Arr w v l.length 3 (fun k j => (l.getD k Item.zero).cell j) ∧ ∀ i ∈ l, i.fits
def itemB (i : Item) : List UInt8 := if i.t then textB i.s else numB i.n
def itemsB (l : List Item) : List UInt8 := l.flatMap itemB
def totS (l : List Item) : Nat := (l.map fun i => i.s.size).sum

theorem totS_take_le (l : List Item) (k : Nat) : totS (l.take k) ≤ totS l := by
  have : totS l = totS (l.take k) + totS (l.drop k) := by
    have h := congrArg totS (List.take_append_drop k l)
    rw [← h]; simp only [totS, List.map_append, List.sum_append]
  omega
theorem getD_lt {l : List Item} {k : Nat} (h : k < l.length) : l.getD k Item.zero = l[k] := by simp [List.getD, h]
theorem take_snoc_item {l : List Item} {k : Nat} (h : k < l.length) : l.take (k + 1) = l.take k ++ [l.getD k Item.zero] := by
  rw [List.take_succ_eq_append_getElem h, getD_lt h]
theorem totS_snoc {l : List Item} {k : Nat} (h : k < l.length) : totS (l.take (k + 1)) = totS (l.take k) + (l.getD k Item.zero).s.size := by
  rw [take_snoc_item h]; simp [totS]
theorem itemsB_snoc {l : List Item} {k : Nat} (h : k < l.length) : itemsB (l.take (k + 1)) = itemsB (l.take k) ++ itemB (l.getD k Item.zero) := by
  rw [take_snoc_item h]; simp [itemsB]
theorem itemsB_take_len (l : List Item) (k : Nat) : (itemsB (l.take k)).length ≤ (itemsB l).length := by
  have : itemsB l = itemsB (l.take k) ++ itemsB (l.drop k) := by
    rw [itemsB, itemsB, itemsB, ← List.flatMap_append, List.take_append_drop]
  rw [this, List.length_append]; omega
theorem itemB_len {i : Item} (h : i.fits) : (itemB i).length ≤ 10 + i.s.size := by
  unfold itemB textB
  split
  · have := numB_le10 (v := (i.s.size : Int)) (by omega) (by have := h.2.2; omega)
    rw [List.length_append]
    have e : i.s.data.toList.length = i.s.size := Array.length_toList
    omega
  · have := numB_le10 h.1 h.2.1
    omega
theorem itemsB_len : ∀ {l : List Item}, (∀ i ∈ l, i.fits) → (itemsB l).length ≤ 10 * l.length + totS l
  | [], _ => by simp [itemsB, totS]
  | i :: l, h => by
    have h1 := itemB_len (h i (by simp))
    have h2 := itemsB_len (l := l) fun j hj => h j (by simp [hj])
    have e1 : itemsB (i :: l) = itemB i ++ itemsB l := by simp [itemsB]
    have e2 : totS (i :: l) = i.s.size + totS l := by simp [totS]
    rw [e1, e2, List.length_append, List.length_cons]
    omega

/-- What the walk of a round wants of item k. -/
theorem items_at {w : World} {b off c n : Nat} {l : List Item} (h : ItemsAt w (.slice (some ⟨b, off, none⟩) n c) l) (k : Nat) (hk : k < l.length) :
    n = l.length ∧ w.cell? ⟨b, off + k * 3, none⟩ = some (.bool (l.getD k Item.zero).t) ∧ w.cell? ⟨b, off + k * 3 + 1, none⟩ = some (.int .i64 (l.getD k Item.zero).n) ∧
      w.cell? ⟨b, off + k * 3 + 2, none⟩ = some (.string (l.getD k Item.zero).s) ∧ (l.getD k Item.zero).fits := by
  rcases h.1 with ⟨_, _, _⟩ | ⟨b', off', c', h1, h2, h3, h4⟩
  · omega
  · injection h1 with e1 e2 e3
    injection e1 with e1
    injection e1 with e4 e5
    subst e4 e5
    exact ⟨e2, h4 k 0 hk (by omega), h4 k 1 hk (by omega), h4 k 2 hk (by omega), h.2 _ (by rw [getD_lt hk]; exact List.getElem_mem hk)⟩

set_option maxHeartbeats 400000 in
set_option maxRecDepth 1000000 in
theorem few_yes (l : List Item) (v : Value) (m : Nat) (w : World) (h : ItemsAt w v l) (h1 : l.length ≤ 101) (h2 : totS l ≤ m) (hm : m ≤ 100000) :
    Calls Try.prog 15 #[v, .int .i64 m] w fun e w' => e = .returned (.bool true) ∧ w = w' := by
  rcases h.1 with ⟨ad, rfl, h0⟩ | ⟨b, off, c, rfl, -, -, -⟩
  · have H0 := Lib.hid h0; clear h0
    clear h
    go_enter Try.func15, Try.ntmps15
    go_wp2
    go_loop [5, 9] (fun n i => n = .int .i64 0 ∧ i = .int .i64 0) (fun _ _ => 0)
    case atStart => exact ⟨rfl, rfl⟩
    case round =>
      obtain ⟨rfl, rfl⟩ := hrel
      go_wp2
      go_ret
      exact ⟨rfl, rfl⟩
  · have HH := Lib.hid h; clear h
    have H2 := Lib.hid h2; clear h2
    generalize hn : l.length = n at *
    have HN := Lib.hid hn; clear hn
    go_enter Try.func15, Try.ntmps15
    go_wp2
    go_loop [5, 9] (fun s i => ∃ k : Nat, k ≤ n ∧ i = .int .i64 k ∧ s = .int .i64 (totS (l.take k))) (fun _ i => n - (intOf i).toNat)
    case atStart => exact ⟨0, Nat.zero_le _, rfl, rfl⟩
    case round =>
      obtain ⟨k, hk, rfl, rfl⟩ := hrel
      by_cases hlt : k < n
      · obtain ⟨-, -, -, q2, -⟩ := items_at HH.out k (by rw [HN.out]; exact hlt)
        have hs := totS_snoc (l := l) (k := k) (by rw [HN.out]; exact hlt)
        have hle := totS_take_le l (k + 1)
        generalize l.getD k Item.zero = it at *
        generalize totS (l.take k) = t0 at *
        generalize hT : totS (l.take (k + 1)) = t1 at *
        have HT := Lib.hid hT; clear hT
        have hb1 : it.s.size ≤ m := by have := H2.out; omega
        have hb2 : t0 + it.s.size ≤ m := by have := H2.out; omega
        have HS := Lib.hid hs; clear hs
        clear hle
        go_wp2
        go_round
        case rel => exact ⟨k + 1, by omega, by go_num, by rw [HT.out, HS.out]; go_num⟩
        case measure => simp [intOf]; omega
      · go_wp2
        go_ret
        exact ⟨rfl, rfl⟩

set_option maxHeartbeats 400000 in
set_option maxRecDepth 1000000 in
theorem few_no (l : List Item) (v : Value) (m : Nat) (w : World) (h : ItemsAt w v l) (h1 : ¬ (l.length ≤ 101 ∧ totS l ≤ m)) (hm : m ≤ 100000) :
    Calls Try.prog 15 #[v, .int .i64 m] w fun e w' => e = .returned (.bool false) ∧ w = w' := by
  rcases h.1 with ⟨ad, rfl, h0⟩ | ⟨b, off, c, rfl, -, -, -⟩
  · exfalso
    have : l = [] := List.eq_nil_of_length_eq_zero h0
    subst this
    exact h1 (by simp [totS])
  · have HH := Lib.hid h; clear h
    have H1 := Lib.hid h1; clear h1
    generalize hn : l.length = n at *
    have HN := Lib.hid hn; clear hn
    go_enter Try.func15, Try.ntmps15
    go_wp2
    go_loop [5, 9] (fun s i => ∃ k : Nat, k ≤ n ∧ k ≤ 101 ∧ totS (l.take k) ≤ m ∧ i = .int .i64 k ∧ s = .int .i64 (totS (l.take k))) (fun _ i => n - (intOf i).toNat)
    case atStart => exact ⟨0, Nat.zero_le _, by omega, Nat.zero_le _, rfl, rfl⟩
    case round =>
      obtain ⟨k, hk, hk2, hm2, rfl, rfl⟩ := hrel
      by_cases hlt : k < n
      · obtain ⟨-, -, -, q2, q3⟩ := items_at HH.out k (by rw [HN.out]; exact hlt)
        have hs := totS_snoc (l := l) (k := k) (by rw [HN.out]; exact hlt)
        have hbd : (l.getD k Item.zero).s.size ≤ 9223372036854775807 := q3.2.2
        clear q3
        generalize l.getD k Item.zero = it at *
        generalize totS (l.take k) = t0 at *
        generalize hT : totS (l.take (k + 1)) = t1 at *
        have HT := Lib.hid hT; clear hT
        have HS := Lib.hid hs; clear hs
        by_cases hk100 : 100 < k
        · go_wp2
          go_ret
          exact ⟨rfl, rfl⟩
        · by_cases hsz : m < it.s.size
          · go_wp2
            go_ret
            exact ⟨rfl, rfl⟩
          · by_cases hsum : m < t0 + it.s.size
            · go_wp2
              go_ret
              exact ⟨rfl, rfl⟩
            · go_wp2
              go_round
              case rel => exact ⟨k + 1, by omega, by omega, by rw [HT.out, HS.out]; omega, by go_num, by rw [HT.out, HS.out]; go_num⟩
              case measure => simp [intOf]; omega
      · exfalso
        obtain rfl : k = n := by omega
        rw [List.take_of_length_le (by rw [HN.out]; exact Nat.le_refl _)] at hm2
        exact H1.out ⟨hk2, hm2⟩

end Go.Proofs.Ytclihppeaikhiaa
