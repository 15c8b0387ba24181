/- tributarylaw26: the acts that came in; few: the walk. -/
import Derived.Test.YtclihppeaikhiaaRNSpoil
namespace Go.Proofs.Ytclihppeaikhiaa
open Go.RowKit Go.WideShapes

structure ActI where
  kind : UInt8
  k : Int
  dst : Int
  b : List UInt8
  y : UInt8
/-- An act's five cells. -/
def ActCells (w : World) (blk o : Nat) (a : ActI) (ab : Option Addr) (cb : Nat) : Prop :=
  w.cell? ⟨blk, o, none⟩ = some (.int .u8 (a.kind.toNat : Int)) ∧ w.cell? ⟨blk, o + 1, none⟩ = some (.int .i64 a.k) ∧ w.cell? ⟨blk, o + 2, none⟩ = some (.int .i64 a.dst) ∧ w.cell? ⟨blk, o + 3, none⟩ = some (.slice ab a.b.length cb) ∧ w.cell? ⟨blk, o + 4, none⟩ = some (.int .u8 (a.y.toNat : Int))
def ActsAt (w : World) (v : Value) (l : List ActI) : Prop :=
  ∃ a c, v = .slice a l.length c ∧ c ≤ maxLen ∧ l.length ≤ c ∧ ∀ (k : Nat) (x : ActI), l[k]? = some x → ∃ b off ab cb, a = some ⟨b, off, none⟩ ∧ ActCells w b (off + k * 5) x ab cb ∧ Rd w (.slice ab x.b.length cb) x.b.length (bV x.b)
instance : Inhabited ActI := ⟨⟨0, 0, 0, [], 0⟩⟩

theorem Try.cells_act : Try.prog.cellsOf 80 = 5 := by kernel_rfl
theorem Try.cells_int : Try.prog.cellsOf 3 = 1 := by kernel_rfl
theorem u8_of_trod {x : Int} (h : (Lit.int .u8 x).wf = true) : ∃ b : UInt8, x = (b.toNat : Int) := u8_of_wf h

set_option maxRecDepth 100000 in
theorem open_acts {H : Type} {enc : TypeId × Value → H} {w : World} {base : Nat} {v : Value} {d : DataW H} {ps : List MemPlace} (hv : Value.okWide Try.prog w .any base 72 v) (h : DataW.Trod enc Try.prog w 0 (fun _ => true) true 72 v d ps) :
    ∃ l : List ActI, ActsAt w v l := by
  obtain ⟨a0, len, cap, rfl⟩ := okWide_slice Try.underlying72 hv
  obtain ⟨fuel, hf⟩ := h
  rcases open_arr Try.underlying72 Try.cells_act (by omega) (fun _ => rfl) hf with ⟨rfl, rfl⟩ | ⟨b, off, rfl, h1, h2, n, hel⟩
  · exact ⟨[], a0, 0, rfl, by simp [maxLen], Nat.le_refl _, fun k x hk => by simp at hk⟩
  · have hx : ∀ k, k < len → ∃ x : ActI, ∃ ab cb, ActCells w b (off + k * 5) x ab cb ∧ Rd w (.slice ab x.b.length cb) x.b.length (bV x.b) := fun k hk => by
      obtain ⟨cs, hl, hc, y, hy⟩ := hel k hk
      obtain ⟨xs, m, _, _, _, hlen, hfd⟩ := DataW.trod_struct Try.underlying80 hy
      obtain ⟨c0, c1, c2, c3, c4, rfl⟩ : ∃ c0 c1 c2 c3 c4, cs = [c0, c1, c2, c3, c4] := by
        match cs, hl with
        | [c0, c1, c2, c3, c4], _ => exact ⟨c0, c1, c2, c3, c4, rfl⟩
      obtain ⟨y0, y1, y2, y3, y4, rfl⟩ : ∃ y0 y1 y2 y3 y4, xs = [y0, y1, y2, y3, y4] := by
        match xs, hlen with
        | [y0, y1, y2, y3, y4], _ => exact ⟨y0, y1, y2, y3, y4, rfl⟩
      have g0 := hfd 0 _ rfl
      have g1 := hfd 1 _ rfl
      have g2 := hfd 2 _ rfl
      have g3 := hfd 3 _ rfl
      have g4 := hfd 4 _ rfl
      simp [Try.cells_u8] at g0 g4
      simp [Try.cells_int] at g1 g2
      simp [Try.cells_bytes] at g3
      obtain ⟨x0, e0, _, w0⟩ := DataW.trod_int Try.underlying5 g0
      obtain ⟨x1, e1, _, _⟩ := DataW.trod_int Try.underlying3 g1
      obtain ⟨x2, e2, _, _⟩ := DataW.trod_int Try.underlying3 g2
      obtain ⟨u3, bs, e3, hr⟩ := bytes_of_trod g3
      obtain ⟨x4, e4, _, w4⟩ := DataW.trod_int Try.underlying5 g4
      simp at e0 e1 e2 e3 e4
      obtain ⟨k0, rfl⟩ := u8_of_wf w0
      obtain ⟨k4, rfl⟩ := u8_of_wf w4
      obtain ⟨ab, cb, rfl⟩ := rd_shape hr
      subst e0 e1 e2 e3 e4
      exact ⟨⟨k0, x1, x2, bs, k4⟩, ab, cb, ⟨hc 0 _ rfl, hc 1 _ rfl, hc 2 _ rfl, hc 3 _ rfl, hc 4 _ rfl⟩, hr⟩
    obtain ⟨l, hl, hlp⟩ := list_of_lt hx
    refine ⟨l, some ⟨b, off, none⟩, cap, by rw [hl], h2, by omega, fun k x hk => ?_⟩
    have hkl : k < l.length := len_of_some hk
    obtain ⟨ab, cb, g1, g2⟩ := hlp k (by omega) default
    have e1 : l.getD k default = x := by simp [List.getD, hk]
    rw [e1] at g1 g2
    exact ⟨b, off, ab, cb, rfl, g1, g2⟩

/-! ### few -/
def fewA (l : List ActI) : Prop := l.length ≤ 101 ∧ ∀ (k : Nat) (x : ActI), l[k]? = some x → x.b.length ≤ 300
def FewRel (l : List ActI) (i : Value) : Prop := ∃ k : Nat, k ≤ l.length ∧ i = .int .i64 k ∧ (∀ (j : Nat) (x : ActI), j < k → l[j]? = some x → j ≤ 100 ∧ x.b.length ≤ 300)
def FewPost (l : List ActI) (w : World) (e : Ending) (w' : World) : Prop := ∃ g, e = .returned (.bool g) ∧ (g = true ↔ fewA l) ∧ w = w'
set_option maxHeartbeats 1000000 in
set_option maxRecDepth 1000000 in
theorem few_any (w : World) (v : Value) (l : List ActI) (h : ActsAt w v l) : Calls Try.prog 38 #[v] w (FewPost l w) := by
  obtain ⟨a, c, rfl, hcm, hlc, hel⟩ := h
  have hll : l.length ≤ 9223372036854775807 := by simp only [maxLen] at hcm; omega
  have HEL := Lib.hid hel; clear hel
  go_enter Try.func38, Try.ntmps38
  go_wp2_with fail
  go_loop [6] (fun i => FewRel l i) (fun i => l.length - (intOf i).toNat)
  case atStart => exact ⟨0, Nat.zero_le _, rfl, fun j x hj => by omega⟩
  case round =>
    obtain ⟨k, hk, rfl, hg⟩ := hrel
    have HG := Lib.hid hg; clear hg
    by_cases hlt : k < l.length
    · obtain ⟨x, hx⟩ : ∃ x, l[k]? = some x := ⟨_, List.getElem?_eq_getElem hlt⟩
      obtain ⟨b, off, ab, cb, rfl, ⟨d0, d1, d2, d3, d4⟩, _⟩ := HEL.out k x hx
      have HX := Lib.hid hx; clear hx
      clear d0 d1 d2 d4
      by_cases hk1 : k ≤ 100
      · have hk2 : ¬ (100 : Int) < k := by omega
        by_cases hb : x.b.length ≤ 300
        · have hb2 : ¬ (300 : Int) < x.b.length := by omega
          go_wp2
          go_round
          case rel =>
            refine ⟨k + 1, by omega, by go_num, fun j y hj hy => ?_⟩
            rcases Nat.lt_or_ge j k with h | h
            · exact HG.out j y h hy
            · obtain rfl : j = k := by omega
              rw [HX.out] at hy; cases hy; exact ⟨hk1, hb⟩
          case measure => simp [intOf]; omega
        · have hb2 : (300 : Int) < x.b.length := by omega
          go_wp2
          go_ret
          exact ⟨false, rfl, by simpa using fun h : fewA l => hb (h.2 k x HX.out), rfl⟩
      · have hk2 : (100 : Int) < k := by omega
        go_wp2
        go_ret
        exact ⟨false, rfl, by simpa using (fun h : fewA l => by have := h.1; omega), rfl⟩
    · obtain rfl : k = l.length := by omega
      go_wp2
      go_ret
      refine ⟨true, rfl, ⟨fun _ => ⟨?_, fun j x hx => (HG.out j x (len_of_some hx) hx).2⟩, fun _ => rfl⟩, rfl⟩
      rcases Nat.eq_zero_or_pos l.length with h | h
      · omega
      · have h2 := HG.out (l.length - 1) _ (by omega) (List.getElem?_eq_getElem (by omega))
        omega

end Go.Proofs.Ytclihppeaikhiaa
