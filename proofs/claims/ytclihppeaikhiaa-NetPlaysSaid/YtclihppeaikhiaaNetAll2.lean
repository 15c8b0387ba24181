/- net: what a net holds; All: the walk. -/
import Derived.Test.YtclihppeaikhiaaNetAll
namespace Go.Proofs.Ytclihppeaikhiaa
open Go.RowKit

/-- A parcel: to whom, and its bytes. -/
abbrev Par := Int × List UInt8
/-- A parcel in a channel: its bytes lie in a block of their own, which is not the channel's. -/
def ParAt (w : World) (ch : Nat) (x : Value) (p : Par) : Prop :=
  ∃ a c, x = .agg #[.int .i64 p.1, .slice a p.2.length c] ∧ w.ownsRow 0 5 1 (.slice a p.2.length c) p.2.length (bV p.2) ∧ p.2.length ≤ 140737488355328 ∧ ∀ k, (Value.slice a p.2.length c).ownBlock = some k → k ≠ ch
def ParsAt (w : World) (ch : Nat) (buf : List Value) (l : List Par) : Prop :=
  buf.length = l.length ∧ ∀ (i : Nat) (x : Value) (p : Par), buf[i]? = some x → l[i]? = some p → ParAt w ch x p
/-- Blocks that may turn, none of which has bytes. -/
def NoBytes (w : World) (ch : Nat) (S : Nat → Prop) : Prop := ∀ i, S i → i = ch ∨ ∀ cur, w.heap[i]? ≠ some (.cells cur 5 (0, 0))
theorem own_bytes {w : World} {a : Option Addr} {n c m : Nat} {xs : List Value} (h : w.ownsRow 0 5 1 (.slice a n c) m xs) : ∀ k, (Value.slice a n c).ownBlock = some k → ∃ cur, w.heap[k]? = some (.cells cur 5 (0, 0)) := fun k hk => by
  rcases h.2 with ⟨hx, _⟩ | ⟨g, cap, cur, hx, _, hg, _⟩
  · cases hx; simp [Value.ownBlock] at hk
  · cases hx; simp [Value.ownBlock] at hk; subst hk; exact ⟨cur, hg⟩
theorem ParAt.keep {w w' : World} {ch : Nat} {x : Value} {p : Par} (h : ParAt w ch x p) {S : Nat → Prop} (f : Frm S w w') (hn : NoBytes w ch S) : ParAt w' ch x p := by
  obtain ⟨a, c, rfl, h1, h2, h3⟩ := h
  refine ⟨a, c, rfl, f.owns h1 fun k hk hs => ?_, h2, h3⟩
  rcases hn k hs with h | h
  · exact h3 k hk h
  · obtain ⟨cur, hc⟩ := own_bytes h1 k hk
    exact h cur hc
theorem ParsAt.keep {w w' : World} {ch : Nat} {buf : List Value} {l : List Par} (h : ParsAt w ch buf l) {S : Nat → Prop} (f : Frm S w w') (hn : NoBytes w ch S) : ParsAt w' ch buf l :=
  ⟨h.1, fun i x p hx hp => (h.2 i x p hx hp).keep f hn⟩
theorem noBytes_ch (w : World) (ch : Nat) : NoBytes w ch (fun i => i = ch) := fun _ h => .inl h
theorem noBytes_none (w : World) (ch : Nat) : NoBytes w ch (fun _ => False) := fun _ h => h.elim

structure NetAt (w : World) (nb ch cap : Nat) (buf : List Value) (l : List Par) : Prop where
  cell : w.cell? ⟨nb, 0, none⟩ = some (.chan (some ch))
  chan : ∃ s r, w.heap[ch]? = some (.chan cap buf.toArray false s r false)
  pars : ParsAt w ch buf l
  room : buf.length ≤ cap
  capb : cap ≤ 64
theorem NetAt.ne {w : World} {nb ch cap : Nat} {buf : List Value} {l : List Par} (h : NetAt w nb ch cap buf l) : nb ≠ ch := fun e => by
  obtain ⟨s, r, hc⟩ := h.chan
  have := h.cell
  subst e
  simp [World.cell?, hc] at this
theorem NetAt.nlt {w : World} {nb ch cap : Nat} {buf : List Value} {l : List Par} (h : NetAt w nb ch cap buf l) : nb < w.heap.size := World.block_lt_of_cell? w _ h.cell
theorem NetAt.clt {w : World} {nb ch cap : Nat} {buf : List Value} {l : List Par} (h : NetAt w nb ch cap buf l) : ch < w.heap.size := by
  obtain ⟨s, r, hc⟩ := h.chan
  exact lt_of_block hc
theorem NetAt.keep {w w' : World} {nb ch cap : Nat} {buf : List Value} {l : List Par} (h : NetAt w nb ch cap buf l) {S : Nat → Prop} (f : Frm S w w') (h1 : ¬ S nb) (h2 : ¬ S ch) (h3 : NoBytes w ch S) : NetAt w' nb ch cap buf l := by
  obtain ⟨s, r, hc⟩ := h.chan
  exact ⟨f.cell' h.cell h1, ⟨s, r, f.blk hc h2⟩, h.pars.keep f h3, h.room, h.capb⟩
theorem NetAt.keep0 {w w' : World} {nb ch cap : Nat} {buf : List Value} {l : List Par} (h : NetAt w nb ch cap buf l) (f : Frm (fun _ => False) w w') : NetAt w' nb ch cap buf l := h.keep f id id (noBytes_none w ch)

/-- A parcel that All hands out: new. -/
def OutPar (w0 w : World) (q : Int × Value) (p : Par) : Prop := q.1 = p.1 ∧ p.2.length ≤ 140737488355328 ∧ ∃ a c, q.2 = .slice a p.2.length c ∧ w.ownsRow 0 5 1 (.slice a p.2.length c) p.2.length (bV p.2) ∧ NewV w0 (.slice a p.2.length c)
def outCells (outs : List (Int × Value)) : List Value := outs.flatMap fun q => [.int .i64 q.1, q.2]
theorem outCells_snoc (outs : List (Int × Value)) (t : Int) (v : Value) : outCells outs ++ [.int .i64 t, v] = outCells (outs ++ [(t, v)]) := by simp [outCells]
theorem outCells_length (outs : List (Int × Value)) : (outCells outs).length = outs.length * 2 := by
  induction outs with
  | nil => rfl
  | cons q r ih => simp only [outCells, List.flatMap_cons, List.length_append, List.length_cons, List.length_nil] at *; omega
structure OutsAt (w0 w : World) (v : Value) (outs : List (Int × Value)) (l : List Par) : Prop where
  own : w.ownsRow 0 43 2 v outs.length (outCells outs)
  new : NewV w0 v
  all : ∀ (i : Nat) (q : Int × Value) (p : Par), outs[i]? = some q → l[i]? = some p → OutPar w0 w q p
theorem OutPar.keep {w0 w w' : World} {q : Int × Value} {p : Par} (h : OutPar w0 w q p) {S : Nat → Prop} (f : Frm S w w') (hn : ∀ i, S i → i < w0.heap.size ∨ ∀ cur, w.heap[i]? ≠ some (.cells cur 5 (0, 0))) : OutPar w0 w' q p := by
  obtain ⟨h1, h2, a, c, h3, h4, h5⟩ := h
  refine ⟨h1, h2, a, c, h3, f.owns h4 fun k hk hs => ?_, h5⟩
  rcases hn k hs with h | h
  · have := h5 k hk; omega
  · obtain ⟨cur, hc⟩ := own_bytes h4 k hk
    exact h cur hc

/-- What All's closure keeps. -/
structure AllJ (w0 : World) (ch ob : Nat) (buf : List Value) (l : List Par) (k : Nat) (d r : List Value) (w : World) : Prop where
  bufs : buf = d ++ r
  len : d.length = k
  pars : ParsAt w ch buf l
  frm : Frm (fun i => i = ch ∨ i = ob) w0 w
  out : ∃ v outs, w.heap[ob]? = some (.cells #[v] 47 (0, 0)) ∧ outs.length = k ∧ OutsAt w0 w v outs l

set_option maxRecDepth 100000 in
theorem allJ (w0 : World) (nb ch ob cap : Nat) (buf : List Value) (l : List Par) (h : NetAt w0 nb ch cap buf l) (ho : ob < w0.heap.size) (hoc : ob ≠ ch) (hon : ob ≠ nb) :
    TurnJ 51 #[.pointer (some ⟨ob, 0, none⟩)] nb ch (AllJ w0 ch ob buf l) := by
  have hcl := h.clt
  have hnl := h.nlt
  have hne := h.ne
  refine ⟨?_, ?_, ?_⟩
  · intro k d r w w' hj f
    obtain ⟨v, outs, q1, q2, q3, q4, q5⟩ := hj.out
    refine ⟨hj.bufs, hj.len, hj.pars.keep f (noBytes_ch _ _), hj.frm.trans f fun i _ h => .inl h, v, outs, f.blk q1 hoc, q2, f.owns q3 fun k hk h => ?_, q4, fun i q p h1 h2 => (q5 i q p h1 h2).keep f fun i hi => ?_⟩
    · have := q4 k hk; have h1 : k = ch := h; omega
    · have h1 : i = ch := hi; exact .inl (by omega)
  · intro k d p r w hj
    have hlen := hj.pars.1
    have hb := hj.bufs
    have hk : buf[d.length]? = some p := by rw [hb]; simp
    have hlt : d.length < l.length := by rw [← hlen, hb]; simp
    obtain ⟨a, c, h1, _⟩ := hj.pars.2 _ _ _ hk (List.getElem?_eq_getElem hlt)
    exact ⟨_, _, _, _, h1⟩
  · intro k d p r w hj
    have hlen := hj.pars.1
    have hb := hj.bufs
    have hk : buf[d.length]? = some p := by rw [hb]; simp
    have hlt : d.length < l.length := by rw [← hlen, hb]; simp
    obtain ⟨p0, hlk⟩ : ∃ p0, l[d.length]? = some p0 := ⟨_, List.getElem?_eq_getElem hlt⟩
    obtain ⟨a, c, rfl, h2, h3, h4⟩ := hj.pars.2 _ _ _ hk hlk
    obtain ⟨v, outs, q1, q2, q3, q4, q5⟩ := hj.out
    have hdl := hj.len
    have hbl : buf.length ≤ 64 := Nat.le_trans h.room h.capb
    have hsz := hj.frm.size
    have hvn : ∀ k, v.ownBlock = some k → k ≠ ob := fun k hk => by have := q4 k hk; omega
    refine (all1 w k _ a c _ (Rd.own h2) h3 ob v outs.length (outCells outs) q1 q3 hvn (by omega)).mono ?_
    rintro e w' ⟨he, v', a', c', g1, g2, g3, g4, g5, g6, g7⟩
    have nS : ∀ i, (i = ob ∨ RowS v i) → i ≠ ch ∧ i ≠ nb := fun i hi => by
      rcases hi with hi | hi
      · omega
      · have := q4 i hi; omega
    have nB : NoBytes w ch (fun i => i = ob ∨ RowS v i) := fun i hi => by
      rcases hi with hi | hi
      · refine .inr fun cur => ?_
        rw [hi, q1]
        intro he; cases he
      · refine .inr fun cur hcur => ?_
        rcases q3.2 with ⟨hx, _⟩ | ⟨g, cp, cr, hx, _, hg, _⟩
        · subst hx; simp [RowS, Value.ownBlock] at hi
        · subst hx
          simp [RowS, Value.ownBlock] at hi
          subst hi
          rw [hg] at hcur
          cases hcur
    refine ⟨_, _, _, _, _, he, g7.block ch (by omega) (fun h => (nS _ h).1 rfl), g7.block nb (by omega) (fun h => (nS _ h).2 rfl), g7.size, ?_⟩
    refine ⟨by simp [hb], by simp [hdl], hj.pars.keep g7 nB, hj.frm.trans g7 fun i hi h => ?_, v', outs ++ [(p0.1, .slice a' p0.2.length c')], g1, by simp [q2], ?_, ?_, ?_⟩
    · rcases h with h | h
      · exact .inr h
      · have := q4 i h; omega
    · rw [← outCells_snoc, List.length_append]; exact g2
    · exact q4.fresh hsz g3
    · intro i q p hq hp
      rcases Nat.lt_or_ge i outs.length with hi | hi
      · rw [List.getElem?_append_left hi] at hq
        refine (q5 i q p hq hp).keep g7 fun i hi => ?_
        rcases nB i hi with h | h
        · exact .inl (by omega)
        · exact .inr h
      · have hi2 : i = outs.length := by
          rcases Nat.lt_or_ge i (outs.length + 1) with h | h
          · omega
          · rw [List.getElem?_eq_none (by simp; omega)] at hq; cases hq
        subst hi2
        simp at hq
        subst hq
        have hd2 : outs.length = d.length := by omega
        rw [hd2, hlk] at hp
        cases hp
        exact ⟨rfl, h3, a', c', rfl, g5, fun k hk => by have := g6 k hk; omega⟩

set_option maxRecDepth 1000000 in
theorem all_any (w : World) (nb ch cap : Nat) (buf : List Value) (l : List Par) (h : NetAt w nb ch cap buf l) :
    Calls Try.prog 25 #[.pointer (some ⟨nb, 0, none⟩)] w fun e w' => ∃ v outs, e = .returned v ∧ NetAt w' nb ch cap buf l ∧ Frm (fun i => i = ch) w w' ∧ outs.length = l.length ∧ OutsAt w w' v outs l := by
  have hf : Frm (fun _ => False) w (w.alloc (.cells #[.slice none 0 0] 47)) := Frm.alloc _ w _
  have h1 := h.keep0 hf
  have ho := heap_alloc_new w (.cells #[.slice none 0 0] 47)
  have hcl := h.clt
  have hnl := h.nlt
  have hb := h.pars.1
  have hJ := allJ (w.alloc (.cells #[.slice none 0 0] 47)) nb ch w.heap.size cap buf l h1 (lt_of_block ho) (by omega) (by omega)
  obtain ⟨s, r, hc⟩ := h1.chan
  have hcapb := h.capb
  have hturn := turn_any nb ch cap s r buf _ h1.cell hc h.room (by omega) 51 #[.pointer (some ⟨w.heap.size, 0, none⟩)] _ Try.func51 (by kernel_rfl) (by kernel_rfl) _ hJ
    ⟨rfl, rfl, h1.pars, Frm.refl _ _, .slice none 0 0, [], ho, rfl, ⟨World.ownsRow_nil _ 0 _ 2, fun k hk => by simp [Value.ownBlock] at hk, fun i q p hq _ => by simp at hq⟩⟩
  have HT := Lib.hid hturn; clear hturn
  have H := Lib.hid h; clear h
  have H1 := Lib.hid h1; clear h1
  have HF := Lib.hid hf; clear hf
  have HC := Lib.hid hc; clear hc
  have HO := Lib.hid ho; clear ho
  have HB := Lib.hid hb; clear hb
  clear hJ
  go_enter Try.func25, Try.ntmps25
  go_wp2_with fail
  refine HT.out.mono ?_
  rintro e w' ⟨rfl, d, s', r', hd, hch, hj⟩
  obtain ⟨v, outs, q1, q2, q3⟩ := hj.out
  have hbu : buf = d := by have := hj.bufs; simpa using this
  have hfr := hj.frm
  have hpr := hj.pars
  have c0 : w'.cell? ⟨w.heap.size, 0, none⟩ = some v := cell_at q1 0 rfl
  have HCH := Lib.hid hch; clear hch
  have HFR := Lib.hid hfr; clear hfr
  have HPR := Lib.hid hpr; clear hpr
  have Q3 := Lib.hid q3; clear q3
  have Q2 := Lib.hid q2; clear q2
  have HBU := Lib.hid hbu; clear hbu
  clear q1 hj
  go_wp2
  go_ret
  have hw : Frm (fun i => i = ch) w w' := ((HF.out.mono fun _ _ h => h.elim).trans HFR.out fun i hi hs => hs.elim id fun h => by omega)
  refine ⟨v, outs, rfl, ⟨hw.cell' H.out.cell (fun h => H.out.ne h), ⟨s', r', by rw [HBU.out]; exact HCH.out⟩, HPR.out, H.out.room, H.out.capb⟩, hw, by rw [Q2.out, HB.out], ⟨Q3.out.own, fun k hk => ?_, fun i q p hq hp => ?_⟩⟩
  · have := Q3.out.new k hk; have := HF.out.size; omega
  · obtain ⟨k1, k2, a, c, k3, k4, k5⟩ := Q3.out.all i q p hq hp
    exact ⟨k1, k2, a, c, k3, k4, fun k hk => by have := k5 k hk; have := HF.out.size; omega⟩

set_option maxRecDepth 1000000 in
theorem all_nil (w : World) : Calls Try.prog 25 #[.pointer none] w fun e w' => e = .returned (.slice none 0 0) ∧ Frm (fun _ => False) w w' := by
  go_enter Try.func25, Try.ntmps25
  go_wp2
  go_ret
  exact ⟨rfl, Frm.alloc _ w _⟩

end Go.Proofs.Ytclihppeaikhiaa
