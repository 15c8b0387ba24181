/- net: Spoil, Double: the walks. -/
import Derived.Test.YtclihppeaikhiaaNetSpoil
namespace Go.Proofs.Ytclihppeaikhiaa
open Go.RowKit

def spoilIdx (at_ : Int) (n : Nat) : Nat := (at_ % (n : Int)).toNat
theorem spoilIdx_lt (at_ : Int) {n : Nat} (h : 0 < n) : spoilIdx at_ n < n := by
  have h1 := Int.emod_nonneg at_ (show (n : Int) ≠ 0 by omega)
  have h2 := Int.emod_lt_of_pos at_ (show 0 < (n : Int) by omega)
  unfold spoilIdx
  omega
theorem spoilIdx_go (at_ : Int) {n : Nat} (h : 0 < n) : (at_.tmod n + n).tmod n = (spoilIdx at_ n : Int) := by
  have h1 := Int.emod_nonneg at_ (show (n : Int) ≠ 0 by omega)
  have h2 : (at_.tmod n).natAbs < n := by
    rw [Int.natAbs_tmod]; exact Nat.mod_lt _ (by simpa using h)
  rw [Int.tmod_eq_emod_of_nonneg (by omega)]
  unfold spoilIdx
  rw [Int.toNat_of_nonneg h1, Int.add_emod_right]
  have h3 := Int.emod_emod_of_dvd at_ (Int.dvd_refl (n : Int))
  rw [Int.tmod_eq_emod]
  split
  · rw [show (((0 : Nat) : Int)) = 0 from rfl, Int.sub_zero]; exact h3
  · have h4 : ((n : Int).natAbs : Int) = n := by omega
    rw [h4, Int.sub_emod, Int.emod_self, Int.sub_zero, Int.emod_emod_of_dvd _ (Int.dvd_refl _)]
    exact h3
def spoilB (at_ : Int) (x : UInt8) (bs : List UInt8) : List UInt8 := bs.set (spoilIdx at_ bs.length) (bs.getD (spoilIdx at_ bs.length) 0 ^^^ x)
theorem spoilB_length (at_ : Int) (x : UInt8) (bs : List UInt8) : (spoilB at_ x bs).length = bs.length := by simp [spoilB]
def spoilP (at_ : Int) (x : UInt8) (p : Par) : Par := (p.1, spoilB at_ x p.2)

/-- What Spoil's closure keeps. -/
structure SpoilJ (w0 : World) (ch K : Nat) (buf : List Value) (l : List Par) (p' : Par) (k : Nat) (d r : List Value) (w : World) : Prop where
  left : r = buf.drop k
  pars : ParsAt w ch buf l
  frm : Frm (fun i => i = ch) w0 w
  done : ∃ y, d = (buf.take k).set K y ∧ (K < k → ParAt w ch y p')

theorem ParsAt.set {w : World} {ch : Nat} {buf : List Value} {l : List Par} (h : ParsAt w ch buf l) (K : Nat) {y : Value} {p : Par} (hy : ParAt w ch y p) : ParsAt w ch (buf.set K y) (l.set K p) := by
  refine ⟨by simp [h.1], fun i x q hx hq => ?_⟩
  rw [List.getElem?_set] at hx hq
  split at hx
  · rename_i hi
    rw [if_pos hi] at hq
    split at hx
    · split at hq
      · cases hx; cases hq; exact hy
      · cases hq
    · cases hx
  · rename_i hi; rw [if_neg hi] at hq; exact h.2 _ _ _ hx hq

set_option maxRecDepth 100000 in
theorem spoilJ (w0 : World) (nb ch kb ab bb cap K : Nat) (at_ : Int) (x : UInt8) (p : Par) (buf : List Value) (l : List Par) (h : NetAt w0 nb ch cap buf l) (hp : l[K]? = some p) (hkc : kb ≠ ch) (hac : ab ≠ ch) (hbc : bb ≠ ch)
    (hkb : w0.heap[kb]? = some (.cells #[.int .i64 K] 3 (0, 0))) (hab : w0.heap[ab]? = some (.cells #[.int .i64 at_] 3 (0, 0))) (hbb : w0.heap[bb]? = some (.cells #[.int .u8 (x.toNat : Int)] 5 (0, 0))) :
    TurnJ 58 #[.pointer (some ⟨kb, 0, none⟩), .pointer (some ⟨ab, 0, none⟩), .pointer (some ⟨bb, 0, none⟩)] nb ch (SpoilJ w0 ch K buf l (spoilP at_ x p)) := by
  have hcl := h.clt
  have hnl := h.nlt
  refine ⟨?_, ?_, ?_⟩
  · intro k d r w w' hj f
    obtain ⟨y, q1, q2⟩ := hj.done
    exact ⟨hj.left, hj.pars.keep f (noBytes_ch _ _), hj.frm.trans f fun i _ h => h, y, q1, fun h => (q2 h).keep f (noBytes_ch _ _)⟩
  · intro k d q r w hj
    obtain ⟨hk, _⟩ := drop_cons hj.left
    have hlt : k < l.length := by rw [← hj.pars.1]; exact len_of_some hk
    obtain ⟨a, c, h1, _⟩ := hj.pars.2 _ _ _ hk (List.getElem?_eq_getElem hlt)
    exact ⟨_, _, _, _, h1⟩
  · intro k d q r w hj
    obtain ⟨hk, hr⟩ := drop_cons hj.left
    have hlt : k < l.length := by rw [← hj.pars.1]; exact len_of_some hk
    obtain ⟨p0, hlk⟩ : ∃ p0, l[k]? = some p0 := ⟨_, List.getElem?_eq_getElem hlt⟩
    have hpar := hj.pars.2 _ _ _ hk hlk
    obtain ⟨a, c, rfl, h2, h3, h4⟩ := id hpar
    obtain ⟨y, q1, q2⟩ := hj.done
    have hsz := hj.frm.size
    have hkl : k < buf.length := len_of_some hk
    have hkb' := hj.frm.blk hkb (fun h => hkc h)
    have hab' := hj.frm.blk hab (fun h => hac h)
    have hbb' := hj.frm.blk hbb (fun h => hbc h)
    by_cases hK : k = K ∧ 0 < p0.2.length
    · obtain ⟨rfl, hpos⟩ := hK
      rw [hp] at hlk
      cases hlk
      refine (spoil1_hit w k at_ _ x a c _ kb ab bb hkb' hab' hbb' (Rd.own h2) h3 hpos (spoilIdx at_ p.2.length) (spoilIdx_go at_ hpos) (spoilIdx_lt at_ hpos)).mono ?_
      rintro e w' ⟨a', c', he, g1, g2, g3⟩
      refine ⟨_, _, _, _, true, he, g3.block ch (by omega) id, g3.block nb (by omega) id, g3.size, ?_⟩
      refine ⟨hr, hj.pars.keep g3 (noBytes_none _ _), hj.frm.trans g3 fun i _ h => h.elim, .agg #[.int .i64 p.1, .slice a' p.2.length c'], ?_, fun _ => ⟨a', c', by rw [spoilP, spoilB_length], ?_, ?_, ?_⟩⟩
      · rw [if_pos rfl, q1, take_snoc' hk, List.set_append_right _ _ (by simp; omega), List.set_eq_of_length_le (by simp; omega)]
        simp [Nat.min_eq_left (Nat.le_of_lt hkl)]
      · simp only [spoilP]
        rw [spoilB_length]
        exact g1
      · simp only [spoilP]
        rw [spoilB_length]
        exact h3
      · simp only [spoilP]
        rw [spoilB_length]
        intro k' hk'
        have := g2 k' hk'
        omega
    · refine (spoil1_miss w k K _ a _ c kb ab bb hkb' (by omega)).mono ?_
      rintro e w' ⟨he, g2⟩
      refine ⟨_, _, _, _, true, he, g2.block ch (by omega) id, g2.block nb (by omega) id, g2.size, ?_⟩
      by_cases hk2 : k = K
      · subst hk2
        rw [hp] at hlk
        cases hlk
        have h0 : p.2.length = 0 := by omega
        have hpp : spoilP at_ x p = p := by
          have : p.2 = [] := List.eq_nil_of_length_eq_zero h0
          simp [spoilP, spoilB, this]
          rw [← this]
        refine ⟨hr, hj.pars.keep g2 (noBytes_none _ _), hj.frm.trans g2 fun i _ h => h.elim, .agg #[.int .i64 p.1, .slice a p.2.length c], ?_, fun _ => ?_⟩
        · rw [if_pos rfl, q1, take_snoc' hk, List.set_append_right _ _ (by simp; omega), List.set_eq_of_length_le (by simp; omega)]
          simp [Nat.min_eq_left (Nat.le_of_lt hkl)]
        · rw [hpp]; exact hpar.keep g2 (noBytes_none _ _)
      · refine ⟨hr, hj.pars.keep g2 (noBytes_none _ _), hj.frm.trans g2 fun i _ h => h.elim, y, ?_, fun h => (q2 (by omega)).keep g2 (noBytes_none _ _)⟩
        rw [if_pos rfl, q1, take_snoc' hk]
        by_cases hlt2 : K < k
        · rw [List.set_append_left _ _ (by simp; omega)]
        · rw [List.set_eq_of_length_le (by simp; omega), List.set_eq_of_length_le (by simp; omega)]

set_option maxHeartbeats 1000000 in
set_option maxRecDepth 1000000 in
theorem spoil_ok (w : World) (nb ch cap K : Nat) (at_ : Int) (x : UInt8) (buf : List Value) (l : List Par) (p : Par) (h : NetAt w nb ch cap buf l) (hp : l[K]? = some p) :
    Calls Try.prog 43 #[.pointer (some ⟨nb, 0, none⟩), .int .i64 K, .int .i64 at_, .int .u8 (x.toNat : Int)] w fun e w' => e = .returned (.int .i64 0) ∧ ∃ buf', NetAt w' nb ch cap buf' (l.set K (spoilP at_ x p)) ∧ Frm (fun i => i = ch) w w' := by
  have hkl : K < l.length := len_of_some hp
  have hf : Frm (fun _ => False) w (((w.alloc (.cells #[.int .i64 K] 3)).alloc (.cells #[.int .i64 at_] 3)).alloc (.cells #[.int .u8 (x.toNat : Int)] 5)) := ((Frm.alloc _ w _).trans (Frm.alloc _ _ _) fun _ _ h => h).trans (Frm.alloc _ _ _) fun _ _ h => h
  have b0 : (((w.alloc (.cells #[.int .i64 K] 3)).alloc (.cells #[.int .i64 at_] 3)).alloc (.cells #[.int .u8 (x.toNat : Int)] 5)).heap[w.heap.size]? = some (.cells #[.int .i64 K] 3 (0, 0)) := by
    rw [Below.heap_alloc _ _ _ (by simp; omega), Below.heap_alloc _ _ _ (by simp)]; exact heap_alloc_new w _
  have b1 : (((w.alloc (.cells #[.int .i64 K] 3)).alloc (.cells #[.int .i64 at_] 3)).alloc (.cells #[.int .u8 (x.toNat : Int)] 5)).heap[w.heap.size + 1]? = some (.cells #[.int .i64 at_] 3 (0, 0)) := by
    rw [Below.heap_alloc _ _ _ (by simp)]
    have := heap_alloc_new (w.alloc (.cells #[.int .i64 K] 3)) (.cells #[.int .i64 at_] 3)
    simpa only [World.size_alloc] using this
  have b2 : (((w.alloc (.cells #[.int .i64 K] 3)).alloc (.cells #[.int .i64 at_] 3)).alloc (.cells #[.int .u8 (x.toNat : Int)] 5)).heap[w.heap.size + 1 + 1]? = some (.cells #[.int .u8 (x.toNat : Int)] 5 (0, 0)) := by
    have := heap_alloc_new ((w.alloc (.cells #[.int .i64 K] 3)).alloc (.cells #[.int .i64 at_] 3)) (.cells #[.int .u8 (x.toNat : Int)] 5)
    simpa only [World.size_alloc] using this
  have hB := h.keep0 hf
  have hthere := there_ok nb ch cap buf l K _ hB hkl
  have hcl := h.clt
  have hnl := h.nlt
  have hJ := spoilJ _ nb ch w.heap.size (w.heap.size + 1) (w.heap.size + 1 + 1) cap K at_ x p buf l hB hp (by omega) (by omega) (by omega) b0 b1 b2
  obtain ⟨s, r, hc⟩ := hB.chan
  have hcapb := h.capb
  have hturn := turn_any nb ch cap s r buf _ hB.cell hc h.room (by omega) 58 #[.pointer (some ⟨w.heap.size, 0, none⟩), .pointer (some ⟨w.heap.size + 1, 0, none⟩), .pointer (some ⟨w.heap.size + 1 + 1, 0, none⟩)] _ Try.func58 (by kernel_rfl) (by kernel_rfl) _ hJ
    ⟨rfl, hB.pars, Frm.refl _ _, .nilIface, rfl, fun h => by omega⟩
  have HT := Lib.hid hturn; clear hturn
  have HTH := Lib.hid hthere; clear hthere
  have H := Lib.hid h; clear h
  have HP := Lib.hid hp; clear hp
  have HF := Lib.hid hf; clear hf
  clear hJ hB b0 b1 b2 hc
  go_enter Try.func43, Try.ntmps43
  go_wp2_with (go_at_call 48; refine HTH.out.mono ?_; rintro e w' ⟨rfl, rfl⟩)
  refine HT.out.mono ?_
  rintro e w' ⟨rfl, d, s', r', hd, hch, hj⟩
  have HCH := Lib.hid hch; clear hch
  have HJ := Lib.hid hj; clear hj
  have HD := Lib.hid hd; clear hd
  go_wp2
  go_ret
  have hj := HJ.out
  have hfr := hj.frm
  obtain ⟨y, hdy, hpy⟩ := hj.done
  have hlen := hj.pars.1
  have hpy' := hpy (by omega)
  rw [List.take_length] at hdy
  have hw : Frm (fun i => i = ch) w w' := (HF.out.mono fun _ _ h => h.elim).trans hfr fun i hi hs => hs
  subst hdy
  refine ⟨rfl, _, ⟨hw.cell' H.out.cell (fun h => H.out.ne h), ⟨s', r', HCH.out⟩, hj.pars.set K hpy', by simp; exact H.out.room, H.out.capb⟩, hw⟩

set_option maxRecDepth 1000000 in
theorem spoil_no (w : World) (nb ch cap : Nat) (k at_ : Int) (x : UInt8) (buf : List Value) (l : List Par) (h : NetAt w nb ch cap buf l) (hk : k < 0 ∨ (l.length : Int) ≤ k) :
    Calls Try.prog 43 #[.pointer (some ⟨nb, 0, none⟩), .int .i64 k, .int .i64 at_, .int .u8 (x.toNat : Int)] w fun e w' => e = .returned (.int .i64 7) ∧ Frm (fun _ => False) w w' := by
  have hf : Frm (fun _ => False) w (((w.alloc (.cells #[.int .i64 k] 3)).alloc (.cells #[.int .i64 at_] 3)).alloc (.cells #[.int .u8 (x.toNat : Int)] 5)) := ((Frm.alloc _ w _).trans (Frm.alloc _ _ _) fun _ _ h => h).trans (Frm.alloc _ _ _) fun _ _ h => h
  have hthere := there_no nb ch cap buf l k _ (h.keep0 hf) hk
  have HTH := Lib.hid hthere; clear hthere
  clear h hk
  go_enter Try.func43, Try.ntmps43
  go_wp2_with (go_at_call 48; refine HTH.out.mono ?_; rintro e w' ⟨rfl, rfl⟩)
  go_ret
  exact ⟨rfl, hf⟩
set_option maxRecDepth 1000000 in
theorem spoil_nil (w : World) (k at_ : Int) (x : UInt8) :
    Calls Try.prog 43 #[.pointer none, .int .i64 k, .int .i64 at_, .int .u8 (x.toNat : Int)] w fun e w' => e = .returned (.int .i64 1) ∧ Frm (fun _ => False) w w' := by
  have hf : Frm (fun _ => False) w (((w.alloc (.cells #[.int .i64 k] 3)).alloc (.cells #[.int .i64 at_] 3)).alloc (.cells #[.int .u8 (x.toNat : Int)] 5)) := ((Frm.alloc _ w _).trans (Frm.alloc _ _ _) fun _ _ h => h).trans (Frm.alloc _ _ _) fun _ _ h => h
  have hthere := there_nil k (((w.alloc (.cells #[.int .i64 k] 3)).alloc (.cells #[.int .i64 at_] 3)).alloc (.cells #[.int .u8 (x.toNat : Int)] 5))
  have HTH := Lib.hid hthere; clear hthere
  go_enter Try.func43, Try.ntmps43
  go_wp2_with (go_at_call 48; refine HTH.out.mono ?_; rintro e w' ⟨rfl, rfl⟩)
  go_ret
  exact ⟨rfl, hf⟩

/-! ### Double -/
theorem outCells_get : ∀ (outs : List (Int × Value)) (K : Nat) (q : Int × Value), outs[K]? = some q → (outCells outs)[K * 2]? = some (.int .i64 q.1) ∧ (outCells outs)[K * 2 + 1]? = some q.2
  | [], _, _, h => by simp at h
  | q0 :: r, 0, q, h => by simp at h; subst h; exact ⟨rfl, rfl⟩
  | q0 :: r, K + 1, q, h => by
    have h1 := outCells_get r K q (by simpa using h)
    have e : outCells (q0 :: r) = .int .i64 q0.1 :: q0.2 :: outCells r := rfl
    rw [e, show (K + 1) * 2 = K * 2 + 1 + 1 by omega]
    exact ⟨by simpa using h1.1, by simpa using h1.2⟩
theorem OutsAt.get {w0 w : World} {a : Option Addr} {n c : Nat} {outs : List (Int × Value)} {l : List Par} (h : OutsAt w0 w (.slice a n c) outs l) {K : Nat} {q : Int × Value} (hq : outs[K]? = some q) :
    ∃ g, a = some ⟨g, 0, none⟩ ∧ w0.heap.size ≤ g ∧ w.cell? ⟨g, K * 2, none⟩ = some (.int .i64 q.1) ∧ w.cell? ⟨g, K * 2 + 1, none⟩ = some q.2 := by
  obtain ⟨h1, h2⟩ := outCells_get outs K q hq
  rcases h.own.2 with ⟨hx, hn⟩ | ⟨g, cp, cur, hx, _⟩
  · have h3 := len_of_some hq; omega
  · simp only [Value.slice.injEq] at hx
    obtain ⟨rfl, rfl, rfl⟩ := hx
    have hnew := h.new g rfl
    have c1 := h.own.cells (g := g) rfl (K * 2) _ h1
    have c2 := h.own.cells (g := g) rfl (K * 2 + 1) _ h2
    rw [addr_add, Nat.zero_add] at c1 c2
    exact ⟨g, rfl, hnew, c1, c2⟩

end Go.Proofs.Ytclihppeaikhiaa
