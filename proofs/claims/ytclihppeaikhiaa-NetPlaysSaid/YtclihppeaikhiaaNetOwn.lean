/- tributarylaw26.NetOwn: what lies apart; the walk. -/
import Derived.Test.YtclihppeaikhiaaNetDouble
import Derived.Test.YtclihppeaikhiaaReg
namespace Go.Proofs.Ytclihppeaikhiaa
open Go.RowKit

theorem NetAt.chanNo {w : World} {nb ch cap : Nat} {buf : List Value} {l : List Par} (h : NetAt w nb ch cap buf l) (b : Nat) : NoBytes w b (fun i => i = ch) := fun i hi => .inr fun cur hc => by
  obtain ⟨s, r, hx⟩ := h.chan
  have h1 : i = ch := hi
  rw [h1, hx] at hc
  cases hc

/-- Send; what lay apart from the parcels still does. -/
theorem send_new (w : World) (nb ch cap : Nat) (buf : List Value) (l : List Par) (t : Int) (v : Value) (bs : List UInt8) (h : NetAt w nb ch cap buf l) (hroom : l.length < cap) (hv : Rd w v bs.length (bV bs)) (hl : bs.length ≤ 140737488355328) :
    Calls Try.prog 22 #[.pointer (some ⟨nb, 0, none⟩), .agg #[.int .i64 t, v]] w fun e w' => e = .returned (.int .i64 0) ∧ ∃ x, NetAt w' nb ch cap (buf ++ [x]) (l ++ [(t, bs)]) ∧ Frm (fun i => i = ch) w w' ∧
      ∀ b, b < w.heap.size → ParsAt w b buf l → ParsAt w' b (buf ++ [x]) (l ++ [(t, bs)]) := by
  obtain ⟨s, r, hc⟩ := h.chan
  have hb := h.pars.1
  refine (send_room nb ch cap s r t v bs buf w h.cell hc (by omega) hv hl).mono ?_
  rintro e w' ⟨he, v', w1, hcp, f, hch⟩
  obtain ⟨a, c, rfl⟩ := hcp.shape
  have h1 := h.keep0 hcp.frm
  have hw : Frm (fun i => i = ch) w w' := (hcp.frm.mono fun _ _ h => h.elim).trans f fun _ _ h => h
  have hcl := h.clt
  have hx : ∀ b, b < w.heap.size → ParAt w1 b (.agg #[.int .i64 t, .slice a bs.length c]) (t, bs) := fun b hb => ⟨a, c, rfl, hcp.own, hl, fun k hk => by have := hcp.new k hk; omega⟩
  refine ⟨he, _, ⟨f.cell' h1.cell (fun h' => h1.ne h'), ⟨_, _, hch⟩, (h1.pars.snoc (hx ch hcl)).keep f (noBytes_ch _ _), by simp; omega, h.capb⟩, hw, fun b hb hp => ?_⟩
  exact ((hp.keep hcp.frm (noBytes_none _ _)).snoc (hx b hb)).keep f (h1.chanNo b)

set_option maxHeartbeats 1000000 in
set_option maxRecDepth 1000000 in
theorem double_new (w : World) (nb ch cap K : Nat) (buf : List Value) (l : List Par) (p : Par) (h : NetAt w nb ch cap buf l) (hp : l[K]? = some p) (hroom : l.length < cap) :
    Calls Try.prog 42 #[.pointer (some ⟨nb, 0, none⟩), .int .i64 K] w fun e w' => e = .returned (.int .i64 0) ∧ (∃ x, NetAt w' nb ch cap (buf ++ [x]) (l ++ [p]) ∧
      ∀ b, b < w.heap.size → ParsAt w b buf l → ParsAt w' b (buf ++ [x]) (l ++ [p])) ∧ Frm (fun i => i = ch) w w' := by
  have hkl : K < l.length := len_of_some hp
  have hthere := there_ok nb ch cap buf l K _ h hkl
  have hall := all_any w nb ch cap buf l h
  have HTH := Lib.hid hthere; clear hthere
  have HALL := Lib.hid hall; clear hall
  have H := Lib.hid h; clear h
  have HP := Lib.hid hp; clear hp
  go_enter Try.func42, Try.ntmps42
  go_wp2_with (go_at_call 48; refine HTH.out.mono ?_; rintro e w' ⟨rfl, rfl⟩)
  refine HALL.out.mono ?_
  rintro e w1 ⟨v, outs, rfl, hn1, hf1, hol, hoa⟩
  obtain ⟨q, hq⟩ : ∃ q, outs[K]? = some q := ⟨_, List.getElem?_eq_getElem (by omega)⟩
  obtain ⟨a, c, rfl⟩ := own_shape hoa.own
  obtain ⟨g, rfl, _, c0, c1⟩ := hoa.get hq
  obtain ⟨k1, k2, a2, c2, k3, k4, _⟩ := hoa.all K q p hq HP.out
  rw [k1] at c0
  rw [k3] at c1
  have hkk : (K : Int) < outs.length := by omega
  have hs := send_new w1 nb ch cap buf l p.1 (.slice a2 p.2.length c2) p.2 hn1 hroom (Rd.own k4) k2
  have HS := Lib.hid hs; clear hs
  have HF1 := Lib.hid hf1; clear hf1
  clear hoa hq k1 k3 k4 hn1 hol
  go_wp2_with (go_at_call 22; refine HS.out.mono ?_; rintro e w2 ⟨rfl, x, hn2, hf2, hap⟩; have HN2 := Lib.hid hn2; clear hn2; have HF2 := Lib.hid hf2; clear hf2; have HAP := Lib.hid hap; clear hap)
  go_ret
  refine ⟨rfl, ⟨x, HN2.out, fun b hb hp => HAP.out b (by have := HF1.out.size; omega) (hp.keep HF1.out (H.out.chanNo b))⟩, HF1.out.trans HF2.out fun _ _ h => h⟩

theorem ParsAt.keepRow {w w' : World} {ch : Nat} {buf : List Value} {l : List Par} (h : ParsAt w ch buf l) {S : Nat → Prop} (f : Frm S w w') (hs : ∀ k, S k → ParsAt w k buf l) : ParsAt w' ch buf l := by
  refine ⟨h.1, fun i x p hx hp => ?_⟩
  obtain ⟨a, c, rfl, h1, h2, h3⟩ := h.2 i x p hx hp
  refine ⟨a, c, rfl, f.owns h1 fun k hk hsk => ?_, h2, h3⟩
  obtain ⟨a', c', he, _, _, h6⟩ := (hs k hsk).2 i _ p hx hp
  simp only [Value.agg.injEq, Array.mk.injEq, List.cons.injEq, Value.slice.injEq, true_and, and_true] at he
  obtain ⟨rfl, rfl⟩ := he
  exact h6 k hk rfl

/-- All that NetOwn's loops leave as it is. -/
structure OwnInv (W : World) (nb ch : Nat) (buf : List Value) (l : List Par) (n : Nat) (ax : Option Addr) (cx g : Nat) (ag : Option Addr) (c2 : Nat) (wr : World) : Prop where
  net : NetAt wr nb ch 3 buf l
  rowx : ∃ cs : List UInt8, cs.length = n ∧ wr.ownsRow 0 5 1 (.slice ax n cx) n (bV cs)
  rowg : ∃ cs : List UInt8, cs.length = n ∧ wr.ownsRow 0 5 1 (.slice ag n c2) n (bV cs)
  cell : wr.cell? ⟨g, 1, none⟩ = some (.slice ag n c2)
  sepx : ∀ k, (Value.slice ax n cx).ownBlock = some k → ParsAt wr k buf l ∧ W.heap.size ≤ k ∧ k ≠ ch ∧ k ≠ nb ∧ k ≠ g
  sepg : ∀ k, (Value.slice ag n c2).ownBlock = some k → ParsAt wr k buf l ∧ W.heap.size ≤ k ∧ k ≠ ch ∧ k ≠ nb ∧ k ≠ g
  apart : ∀ k, (Value.slice ax n cx).ownBlock = some k → (Value.slice ag n c2).ownBlock ≠ some k
  frm : Frm (fun _ => False) W wr

theorem own_row_set {w : World} {g n c i : Nat} {cs : List UInt8} (h : w.ownsRow 0 5 1 (.slice (some ⟨g, 0, none⟩) n c) n (bV cs)) (hn : cs.length = n) (b : UInt8) :
    (w.setCell ⟨g, i, none⟩ (.int .u8 (b.toNat : Int))).ownsRow 0 5 1 (.slice (some ⟨g, 0, none⟩) n c) n (bV (cs.set i b)) := by
  rcases h.2 with ⟨hx, _⟩ | ⟨g', cp, cur, hx, _, hg, hnn, hcc, hcs, ht⟩
  · cases hx
  · simp only [Value.slice.injEq, Option.some.injEq, Addr.mk.injEq, true_and, and_true] at hx
    obtain ⟨rfl, rfl⟩ := hx
    exact own_set hg hn hnn hcc (by simpa using hcs) (by simpa using ht) b
theorem own_row_cell {w : World} {g n c i : Nat} {cs : List UInt8} (h : w.ownsRow 0 5 1 (.slice (some ⟨g, 0, none⟩) n c) n (bV cs)) (hn : cs.length = n) (hi : i < n) :
    w.cell? ⟨g, i, none⟩ = some (.int .u8 ((cs.getD i 0).toNat : Int)) ∧ w.frozen? ⟨g, i, none⟩ = false := by
  have h1 : (bV cs)[i]? = some (.int .u8 ((cs.getD i 0).toNat : Int)) := by simp [bV, List.getD, hn, hi]
  have h2 := h.cells (g := g) rfl i _ h1
  rw [addr_add, Nat.zero_add] at h2
  refine ⟨h2, ?_⟩
  rcases h.2 with ⟨hx, _⟩ | ⟨g', cp, cur, hx, _, hg, _⟩
  · cases hx
  · simp only [Value.slice.injEq, Option.some.injEq, Addr.mk.injEq, true_and, and_true] at hx
    obtain ⟨rfl, _⟩ := hx
    exact free_at hg i
/-- The slice of a row with elements. -/
theorem own_some {w : World} {a : Option Addr} {n c : Nat} {xs : List Value} (h : w.ownsRow 0 5 1 (.slice a n c) n xs) (hn : 0 < n) : ∃ g, a = some ⟨g, 0, none⟩ := by
  rcases h.2 with ⟨hx, _⟩ | ⟨g', cp, cur, hx, _⟩
  · simp at hx; omega
  · simp only [Value.slice.injEq] at hx
    exact ⟨_, hx.1⟩
theorem OwnInv.setx {W : World} {nb ch : Nat} {buf : List Value} {l : List Par} {n xb cx g c2 : Nat} {ag : Option Addr} {wr : World} (h : OwnInv W nb ch buf l n (some ⟨xb, 0, none⟩) cx g ag c2 wr) (i : Nat) (b : UInt8) : OwnInv W nb ch buf l n (some ⟨xb, 0, none⟩) cx g ag c2 (wr.setCell ⟨xb, i, none⟩ (.int .u8 (b.toNat : Int))) := by
  have f : Frm (fun k => k = xb) wr (wr.setCell ⟨xb, i, none⟩ (.int .u8 (b.toNat : Int))) := Frm.setCell (S := fun k => k = xb) wr (p := ⟨xb, i, none⟩) (.inl rfl) _
  obtain ⟨s1, s2, s3, s4, s5⟩ := h.sepx xb rfl
  have hs : ∀ k, k = xb → ParsAt wr k buf l := fun k hk => by rw [hk]; exact s1
  obtain ⟨s, r, hc⟩ := h.net.chan
  obtain ⟨cs, hn, hx⟩ := h.rowx
  obtain ⟨cs2, hn2, hg⟩ := h.rowg
  exact ⟨⟨f.cell' h.net.cell (fun e => s4 e.symm), ⟨s, r, f.blk hc (fun e => s3 e.symm)⟩, h.net.pars.keepRow f hs, h.net.room, h.net.capb⟩,
    ⟨_, by simpa using hn, own_row_set hx hn b⟩, ⟨cs2, hn2, f.owns hg fun k hk e => by have e1 : k = xb := e; subst e1; exact h.apart k rfl hk⟩, f.cell' h.cell (fun e => s5 e.symm),
    fun k hk => ⟨(h.sepx k hk).1.keepRow f hs, (h.sepx k hk).2⟩, fun k hk => ⟨(h.sepg k hk).1.keepRow f hs, (h.sepg k hk).2⟩, h.apart, h.frm.trans f fun k hk e => by have e1 : k = xb := e; omega⟩
theorem OwnInv.setg {W : World} {nb ch : Nat} {buf : List Value} {l : List Par} {n cx g gb c2 : Nat} {ax : Option Addr} {wr : World} (h : OwnInv W nb ch buf l n ax cx g (some ⟨gb, 0, none⟩) c2 wr) (i : Nat) (b : UInt8) : OwnInv W nb ch buf l n ax cx g (some ⟨gb, 0, none⟩) c2 (wr.setCell ⟨gb, i, none⟩ (.int .u8 (b.toNat : Int))) := by
  have f : Frm (fun k => k = gb) wr (wr.setCell ⟨gb, i, none⟩ (.int .u8 (b.toNat : Int))) := Frm.setCell (S := fun k => k = gb) wr (p := ⟨gb, i, none⟩) (.inl rfl) _
  obtain ⟨s1, s2, s3, s4, s5⟩ := h.sepg gb rfl
  have hs : ∀ k, k = gb → ParsAt wr k buf l := fun k hk => by rw [hk]; exact s1
  obtain ⟨s, r, hc⟩ := h.net.chan
  obtain ⟨cs, hn, hx⟩ := h.rowx
  obtain ⟨cs2, hn2, hg⟩ := h.rowg
  exact ⟨⟨f.cell' h.net.cell (fun e => s4 e.symm), ⟨s, r, f.blk hc (fun e => s3 e.symm)⟩, h.net.pars.keepRow f hs, h.net.room, h.net.capb⟩,
    ⟨cs, hn, f.owns hx fun k hk e => by have e1 : k = gb := e; subst e1; exact h.apart k hk rfl⟩, ⟨_, by simpa using hn2, own_row_set hg hn2 b⟩, f.cell' h.cell (fun e => s5 e.symm),
    fun k hk => ⟨(h.sepx k hk).1.keepRow f hs, (h.sepx k hk).2⟩, fun k hk => ⟨(h.sepg k hk).1.keepRow f hs, (h.sepg k hk).2⟩, h.apart, h.frm.trans f fun k hk e => by have e1 : k = gb := e; omega⟩

def OwnRel (W : World) (nb ch : Nat) (buf : List Value) (l : List Par) (n : Nat) (ax : Option Addr) (cx g : Nat) (ag : Option Addr) (c2 : Nat) (i : Value) (wr : World) : Prop :=
  ∃ k : Nat, k ≤ n ∧ i = .int .i64 k ∧ OwnInv W nb ch buf l n ax cx g ag c2 wr

end Go.Proofs.Ytclihppeaikhiaa
