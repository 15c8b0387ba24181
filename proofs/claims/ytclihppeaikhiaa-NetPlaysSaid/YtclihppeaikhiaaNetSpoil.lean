/- net: Spoil's closure, Spoil, Double: the walks. -/
import Derived.Test.YtclihppeaikhiaaNetOrder
namespace Go.Proofs.Ytclihppeaikhiaa
open Go.RowKit

set_option maxHeartbeats 1000000 in
set_option maxRecDepth 1000000 in
theorem spoil1_miss (w : World) (i K t : Int) (a : Option Addr) (n c : Nat) (kb ab bb : Nat) (hkb : w.heap[kb]? = some (.cells #[.int .i64 K] 3 (0, 0))) (hm : i ≠ K ∨ n = 0) :
    Calls Try.prog 58 #[.int .i64 i, .agg #[.int .i64 t, .slice a n c], .pointer (some ⟨kb, 0, none⟩), .pointer (some ⟨ab, 0, none⟩), .pointer (some ⟨bb, 0, none⟩)] w fun e w' => e = .returned (.tuple #[.agg #[.int .i64 t, .slice a n c], .bool true]) ∧ Frm (fun _ => False) w w' := by
  have ck : w.cell? ⟨kb, 0, none⟩ = some (.int .i64 K) := cell_at hkb 0 rfl
  have hlt := lt_of_block hkb
  clear hkb
  by_cases hiK : i = K
  · obtain rfl : n = 0 := by rcases hm with h | h; exact absurd hiK h; exact h
    clear hm
    subst hiK
    go_enter Try.func58, Try.ntmps58
    go_wp2
    exact bodyPost_ret (v := .tuple #[.agg #[.int .i64 t, .slice a 0 c], .bool true]) (by simp [results, Try.results58, go_sem]) rfl ⟨rfl, (Frm.alloc _ w _).trans (Frm.alloc _ _ _) fun _ _ h => h⟩
  · clear hm
    have h1 : (i == K) = false := by simpa using hiK
    go_enter Try.func58, Try.ntmps58
    go_wp2
    exact bodyPost_ret (v := .tuple #[.agg #[.int .i64 t, .slice a n c], .bool true]) (by simp [results, Try.results58, go_sem]) rfl ⟨rfl, (Frm.alloc _ w _).trans (Frm.alloc _ _ _) fun _ _ h => h⟩

theorem bits_xor_u8 (a b : UInt8) : bits BinOp.xor IntKind.u8 (a.toNat : Int) (b.toNat : Int) = ((a ^^^ b).toNat : Int) := by
  have ha := a.toNat_lt
  have hb := b.toNat_lt
  have hx : a.toNat ^^^ b.toNat < 2 ^ 8 := Nat.xor_lt_two_pow ha hb
  have h1 : (BitVec.ofInt 8 (a.toNat : Int)).toNat = a.toNat := by
    rw [BitVec.ofInt_natCast, BitVec.toNat_ofNat]; exact Nat.mod_eq_of_lt (by omega)
  have h2 : (BitVec.ofInt 8 (b.toNat : Int)).toNat = b.toNat := by
    rw [BitVec.ofInt_natCast, BitVec.toNat_ofNat]; exact Nat.mod_eq_of_lt (by omega)
  show IntKind.u8.wrap ((BitVec.ofInt 8 (a.toNat : Int) ^^^ BitVec.ofInt 8 (b.toNat : Int)).toNat : Int) = _
  rw [BitVec.toNat_xor, h1, h2, IntKind.wrap_u8, UInt8.toNat_xor]
  omega

/-- A byte of an own row is another one. -/
theorem own_set {w : World} {g n c i : Nat} {bs : List UInt8} {cur : Array Value} (hg : w.heap[g]? = some (.cells cur 5 (0, 0))) (hn : bs.length = n) (hnc : n ≤ c) (hcm : c ≤ maxLen) (hcs : cur.size = c) (ht : cur.toList.take n = bV bs) (b : UInt8) :
    (w.setCell ⟨g, i, none⟩ (.int .u8 (b.toNat : Int))).ownsRow 0 5 1 (.slice (some ⟨g, 0, none⟩) n c) n (bV (bs.set i b)) := by
  refine ⟨by simp [hn], .inr ⟨g, c, _, rfl, Nat.zero_le _, set_at hg i _, hnc, hcm, by simp [hcs], ?_⟩⟩
  rw [Array.toList_setIfInBounds, Nat.mul_one, List.take_set, ht]
  simp [bV]

set_option maxHeartbeats 1000000 in
set_option maxRecDepth 1000000 in
theorem spoil1_hit (w : World) (K at_ t : Int) (x : UInt8) (a : Option Addr) (c : Nat) (bs : List UInt8) (kb ab bb : Nat) (hkb : w.heap[kb]? = some (.cells #[.int .i64 K] 3 (0, 0))) (hab : w.heap[ab]? = some (.cells #[.int .i64 at_] 3 (0, 0))) (hbb : w.heap[bb]? = some (.cells #[.int .u8 (x.toNat : Int)] 5 (0, 0)))
    (hrd : Rd w (.slice a bs.length c) bs.length (bV bs)) (hl : bs.length ≤ 140737488355328) (hpos : 0 < bs.length) (idx : Nat) (hidx : ((at_.tmod bs.length) + bs.length).tmod bs.length = (idx : Int)) (hi : idx < bs.length) :
    Calls Try.prog 58 #[.int .i64 K, .agg #[.int .i64 t, .slice a bs.length c], .pointer (some ⟨kb, 0, none⟩), .pointer (some ⟨ab, 0, none⟩), .pointer (some ⟨bb, 0, none⟩)] w fun e w' => ∃ a' c', e = .returned (.tuple #[.agg #[.int .i64 t, .slice a' bs.length c'], .bool true]) ∧
      w'.ownsRow 0 5 1 (.slice a' bs.length c') bs.length (bV (bs.set idx (bs.getD idx 0 ^^^ x))) ∧ NewV w (.slice a' bs.length c') ∧ Frm (fun _ => False) w w' := by
  have ck : w.cell? ⟨kb, 0, none⟩ = some (.int .i64 K) := cell_at hkb 0 rfl
  have ca : w.cell? ⟨ab, 0, none⟩ = some (.int .i64 at_) := cell_at hab 0 rfl
  have cb : w.cell? ⟨bb, 0, none⟩ = some (.int .u8 (x.toNat : Int)) := cell_at hbb 0 rfl
  have hlt := lt_of_block hkb
  have hla := lt_of_block hab
  have hlb := lt_of_block hbb
  have f0 : Frm (fun _ => False) w ((w.alloc (.cells #[.int .i64 t, .slice a bs.length c] 43)).alloc (.cells #[.int .i64 0, .slice none 0 0] 43)) := (Frm.alloc _ w _).trans (Frm.alloc _ _ _) fun _ _ h => h
  have b0 : ((w.alloc (.cells #[.int .i64 t, .slice a bs.length c] 43)).alloc (.cells #[.int .i64 0, .slice none 0 0] 43)).heap[w.heap.size]? = some (.cells #[.int .i64 t, .slice a bs.length c] 43) := by
    rw [Below.heap_alloc _ _ _ (by simp)]; exact heap_alloc_new w _
  have b1 : ((w.alloc (.cells #[.int .i64 t, .slice a bs.length c] 43)).alloc (.cells #[.int .i64 0, .slice none 0 0] 43)).heap[w.heap.size + 1]? = some (.cells #[.int .i64 0, .slice none 0 0] 43) := by
    have := heap_alloc_new (w.alloc (.cells #[.int .i64 t, .slice a bs.length c] 43)) (.cells #[.int .i64 0, .slice none 0 0] 43)
    simpa only [World.size_alloc] using this
  have hcall := clone_par _ t _ bs (hrd.keep f0 fun _ _ => id) hl
  have HCALL := Lib.hid hcall; clear hcall
  have HKB := Lib.hid hkb; clear hkb
  have HAB := Lib.hid hab; clear hab
  have HBB := Lib.hid hbb; clear hbb
  have F0 := Lib.hid f0; clear f0
  have B0 := Lib.hid b0; clear b0
  have B1 := Lib.hid b1; clear b1
  have HIDX := Lib.hid hidx; clear hidx
  have HI := Lib.hid hi; clear hi
  clear hrd
  go_enter Try.func58, Try.ntmps58
  go_wp2_with fail
  refine HCALL.out.mono ?_
  rintro e w1 ⟨v', rfl, hcp⟩
  obtain ⟨a', c', rfl⟩ := hcp.shape
  have r0 := hcp.frm.blk B0.out id
  have r1 := hcp.frm.blk B1.out id
  have k0 := cell_at r0 0 rfl
  have k1 := cell_at r0 1 rfl
  have k2 := free_at r0 0
  have k3 := free_at r0 1
  go_wp2_with fail
  have z0 := set_at r0 0 (.int .i64 t)
  have z1 := set_at z0 1 (.slice a' bs.length c')
  have fz : Frm (fun i => i = w.heap.size) w1 ((w1.setCell ⟨w.heap.size, 0, none⟩ (.int .i64 t)).setCell ⟨w.heap.size, 1, none⟩ (.slice a' bs.length c')) :=
    (Frm.setCell (S := fun i => i = w.heap.size) w1 (p := ⟨w.heap.size, 0, none⟩) (.inl rfl) _).trans (Frm.setCell (S := fun i => i = w.heap.size) _ (p := ⟨w.heap.size, 1, none⟩) (.inl rfl) _) fun _ _ h => h
  have hs0 : ((w.alloc (.cells #[.int .i64 t, .slice a bs.length c] 43)).alloc (.cells #[.int .i64 0, .slice none 0 0] 43)).heap.size = w.heap.size + 2 := by simp
  have hnew : ∀ k, (Value.slice a' bs.length c').ownBlock = some k → w.heap.size + 2 ≤ k := fun k hk => by have := hcp.new k hk; omega
  have own2 := fz.owns hcp.own (fun k hk h => by have h1 : k = w.heap.size := h; have := hnew k hk; omega)
  have z2 := fz.blk r1 (fun h => by omega)
  have fall : Frm (fun _ => False) w ((w1.setCell ⟨w.heap.size, 0, none⟩ (.int .i64 t)).setCell ⟨w.heap.size, 1, none⟩ (.slice a' bs.length c')) :=
    (F0.out.trans hcp.frm fun _ _ h => h).trans fz fun i hi h => by have h1 : i = w.heap.size := h; omega
  have ca2 := fall.cell' ca id
  have cb2 := fall.cell' cb id
  clear k0 k1 k2 k3 fz r0 r1 z0 hcp hs0
  generalize (w1.setCell ⟨w.heap.size, 0, none⟩ (.int .i64 t)).setCell ⟨w.heap.size, 1, none⟩ (.slice a' bs.length c') = w2 at *
  obtain ⟨g, rfl, hbl, cur, hg, hcn, hct, hnc, hcm⟩ : ∃ g, a' = some ⟨g, 0, none⟩ ∧ w.heap.size + 2 ≤ g ∧ ∃ cur : Array Value, w2.heap[g]? = some (.cells cur 5 (0, 0)) ∧ cur.size = c' ∧ cur.toList.take bs.length = bV bs ∧ bs.length ≤ c' ∧ c' ≤ maxLen := by
    rcases own2.2 with ⟨hx, _⟩ | ⟨g, cp, cur, hx, _, hg, hn, hcc, hcs, ht⟩
    · simp at hx; omega
    · simp only [Value.slice.injEq, true_and] at hx
      obtain ⟨rfl, rfl⟩ := hx
      exact ⟨g, rfl, hnew g rfl, cur, hg, by simpa using hcs, by simpa using ht, hn, hcc⟩
  have cg : w2.cell? ⟨g, idx, none⟩ = some (.int .u8 ((bs.getD idx 0).toNat : Int)) := by
    have hi := HI.out
    have h1 : (bV bs)[idx]? = some (.int .u8 ((bs.getD idx 0).toNat : Int)) := by simp [bV, List.getD, hi]
    rw [← hct, List.getElem?_take_of_lt hi, Array.getElem?_toList] at h1
    exact cell_at hg idx h1
  have fg := free_at hg idx
  have l0 : w2.cell? ⟨w.heap.size, 0, none⟩ = some (.int .i64 t) := cell_at z1 0 rfl
  have l1 : w2.cell? ⟨w.heap.size, 1, none⟩ = some (.slice (some ⟨g, 0, none⟩) bs.length c') := cell_at z1 1 rfl
  have OWN2 := Lib.hid own2; clear own2
  have Z1 := Lib.hid z1; clear z1
  have Z2 := Lib.hid z2; clear z2
  have HG := Lib.hid hg; clear hg
  have HCN := Lib.hid hcn; clear hcn
  have HCT := Lib.hid hct; clear hct
  have FALL := Lib.hid fall; clear fall
  have HNC := Lib.hid hnc; clear hnc
  have HCM := Lib.hid hcm; clear hcm
  have HNEW := Lib.hid hnew; clear hnew
  clear ck ca cb
  have hidx := HIDX.out
  have hi := HI.out
  have hw1 : IntKind.i64.wrap (at_.tmod bs.length + bs.length) = at_.tmod bs.length + bs.length := by
    have h1 : (at_.tmod bs.length).natAbs < bs.length := by
      rw [Int.natAbs_tmod]; exact Nat.mod_lt _ (by simpa using hpos)
    exact wrap_small _ (by omega) (by omega)
  go_region
  have hxor := bits_xor_u8 bs[idx] x
  rw [hxor]
  have hso := own_set (i := idx) HG.out rfl HNC.out HCM.out HCN.out HCT.out (bs[idx] ^^^ x)
  have fs : Frm (fun i => i = g) w2 (w2.setCell ⟨g, idx, none⟩ (.int .u8 ((bs[idx] ^^^ x).toNat : Int))).drew := (Frm.setCell (S := fun i => i = g) w2 (p := ⟨g, idx, none⟩) (.inl rfl) _).trans (Frm.drew _ _) fun _ _ h => h
  have hso2 : (w2.setCell ⟨g, idx, none⟩ (.int .u8 ((bs[idx] ^^^ x).toNat : Int))).drew.ownsRow 0 5 1 (.slice (some ⟨g, 0, none⟩) bs.length c') bs.length (bV (bs.set idx (bs[idx] ^^^ x))) := hso
  have y1 := fs.blk Z1.out (fun h => by omega)
  have y2 := fs.blk Z2.out (fun h => by omega)
  have FALL2 := Lib.hid (FALL.out.trans fs fun i hi h => by have h1 : i = g := h; omega)
  have HSO := Lib.hid hso2; clear hso2 hso hxor
  clear fs cg fg l0 l1 ca2 cb2 hw1 hidx
  generalize (w2.setCell ⟨g, idx, none⟩ (.int .u8 ((bs[idx] ^^^ x).toNat : Int))).drew = w5 at *
  have l0 : w5.cell? ⟨w.heap.size, 0, none⟩ = some (.int .i64 t) := cell_at y1 0 rfl
  have l1 : w5.cell? ⟨w.heap.size, 1, none⟩ = some (.slice (some ⟨g, 0, none⟩) bs.length c') := cell_at y1 1 rfl
  have l2 : w5.cell? ⟨w.heap.size + 1, 0, none⟩ = some (.int .i64 0) := cell_at y2 0 rfl
  have l3 : w5.cell? ⟨w.heap.size + 1, 1, none⟩ = some (.slice none 0 0) := cell_at y2 1 rfl
  have m2 := free_at y2 0
  have m3 := free_at y2 1
  have Y2 := Lib.hid y2; clear y2 y1
  go_wp2
  have v1 := set_at Y2.out 0 (.int .i64 t)
  have v2 := set_at v1 1 (.slice (some ⟨g, 0, none⟩) bs.length c')
  have d0 := cell_at v2 0 rfl
  have d1 := cell_at v2 1 rfl
  simp at d0 d1
  have fv : Frm (fun i => i = w.heap.size + 1) w5 ((w5.setCell ⟨w.heap.size + 1, 0, none⟩ (.int .i64 t)).setCell ⟨w.heap.size + 1, 1, none⟩ (.slice (some ⟨g, 0, none⟩) bs.length c')) :=
    (Frm.setCell (S := fun i => i = w.heap.size + 1) w5 (p := ⟨w.heap.size + 1, 0, none⟩) (.inl rfl) _).trans (Frm.setCell (S := fun i => i = w.heap.size + 1) _ (p := ⟨w.heap.size + 1, 1, none⟩) (.inl rfl) _) fun _ _ h => h
  refine bodyPost_ret (v := .tuple #[.agg #[.int .i64 t, .slice (some ⟨g, 0, none⟩) bs.length c'], .bool true]) (by simp [results, Try.results58, go_sem, d0, d1]) rfl ⟨_, _, rfl, ?_, fun k hk => by have := HNEW.out k hk; omega, FALL2.out.trans fv fun i hi h => by have h1 : i = w.heap.size + 1 := h; omega⟩
  have e1 : bs.getD idx 0 = bs[idx] := by simp [List.getD, hi]
  rw [e1]
  exact fv.owns HSO.out fun k hk h => by have h1 : k = w.heap.size + 1 := h; have := HNEW.out k hk; omega

end Go.Proofs.Ytclihppeaikhiaa
