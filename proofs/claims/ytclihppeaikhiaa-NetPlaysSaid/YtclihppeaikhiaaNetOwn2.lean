/- tributarylaw26.NetOwn: the walk. -/
import Derived.Test.YtclihppeaikhiaaNetOwn
import Derived.Test.YtclihppeaikhiaaNetSpoils
namespace Go.Proofs.Ytclihppeaikhiaa
open Go.RowKit

set_option maxRecDepth 1000000 in
theorem netlen_nil (w : World) : Calls Try.prog 24 #[.pointer none] w fun e w' => e = .returned (.int .i64 0) ∧ w = w' := by
  go_enter Try.func24, Try.ntmps24
  go_wp2
  go_ret
  exact ⟨rfl, rfl⟩
theorem bits_xor_c (c b : UInt8) (n : Int) (h : n = (b.toNat : Int)) : bits BinOp.xor IntKind.u8 (c.toNat : Int) n = ((c ^^^ b).toNat : Int) := by rw [h]; exact bits_xor_u8 c b

set_option maxHeartbeats 8000000 in
set_option maxRecDepth 1000000 in
theorem own_few (W : World) (a : Option Addr) (c : Nat) (bs : List UInt8) (hrd : Rd W (.slice a bs.length c) bs.length (bV bs)) (hl : bs.length ≤ 300) (kk : Int) :
    Calls Try.prog 13 #[.slice a bs.length c, .int .i64 kk] W fun e w' => e = .returned (.bool true) ∧ Frm (fun _ => False) W w' := by
  have hl1 : ¬ (300 : Int) < bs.length := by omega
  have HRD := Lib.hid hrd; clear hrd
  go_enter Try.func13, Try.ntmps13
  go_wp2_with fail
  refine (awake26 _).mono ?_
  rintro e w1 ⟨rfl, hf1⟩
  have HF1 := Lib.hid hf1; clear hf1
  go_wp2_with fail
  have hnew : Calls Try.prog 21 #[.int .i64 (3 : Int)] w1 _ := new_net 3 (by omega) (by omega) w1
  refine hnew.mono ?_
  clear hnew
  rintro e w2 ⟨nb, ch, rfl, hn2, hf2, hch⟩
  have fW2 := HF1.out.trans hf2 fun _ _ h => h
  have hchW : W.heap.size ≤ ch := by have := HF1.out.size; omega
  have hc2 := hn2.clt
  have hnb2 := hn2.nlt
  have hW2 := fW2.size
  have fe : Frm (fun _ => False) w2 (w2.alloc (.cells #[] 5)) := Frm.alloc _ w2 _
  have hs := (HRD.out.keep (fW2.trans fe fun _ _ h => h) (fun _ _ h => h)).src (P := Try.prog) (size := 1) Try.underlying25 (by simp) (bV_oneCell bs)
  have HS := Lib.hid hs; clear hs
  have FW2 := Lib.hid fW2; clear fW2
  have HN2 := Lib.hid hn2; clear hn2
  clear hf2 fe
  go_wp2_with (at_builtin; go_loud (refine app_u8 _ rfl (.tmp 28) (.tmp 29) 25 rfl _ [] (own_empty w2) _ bs rfl rfl HS.out ?c1 ?_))
  case c1 => simp; omega
  intro ax cx w3 own3 fm3 fr3 _
  have f3 : Frm (fun _ => False) w2 w3 := (Frm.alloc (fun _ => False) w2 _).trans fm3 (fun i hi hs => by simp [RowS, Value.ownBlock] at hs; omega)
  have own3' : w3.ownsRow 0 5 1 (.slice ax bs.length cx) bs.length (bV bs) := by simpa using own3
  have hxn : ∀ k, (Value.slice ax bs.length cx).ownBlock = some k → w2.heap.size ≤ k := fun k hk => by
    rcases fr3 k (by simpa using hk) with h1 | h1
    · simp [Value.ownBlock] at h1; omega
    · simp at h1; omega
  have hxl := own_lt own3'
  have hs := send_new w3 nb ch 3 [] [] 0 (.slice ax bs.length cx) bs (HN2.out.keep0 f3) (by simp) (Rd.own own3') (by omega)
  have HSD := Lib.hid hs; clear hs
  have OWN3 := Lib.hid own3'; clear own3'
  have F3 := Lib.hid f3; clear f3
  have HXN := Lib.hid hxn; clear hxn
  have HXL := Lib.hid hxl; clear hxl
  clear own3 fm3 fr3
  go_wp2_with (go_at_call 22; refine HSD.out.mono ?_; rintro e w4 ⟨rfl, x4, hn4, hf4, hap4⟩)
  have hx4 : ∀ k, (Value.slice ax bs.length cx).ownBlock = some k → ParsAt w4 k [x4] [((0 : Int), bs)] := fun k hk => hap4 k (HXL.out k hk) (pars_nil _ _)
  have hd : Calls Try.prog 42 #[.pointer (some ⟨nb, 0, none⟩), .int .i64 (0 : Int)] w4 _ := double_new w4 nb ch 3 0 [x4] [((0 : Int), bs)] ((0 : Int), bs) hn4 rfl (by simp)
  have HD := Lib.hid hd; clear hd
  have hW4 : Frm (fun _ => False) W w4 := (FW2.out.trans F3.out fun _ _ h => h).trans hf4 fun i hi h => by have h1 : i = ch := h; omega
  have HW4 := Lib.hid hW4; clear hW4
  have hr4 := hf4.owns OWN3.out (fun k hk h => by have h1 : k = ch := h; have := HXN.out k hk; omega)
  have HR4 := Lib.hid hr4; clear hr4
  have HX4 := Lib.hid hx4; clear hx4
  have HF4 := Lib.hid hf4; clear hf4
  clear hn4 hap4
  go_wp2_with fail
  refine HD.out.mono ?_
  rintro e w5 ⟨rfl, ⟨x5, hn5, hap5⟩, hf5⟩
  have h34 := F3.out.size
  have h45 := HF4.out.size
  have h56 := hf5.size
  have hx5 : ∀ k, (Value.slice ax bs.length cx).ownBlock = some k → ParsAt w5 k [x4, x5] [((0 : Int), bs), ((0 : Int), bs)] := fun k hk => hap5 k (by have := HXL.out k hk; omega) (HX4.out k hk)
  have hW5 : Frm (fun _ => False) W w5 := HW4.out.trans hf5 fun i hi h => by have h1 : i = ch := h; omega
  have hr5 := hf5.owns HR4.out (fun k hk h => by have h1 : k = ch := h; have := HXN.out k hk; omega)
  have hn5' : NetAt w5 nb ch 3 [x4, x5] [((0 : Int), bs), ((0 : Int), bs)] := hn5
  have hlo5 : ∀ b, w5.heap.size ≤ b → ParsAt w5 b [x4, x5] [((0 : Int), bs), ((0 : Int), bs)] := fun b hb => ⟨rfl, fun i x p hx hp => by
    obtain ⟨a', c', h1, h2, h3, _⟩ := hn5'.pars.2 i x p hx hp
    exact ⟨a', c', h1, h2, h3, fun k hk => by have := own_lt h2 k hk; omega⟩⟩
  have hall := all_any w5 nb ch 3 _ _ hn5'
  have HALL := Lib.hid hall; clear hall
  have HW5 := Lib.hid hW5; clear hW5
  have HR5 := Lib.hid hr5; clear hr5
  have HX5 := Lib.hid hx5; clear hx5
  have HN5 := Lib.hid hn5'; clear hn5'
  have HLO5 := Lib.hid hlo5; clear hlo5
  clear hn5 hap5 hf5
  go_wp2_with fail
  refine HALL.out.mono ?_
  rintro e w6 ⟨v, outs, rfl, hn6, hf6, hol, hoa⟩
  have hol2 : outs.length = 2 := hol
  obtain ⟨q, hq⟩ : ∃ q, outs[0]? = some q := ⟨_, List.getElem?_eq_getElem (by omega)⟩
  obtain ⟨a6, c6, rfl⟩ := own_shape hoa.own
  obtain ⟨g, rfl, hg5, c0, c1⟩ := hoa.get hq
  obtain ⟨k1, k2, a2, c2, k3, k4, k5⟩ := hoa.all 0 q _ hq rfl
  rw [k3] at c1
  rw [hol2]
  have h67 := hf6.size
  have hg43 : ∃ cur, w6.heap[g]? = some (.cells cur 43 (0, 0)) := by
    rcases hoa.own.2 with ⟨hx, hn⟩ | ⟨g', cp, cur, hx, _, hg, _⟩
    · omega
    · simp only [Value.slice.injEq, Option.some.injEq, Addr.mk.injEq, and_true] at hx
      obtain ⟨rfl, _⟩ := hx
      exact ⟨cur, hg⟩
  have hinv : OwnInv W nb ch [x4, x5] [((0 : Int), bs), ((0 : Int), bs)] bs.length ax cx g a2 c2 w6 := by
    refine ⟨hn6, ⟨bs, rfl, hf6.owns HR5.out (fun k hk h => by have h1 : k = ch := h; have := HXN.out k hk; omega)⟩, ⟨bs, rfl, k4⟩, c1, fun k hk => ?_, fun k hk => ?_, fun k hk h => ?_, HW5.out.trans hf6 fun i hi h => by have h1 : i = ch := h; omega⟩
    · have h1 := HXN.out k hk
      have h2 := HXL.out k hk
      exact ⟨(HX5.out k hk).keep hf6 (HN5.out.chanNo k), by omega, by omega, by omega, by omega⟩
    · have h1 := k5 k hk
      refine ⟨(HLO5.out k h1).keep hf6 (HN5.out.chanNo k), by omega, by omega, by omega, fun e => ?_⟩
      obtain ⟨cur, hc⟩ := own_bytes k4 k hk
      obtain ⟨cur2, hc2⟩ := hg43
      rw [e, hc2] at hc
      cases hc
    · have h1 := k5 k h
      have h2 := HXL.out k hk
      omega
  have HINV := Lib.hid hinv; clear hinv
  clear hn6 hf6 hol hoa hol2 hq c0 c1 k1 k2 k3 k4 k5 hg43 h34 h45 h56 h67
  go_wp2_with fail
  go_loopw [52] (fun i wr => OwnRel W nb ch [x4, x5] [((0 : Int), bs), ((0 : Int), bs)] bs.length ax cx g a2 c2 i wr) (fun i _ => bs.length - (intOf i).toNat)
  case atStart => exact ⟨0, Nat.zero_le _, rfl, HINV.out⟩
  case round =>
    obtain ⟨k, hk, rfl, hi⟩ := hrel
    clear HINV
    have HI := Lib.hid hi; clear hi
    by_cases hlt : k < bs.length
    · obtain ⟨cs, hcs, hx⟩ := HI.out.rowx
      obtain ⟨xb, rfl⟩ := own_some hx (by omega)
      obtain ⟨hc, hfz⟩ := own_row_cell hx hcs hlt
      generalize cs.getD k 0 = cb at *
      have hbx : bits BinOp.xor IntKind.u8 (cb.toNat : Int) 1 = ((cb ^^^ 1).toNat : Int) := bits_xor_c cb 1 1 rfl
      clear hx
      go_wp2
      go_roundw
      case rel => exact ⟨k + 1, by omega, by go_num, HI.out.setx k (cb ^^^ 1)⟩
      case measure => simp [intOf]; omega
    · obtain rfl : k = bs.length := by omega
      obtain ⟨wo, rfl⟩ : ∃ wo : World, wo = wr := ⟨_, rfl⟩
      have hcg := HI.out.cell
      go_wp2_with fail
      go_loopw [67] (fun i wr => OwnRel W nb ch [x4, x5] [((0 : Int), bs), ((0 : Int), bs)] bs.length ax cx g a2 c2 i wr) (fun i _ => bs.length - (intOf i).toNat)
      case atStart => exact ⟨0, Nat.zero_le _, rfl, HI.out⟩
      case round =>
        obtain ⟨k, hk, rfl, hi⟩ := hrel
        clear HI hcg hlt
        have HI := Lib.hid hi; clear hi
        have hcg := HI.out.cell
        by_cases hlt : k < bs.length
        · obtain ⟨cs, hcs, hx⟩ := HI.out.rowg
          obtain ⟨gb, rfl⟩ := own_some hx (by omega)
          obtain ⟨hc, hfz⟩ := own_row_cell hx hcs hlt
          generalize cs.getD k 0 = cb at *
          have hbx : bits BinOp.xor IntKind.u8 (cb.toNat : Int) 2 = ((cb ^^^ 2).toNat : Int) := bits_xor_c cb 2 2 rfl
          clear hx
          go_wp2
          go_roundw
          case rel => exact ⟨k + 1, by omega, by go_num, HI.out.setg k (cb ^^^ 2)⟩
          case measure => simp [intOf]; omega
        · obtain rfl : k = bs.length := by omega
          clear hcg
          have hsp : Calls Try.prog 43 #[.pointer (some ⟨nb, 0, none⟩), .int .i64 (1 : Int), .int .i64 (0 : Int), .int .u8 (4 : Int)] wr _ := spoil_ok wr nb ch 3 1 0 4 _ _ ((0 : Int), bs) HI.out.net rfl
          have HSP := Lib.hid hsp; clear hsp
          go_wp2_with fail
          refine HSP.out.mono ?_
          rintro e w7 ⟨rfl, buf7, hn7, hf7⟩
          have fW7 : Frm (fun _ => False) W w7 := HI.out.frm.trans hf7 fun i hi h => by have h1 : i = ch := h; omega
          have ht : Calls Try.prog 23 #[.pointer (some ⟨nb, 0, none⟩), .int .i64 (0 : Int)] w7 _ := take_ok w7 nb ch 3 0 buf7 _ ((0 : Int), bs) hn7 rfl
          have HT := Lib.hid ht; clear ht
          have FW7 := Lib.hid fW7; clear fW7
          clear hn7 hf7
          go_wp2_with fail
          refine HT.out.mono ?_
          rintro e w8 ⟨a8, c8, rfl, hpa, _, hf8⟩
          obtain ⟨a', c', he, how, _, _⟩ := hpa
          simp only [Value.agg.injEq, Array.mk.injEq, List.cons.injEq, Value.slice.injEq, true_and, and_true] at he
          obtain ⟨rfl, rfl⟩ := he
          have hb8 := heap_alloc_new w8 (.cells #[.int .i64 0, .slice a8 bs.length c8] 43)
          have fa : Frm (fun _ => False) w8 (w8.alloc (.cells #[.int .i64 0, .slice a8 bs.length c8] 43)) := Frm.alloc _ w8 _
          have htn := take_nil (w8.alloc (.cells #[.int .i64 0, .slice a8 bs.length c8] 43)) kk
          have fW8 : Frm (fun _ => False) W (w8.alloc (.cells #[.int .i64 0, .slice a8 bs.length c8] 43)) := (FW7.out.trans hf8 fun i hi h => by have h1 : i = ch := h; omega).trans fa fun _ _ h => h
          have hr8 := (Rd.own how).keep fa (fun _ _ => id)
          have HTN := Lib.hid htn; clear htn
          have FW8 := Lib.hid fW8; clear fW8
          have HR8 := Lib.hid hr8; clear hr8
          have HB8 := Lib.hid hb8; clear hb8
          clear how hf8 fa
          go_wp2_with fail
          refine HTN.out.mono ?_
          rintro e w9 ⟨rfl, hf9⟩
          have hb9 := hf9.blk HB8.out id
          have c0 : w9.cell? ⟨w8.heap.size, 0, none⟩ = some (.int .i64 0) := cell_at hb9 0 rfl
          have c1 : w9.cell? ⟨w8.heap.size, 1, none⟩ = some (.slice a8 bs.length c8) := cell_at hb9 1 rfl
          have fx : Frm (fun _ => False) w9 (w9.alloc (.cells #[.int .i64 0, .slice none 0 0] 43)) := Frm.alloc _ w9 _
          have fW9 := (FW8.out.trans hf9 fun _ _ h => h).trans fx fun _ _ h => h
          have cv1 := conv_str (HR8.out.keep (hf9.trans fx fun _ _ h => h) fun _ _ => id)
          have cv2 := conv_str (HRD.out.keep fW9 fun _ _ => id)
          have FW9 := Lib.hid fW9; clear fW9
          have hl9 : w8.heap.size < w9.heap.size := lt_of_block hb9
          clear hf9 fx hb9
          have hsn : ∀ w, Calls Try.prog 43 #[.pointer none, .int .i64 kk, .int .i64 kk, .int .u8 (1 : Int)] w fun e w' => e = .returned (.int .i64 1) ∧ Frm (fun _ => False) w w' := fun w => spoil_nil w kk kk 1
          have HSN := Lib.hid hsn; clear hsn
          go_wp2_with (first
            | (go_at_call 22; refine (send_nil _ _ _).mono ?_; rintro e w11 ⟨rfl, hf11⟩; have HF11 := Lib.hid hf11; clear hf11)
            | (go_at_call 42; refine (double_nil _ _).mono ?_; rintro e w12 ⟨rfl, rfl⟩)
            | (go_at_call 43; refine (HSN.out _).mono ?_; rintro e w13 ⟨rfl, hf13⟩; have HF13 := Lib.hid hf13; clear hf13)
            | (go_at_call 24; refine (netlen_nil _).mono ?_; rintro e w14 ⟨rfl, rfl⟩)
            | (go_at_call 25; refine (all_nil _).mono ?_; rintro e w15 ⟨rfl, hf15⟩; have HF15 := Lib.hid hf15; clear hf15))
          go_ret
          exact ⟨rfl, ((FW9.out.trans HF11.out fun _ _ h => h).trans HF13.out fun _ _ h => h).trans HF15.out fun _ _ h => h⟩

set_option maxRecDepth 1000000 in
theorem own_many (W : World) (a : Option Addr) (c : Nat) (n : Nat) (hl : 300 < n) (kk : Int) :
    Calls Try.prog 13 #[.slice a n c, .int .i64 kk] W fun e w' => e = .returned (.bool true) ∧ Frm (fun _ => False) W w' := by
  have hl1 : (300 : Int) < n := by omega
  go_enter Try.func13, Try.ntmps13
  go_wp2_with fail
  refine (awake26 _).mono ?_
  rintro e w1 ⟨rfl, hf1⟩
  have HF1 := Lib.hid hf1; clear hf1
  go_wp2_with fail
  refine (awake26 _).mono ?_
  rintro e w2 ⟨rfl, hf2⟩
  have HF2 := Lib.hid hf2; clear hf2
  go_wp2_with fail
  go_ret
  exact ⟨rfl, HF1.out.trans HF2.out fun _ _ h => h⟩

theorem own_law (W : World) (v : Value) (h : ∃ bs : List UInt8, Rd W v bs.length (bV bs)) (kk : Int) (_ : (Lit.int .i64 kk).wf = true) :
    Calls Try.prog 13 #[v, .int .i64 kk] W fun e w' => e = .returned (.bool true) ∧ Frm (fun _ => False) W w' := by
  obtain ⟨bs, h⟩ := h
  obtain ⟨a, c, rfl⟩ := rd_shape h
  by_cases hl : bs.length ≤ 300
  · exact own_few W a c bs h hl kk
  · exact own_many W a c bs.length (by omega) kk

end Go.Proofs.Ytclihppeaikhiaa
