/- Words for the law PackBack: PackPut2, R16b, PackPut3. -/
import Derived.Test.YtggfoihfenlckaaGreatPackBackG20
set_option linter.unusedSimpArgs false
set_option linter.unusedVariables false
/- pack: putDot, put: the walks. -/
namespace Go.Proofs.YtggfoihfenlckaaGreat
open Go.RowKit
set_option maxHeartbeats 1000000 in
set_option maxRecDepth 1000000 in
theorem pputDot_go (ob : Nat) (w : World) (v : Value) (bs : List UInt8) (d n : Int) (ho : OutAt w ob v bs) (hd : inR d) (hn : inR n) (hl : bs.length ≤ 94000000) :
    Calls Tryz.prog 154 #[.pointer (some ⟨ob, 0, none⟩), .agg #[.int .i64 d, .int .i64 n]] w fun e w' => e = .returned (.tuple #[]) ∧ Put1 w ob v bs (numB d ++ numB n) w' := by
  have HO := Lib.hid ho; clear ho
  have HNO := Lib.hid (show ¬ OutS ob v w.heap.size from fun h => by have := outS_lt HO.out _ h; omega)
  have HB := Lib.hid (Put1.start (HO.out.keep0 (Frm.alloc NoS w (.cells #[.int .i64 d, .int .i64 n] 135))))
  have H1 := Lib.hid (numB_le10 hd.1 hd.2)
  have HD := Lib.hid hd; clear hd
  have HN := Lib.hid hn; clear hn
  go_enter Tryz.func154, Tryz.ntmps154
  go_wp2_with (first
    | (go_at_call 95; refine (putNum HP3.out n HN.out (by have := H1.out; simp only [List.nil_append]; omega)).mono ?_; rintro e w4 ⟨rfl, hp4⟩; have HP4 := Lib.hid hp4; clear hp4 y1)
    | (go_at_call 95; refine (putNum HB.out d HD.out (by simp only [List.length_nil]; omega)).mono ?_; rintro e w3 ⟨rfl, hp3⟩; have y1 : w3.cell? ⟨w.heap.size, 1, none⟩ = some (.int .i64 n) := hp3.cell (cell_at' (heap_alloc_new w _) 1 rfl) HNO.out; have HP3 := Lib.hid hp3; clear hp3 HB))
  go_end0
  exact ⟨rfl, (HP4.out.base (Frm.alloc _ _ _)).cast (by rw [List.nil_append])⟩
/- ### how far the bytes of a tree are -/
def KidsL.encTake : Nat → KidsL → List UInt8
  | 0, _ => []
  | _ + 1, .nil => []
  | n + 1, .cons key es sub rest => textB key ++ (encT es sub ++ rest.encTake n)
theorem encTake_succ : ∀ (n : Nat) (ks : KidsL) {key : ByteArray} {es : List Ent} {sub rest : KidsL}, ks.drop n = .cons key es sub rest → ks.encTake (n + 1) = ks.encTake n ++ (textB key ++ encT es sub)
  | 0, .cons _ _ _ _, _, _, _, _, h => by cases h; simp [KidsL.encTake]
  | 0, .nil, _, _, _, _, h => by cases h
  | n + 1, .nil, _, _, _, _, h => by cases h
  | n + 1, .cons _ _ _ r, _, _, _, _, h => by
    show textB _ ++ (encT _ _ ++ r.encTake (n + 1)) = (textB _ ++ (encT _ _ ++ r.encTake n)) ++ _
    rw [encTake_succ n r h]
    simp only [List.append_assoc]
theorem encTake_split : ∀ (n : Nat) (ks : KidsL), encK ks = ks.encTake n ++ encK (ks.drop n)
  | 0, _ => rfl
  | _ + 1, .nil => rfl
  | n + 1, .cons key es sub rest => by
    rw [encK_cons]
    show _ = (textB _ ++ (encT _ _ ++ rest.encTake n)) ++ encK (rest.drop n)
    rw [encTake_split n rest]
    simp only [List.append_assoc]
theorem encTake_all (ks : KidsL) : ks.encTake ks.len = encK ks := by
  have h := encTake_split ks.len ks
  rw [KidsL.drop_none (Nat.le_refl _)] at h
  rw [h]; simp [encK]
theorem encEs_snoc {es : List Ent} {k : Nat} (h : k < es.length) : encEs (es.take (k + 1)) = encEs (es.take k) ++ encE (es.getD k Ent.zero) := by
  rw [take_succ Ent.zero h]
  unfold encEs
  rw [List.flatMap_append]
  simp
theorem encEs_split (es : List Ent) (k : Nat) : encEs es = encEs (es.take k) ++ encEs (es.drop k) := by
  have h : encEs (es.take k ++ es.drop k) = encEs (es.take k) ++ encEs (es.drop k) := by unfold encEs; rw [List.flatMap_append]
  rwa [List.take_append_drop] at h
theorem encT_upE {es : List Ent} (ks : KidsL) {k : Nat} (h : k < es.length) : (numB es.length ++ encEs (es.take k)).length + (encE (es.getD k Ent.zero)).length ≤ (encT es ks).length := by
  have h1 := encEs_split es (k + 1)
  rw [encEs_snoc h] at h1
  unfold encT
  rw [h1]
  simp only [List.length_append]
  omega
theorem encT_upK (es : List Ent) {ks : KidsL} {k : Nat} {key : ByteArray} {es' : List Ent} {sub rest : KidsL} (h : ks.drop k = .cons key es' sub rest) :
    (numB es.length ++ (encEs es ++ (numB ks.len ++ ks.encTake k))).length + (textB key ++ encT es' sub).length ≤ (encT es ks).length := by
  have h1 := encTake_split k ks
  rw [h, encK_cons] at h1
  unfold encT
  rw [h1]
  unfold encT
  simp only [List.length_append]
  omega
theorem encT_upM (es : List Ent) (ks : KidsL) : (numB es.length ++ encEs es).length + (numB ks.len).length ≤ (encT es ks).length := by
  unfold encT
  simp only [List.length_append]
  omega
theorem encT_up0 (es : List Ent) (ks : KidsL) : (numB es.length).length ≤ (encT es ks).length := by
  unfold encT
  simp only [List.length_append]
  omega
theorem KidsL.Ok.at_ {k : Nat} {ks : KidsL} {key : ByteArray} {es : List Ent} {sub rest : KidsL} (h : ks.Ok) (hd : ks.drop k = .cons key es sub rest) : key.size ≤ 9223372036854775807 ∧ TrOk es sub := by
  have := h.drop k
  rw [hd] at this
  exact ⟨this.1, this.2.1, this.2.2.1, this.2.2.2.1⟩
theorem textB_size (s : ByteArray) : s.size ≤ (textB s).length := by
  have h : s.data.toList.length = s.size := Array.length_toList
  unfold textB
  rw [List.length_append]; omega
set_option maxHeartbeats 4000000 in
set_option maxRecDepth 1000000 in
theorem pput_go : ∀ (N : Nat) (Q : Nat → Prop) (es : List Ent) (ks : KidsL) (w : World) (ob : Nat) (v : Value) (bs : List UInt8) (ev kv : Value), sizeK ks < N → OutAt w ob v bs → TreeAt Q w ev kv es ks → (∀ b, OutS ob v b → ¬ Q b) → TrOk es ks → bs.length + (encT es ks).length ≤ 90000000 →
    Calls Tryz.prog 112 #[.pointer (some ⟨ob, 0, none⟩), .agg #[ev, kv]] w fun e w' => e = .returned (.tuple #[]) ∧ Put1 w ob v bs (encT es ks) w' := by
  intro N
  induction N with
  | zero => intros; exfalso; omega
  | succ N IHN =>
    intro Q es ks w ob v bs ev kv hN ho ht hq hok hl
    have IH := Lib.hid IHN; clear IHN
    have ht : TreeAt (fun b => Q b ∧ b < w.heap.size) w ev kv es ks := ht.turn fun b hb hQ => ⟨rfl, hQ, hb⟩
    obtain ⟨ae, ce, rfl⟩ := ht.ents.rd.sl
    obtain ⟨os, hkr, hfor⟩ := ht.kids
    obtain ⟨ak, ck, rfl⟩ := hkr.rd.sl
    have hwb : Frm NoS w (w.alloc (.cells #[.slice ae es.length ce, .slice ak ks.len ck] 35)) := Frm.alloc _ _ _
    have HQ := Lib.hid (show ∀ b, OutS ob v b → ¬ (Q b ∧ b < w.heap.size) from fun b hb hQ => hq b hb hQ.1); clear hq
    have HE := Lib.hid (ht.ents.keep hwb fun _ _ s => s.elim)
    have HKR := Lib.hid (hkr.keep hwb fun _ _ s => s.elim); clear hkr
    have HFOR := Lib.hid (hfor.keep hwb fun _ _ s => s.elim); clear hfor ht
    have HO := Lib.hid ho; clear ho
    have HNO := Lib.hid (show ¬ OutS ob v w.heap.size from fun h => by have := outS_lt HO.out _ h; omega)
    have HOK := Lib.hid hok; clear hok
    have HNN := Lib.hid hN; clear hN
    have HL := Lib.hid hl; clear hl
    have hnb : es.length ≤ 140737488351232 := HOK.out.es.len
    have hmb : ks.len ≤ 140737488351232 := HOK.out.len
    have HUE := Lib.hid (fun (k : Nat) (h : k < es.length) => encT_upE ks h)
    have HU0 := Lib.hid (encT_up0 es ks)
    have HUM := Lib.hid (encT_upM es ks)
    have HUK := Lib.hid (fun (k : Nat) (key : ByteArray) (es' : List Ent) (sub rest : KidsL) (h : ks.drop k = .cons key es' sub rest) => encT_upK es h)
    have HFIN := Lib.hid (show numB es.length ++ (encEs es ++ (numB ks.len ++ ks.encTake ks.len)) = encT es ks by rw [encTake_all]; rfl)
    have HTA := Lib.hid (show encEs (es.take es.length) = encEs es by rw [List.take_length])
    generalize hes : es.length = n at *
    have HN := Lib.hid hes; clear hes
    generalize hkl : ks.len = m at *
    have HM := Lib.hid hkl; clear hkl
    obtain ⟨WB, hWB⟩ : ∃ WB, WB = w.alloc (.cells #[.slice ae n ce, .slice ak m ck] 35) := ⟨_, rfl⟩
    have hb0 : WB.heap[w.heap.size]? = some (.cells #[.slice ae n ce, .slice ak m ck] 35 (0, 0)) := by rw [hWB]; exact heap_alloc_new w _
    have HB0 := Lib.hid hb0; clear hb0
    rw [← hWB] at hwb HE HKR HFOR
    have HWB := Lib.hid hwb; clear hwb
    have HBW := Lib.hid hWB; clear hWB
    have HB := Lib.hid (Put1.start (HO.out.keep0 HWB.out))
    go_enter Tryz.func112, Tryz.ntmps112
    go_wp2_with (go_at_call 95; rw [← HBW.out]; refine (putNum HB.out n ⟨by omega, by omega⟩ (by have := HL.out; simp only [List.length_nil]; omega)).mono ?_; rintro e w1 ⟨rfl, hp⟩; have HP := Lib.hid (hp.cast (List.nil_append _)); clear hp; have y0 : w1.cell? ⟨w.heap.size, 0, none⟩ = some (.slice ae n ce) := HP.out.cell (cell_at' HB0.out 0 rfl) HNO.out)
    go_loopw [16] (fun i ww => ∃ k : Nat, k ≤ n ∧ i = .int .i64 k ∧ Put1 WB ob v bs (numB n ++ encEs (es.take k)) ww) (fun i _ => n - (intOf i).toNat)
    case atStart => exact ⟨0, Nat.zero_le _, rfl, HP.out.cast (by simp [encEs])⟩
    case round =>
      clear HP y0
      obtain ⟨k, hk, rfl, hp⟩ := hrel
      have HP1 := Lib.hid hp; clear hp
      by_cases hlt : k < n
      · have hlk : k < es.length := by rw [HN.out]; exact hlt
        have hrd := HE.out.put HQ.out HP1.out
        rcases Rd.shape hrd with ⟨ad, he, h0⟩ | ⟨b, off, cc, he, hmax⟩
        · exfalso; omega
        · injection he with e1 e2 e3
          subst e1 e3
          clear e2
          obtain ⟨q0, q1, q2, q3⟩ := ent_at (es := es) hrd k hlk
          clear hrd
          have hft := HOK.out.es.fits _ (getD_mem Ent.zero hlk)
          have HST := Lib.hid (encEs_snoc hlk)
          have HUk := Lib.hid (HUE.out k hlt)
          obtain ⟨s, hgd⟩ : ∃ s, s = es.getD k Ent.zero := ⟨_, rfl⟩
          rw [← hgd] at HST q0 q1 q2 q3 hft HUk
          clear hgd
          have HFT := Lib.hid hft; clear hft
          obtain ⟨v', ho', hfr, hfm⟩ := HP1.out
          have HO1 := Lib.hid ho'; clear ho'
          have HFR := Lib.hid hfr; clear hfr
          have HFM := Lib.hid hfm; clear hfm
          have HN1 := Lib.hid (show ¬ OutS ob v' wr.heap.size from fun h => by have := outS_lt HO1.out _ h; omega)
          have HB1 := Lib.hid (Put1.start (HO1.out.keep0 (Frm.alloc NoS wr (.cells #[.int .i64 s.dc, .int .i64 s.n, .string s.s, .int .i64 s.k] 137))))
          have hbl : (bs ++ (numB n ++ encEs (es.take k))).length + (numB s.dc ++ (numB s.n ++ (textB s.s ++ numB s.k))).length ≤ 90000000 := by
            have h1 := HUk.out
            have h2 := HL.out
            unfold encE at h1
            simp only [List.length_append] at h1 h2 ⊢; omega
          simp only [List.length_append] at hbl
          have HSZ := Lib.hid (textB_size s.s)
          have HBL := Lib.hid hbl; clear hbl
          go_wp2_with (first
            | (go_at_call 154; refine (HB1.out.call fun v' ho _ _ => pputDot_go ob _ v' _ s.dc s.n ho HFT.out.1 HFT.out.2.1 (by have := HBL.out; simp only [List.length_append, List.length_nil]; omega)).mono ?_; rintro e w3 ⟨rfl, hp3⟩; have y2 : w3.cell? ⟨wr.heap.size, 2, none⟩ = some (.string s.s) := hp3.cell (cell_at' (heap_alloc_new wr _) 2 rfl) HN1.out; have y3 : w3.cell? ⟨wr.heap.size, 3, none⟩ = some (.int .i64 s.k) := hp3.cell (cell_at' (heap_alloc_new wr _) 3 rfl) HN1.out; have HP3 := Lib.hid hp3; clear hp3)
            | (go_at_call 116; refine (putText HP3.out s.s (by have := HBL.out; have := HSZ.out; simp only [List.length_append, List.length_nil]; omega)).mono ?_; rintro e w4 ⟨rfl, hp4⟩; have z3 : w4.cell? ⟨wr.heap.size, 3, none⟩ = some (.int .i64 s.k) := hp4.cell (cell_at' (heap_alloc_new wr _) 3 rfl) HN1.out; have HP4 := Lib.hid hp4; clear hp4 y2 y3)
            | (go_at_call 95; refine (putNum HP4.out s.k HFT.out.2.2.1 (by have := HBL.out; simp only [List.length_append, List.length_nil]; omega)).mono ?_; rintro e w5 ⟨rfl, hp5⟩; have HP5 := Lib.hid hp5; clear hp5 z3))
          go_roundw
          case rel => exact ⟨k + 1, by omega, by go_num, (Put1.trans HFR.out HFM.out (HP5.out.base (Frm.alloc _ _ _))).cast (by rw [HST.out]; unfold encE; simp only [List.append_assoc, List.nil_append])⟩
          case measure => simp [intOf]; omega
      · obtain rfl : n = k := by omega
        rw [HTA.out] at HP1
        clear hlt hk HUE HE
        have y1 : wr.cell? ⟨w.heap.size, 1, none⟩ = some (.slice ak m ck) := HP1.out.cell (cell_at' HB0.out 1 rfl) HNO.out
        go_wp2_with (go_at_call 95; refine (putNum HP1.out m ⟨by omega, by omega⟩ (by have := HL.out; have := HUM.out; omega)).mono ?_; rintro e w1 ⟨rfl, hp⟩; have HP := Lib.hid (hp.cast (List.append_assoc _ _ _)); clear hp; have y1 : w1.cell? ⟨w.heap.size, 1, none⟩ = some (.slice ak m ck) := HP.out.cell (cell_at' HB0.out 1 rfl) HNO.out)
        go_loopw [41] (fun i ww => ∃ k : Nat, k ≤ m ∧ i = .int .i64 k ∧ Put1 WB ob v bs (numB n ++ (encEs es ++ (numB m ++ ks.encTake k))) ww) (fun i _ => m - (intOf i).toNat)
        case atStart => exact ⟨0, Nat.zero_le _, rfl, HP.out.cast (by simp [KidsL.encTake])⟩
        case round =>
          clear HP HP1
          obtain ⟨k, hk, rfl, hp⟩ := hrel
          have HP1 := Lib.hid hp; clear hp
          by_cases hlt : k < m
          · obtain ⟨key, es', sub, rest, hdr⟩ := KidsL.drop_some (n := k) (ks := ks) (by rw [HM.out]; exact hlt)
            have hrd := HKR.out.put HQ.out HP1.out
            rcases Rd.shape hrd with ⟨ad, he, h0⟩ | ⟨b, off, cc, he, hmax⟩
            · exfalso; omega
            · injection he with e1 e2 e3
              subst e1 e3
              clear e2
              obtain ⟨v', ho', hfr, hfm⟩ := HP1.out
              obtain ⟨ev', kv', q0, q1, q2, hta⟩ := kid_at hrd (HFOR.out.keep hfm fun b _ hs => HQ.out b hs) hdr
              clear hrd
              obtain ⟨ae', ce', rfl⟩ := hta.ents.rd.sl
              obtain ⟨os', hkr', hfor'⟩ := hta.kids
              obtain ⟨ak', ck', rfl⟩ := hkr'.rd.sl
              clear hkr' hfor'
              have HTAK := Lib.hid hta; clear hta
              have HSS := Lib.hid (size_sub k hdr)
              have HKO := Lib.hid (HOK.out.ks.at_ hdr)
              have HST := Lib.hid (encTake_succ k ks hdr)
              have HUk := Lib.hid (HUK.out _ _ _ _ _ hdr)
              have HO1 := Lib.hid ho'; clear ho'
              have hsz : w.heap.size ≤ wr.heap.size := Nat.le_trans HWB.out.size hfm.size
              have HOB := Lib.hid (show ∀ b, OutS ob v' b → ¬ (Q b ∧ b < w.heap.size) from fun b hb hQ => HQ.out b (outS_fresh hfr b (Nat.lt_of_lt_of_le hQ.2 HWB.out.size) hb) hQ)
              have HFR := Lib.hid hfr; clear hfr
              have HFM := Lib.hid hfm; clear hfm
              have HN1 := Lib.hid (show ¬ OutS ob v' wr.heap.size from fun h => by have := outS_lt HO1.out _ h; omega)
              have hbl : (bs ++ (numB n ++ (encEs es ++ (numB m ++ ks.encTake k)))).length + (textB key ++ encT es' sub).length ≤ 90000000 := by
                have h1 := HUk.out
                have h2 := HL.out
                rw [@List.length_append _ bs _]
                omega
              rw [@List.length_append _ (textB key) _] at hbl
              have HSZ := Lib.hid (textB_size key)
              have HBL := Lib.hid hbl; clear hbl
              have HIH := Lib.hid (fun W v3 bs3 (o : OutAt W ob v3 bs3) (t : TreeAt (fun b => Q b ∧ b < w.heap.size) W (.slice ae' es'.length ce') (.slice ak' sub.len ck') es' sub) (q : ∀ b, OutS ob v3 b → ¬ (Q b ∧ b < w.heap.size)) (l : bs3.length + (encT es' sub).length ≤ 90000000) => IH.out _ es' sub W ob v3 bs3 _ _ (by have := HSS.out; have := HNN.out; omega) o t q HKO.out.2 l)
              generalize es'.length = n' at *
              generalize sub.len = m' at *
              have HB1 := Lib.hid (Put1.start (HO1.out.keep0 (Frm.alloc NoS wr (.cells #[.string key, .slice ae' n' ce', .slice ak' m' ck'] 139))))
              have HTA2 := Lib.hid (HTAK.out.keep0 (Frm.alloc NoS wr (.cells #[.string key, .slice ae' n' ce', .slice ak' m' ck'] 139)))
              clear y1
              go_wp2_with (first
                | (go_at_call 116; refine (putText HB1.out key (by have := HBL.out; have := HSZ.out; simp only [List.length_nil]; omega)).mono ?_; rintro e w4 ⟨rfl, hp4⟩; have z1 : w4.cell? ⟨wr.heap.size, 1, none⟩ = some (.slice ae' n' ce') := hp4.cell (cell_at' (heap_alloc_new wr _) 1 rfl) HN1.out; have z2 : w4.cell? ⟨wr.heap.size, 2, none⟩ = some (.slice ak' m' ck') := hp4.cell (cell_at' (heap_alloc_new wr _) 2 rfl) HN1.out; have HP4 := Lib.hid hp4; clear hp4)
                | (go_at_call 112; refine (HP4.out.call fun v3 ho3 hb3 hf3 => HIH.out _ v3 _ ho3 (HTA2.out.keep hf3 fun b _ hs => HOB.out b hs) (fun b hb hQ => HOB.out b (hb3 b (by simp only [World.size_alloc]; omega) hb) hQ) (by have := HBL.out; rw [List.length_append, List.nil_append]; omega)).mono ?_; rintro e w5 ⟨rfl, hp5⟩; have HP5 := Lib.hid hp5; clear hp5 z1 z2))
              go_roundw
              case rel => exact ⟨k + 1, by omega, by go_num, (Put1.trans HFR.out HFM.out (HP5.out.base (Frm.alloc _ _ _))).cast (by rw [HST.out]; simp only [List.append_assoc, List.nil_append])⟩
              case measure => simp [intOf]; omega
          · obtain rfl : m = k := by omega
            go_wp2
            go_end0
            exact ⟨rfl, (HP1.out.cast HFIN.out).base HWB.out⟩
end Go.Proofs.YtggfoihfenlckaaGreat
/- tributaryref16: plain: the walk. -/
namespace Go.Proofs.YtggfoihfenlckaaGreat
open Go.RowKit
set_option maxHeartbeats 8000000 in
set_option maxRecDepth 1000000 in
theorem r16plain_any : ∀ (N : Nat) (Q : Nat → Prop) (es : List Ent) (ks : KidsL) (w : World) (ev kv : Value), sizeK ks < N → TreeAt Q w ev kv es ks → TrOk es ks → (encT es ks).length ≤ 1000000 →
    Calls Tryz.prog 114 #[.agg #[ev, kv]] w (Ret w (encT es ks)) := by
  intro N
  induction N with
  | zero => intros; exfalso; omega
  | succ N IHN =>
    intro Q es ks w ev kv hN ht hok hl
    have IH := Lib.hid IHN; clear IHN
    obtain ⟨ae, ce, rfl⟩ := ht.ents.rd.sl
    obtain ⟨os, hkr, hfor⟩ := ht.kids
    obtain ⟨ak, ck, rfl⟩ := hkr.rd.sl
    have hwb : Frm NoS w (w.alloc (.cells #[.slice ae es.length ce, .slice ak ks.len ck] 35)) := Frm.alloc _ _ _
    have HE := Lib.hid (ht.ents.keep hwb fun _ _ s => s.elim)
    have HKR := Lib.hid (hkr.keep hwb fun _ _ s => s.elim); clear hkr
    have HFOR := Lib.hid (hfor.keep hwb fun _ _ s => s.elim); clear hfor ht
    have HOK := Lib.hid hok; clear hok
    have HNN := Lib.hid hN; clear hN
    have HL := Lib.hid hl; clear hl
    have hnb : es.length ≤ 140737488351232 := HOK.out.es.len
    have hmb : ks.len ≤ 140737488351232 := HOK.out.len
    have HUE := Lib.hid (fun (k : Nat) (h : k < es.length) => encT_upE ks h)
    have HUM := Lib.hid (encT_upM es ks)
    have HUK := Lib.hid (fun (k : Nat) (key : ByteArray) (es' : List Ent) (sub rest : KidsL) (h : ks.drop k = .cons key es' sub rest) => encT_upK es h)
    have HFIN := Lib.hid (show numB es.length ++ (encEs es ++ (numB ks.len ++ ks.encTake ks.len)) = encT es ks by rw [encTake_all]; rfl)
    have HTA := Lib.hid (show encEs (es.take es.length) = encEs es by rw [List.take_length])
    have HT00 := Lib.hid (show numB es.length ++ encEs (es.take 0) = numB es.length by simp [encEs])
    have HK00 := Lib.hid (show numB es.length ++ (encEs es ++ (numB ks.len ++ ks.encTake 0)) = (numB es.length ++ encEs es) ++ numB ks.len by simp [KidsL.encTake])
    generalize hes : es.length = n at *
    have HN := Lib.hid hes; clear hes
    generalize hkl : ks.len = m at *
    have HM := Lib.hid hkl; clear hkl
    obtain ⟨WB, hWB⟩ : ∃ WB, WB = w.alloc (.cells #[.slice ae n ce, .slice ak m ck] 35) := ⟨_, rfl⟩
    have hb0 : WB.heap[w.heap.size]? = some (.cells #[.slice ae n ce, .slice ak m ck] 35 (0, 0)) := by rw [hWB]; exact heap_alloc_new w _
    have HB0 := Lib.hid hb0; clear hb0
    rw [← hWB] at hwb HE HKR HFOR
    have HWB := Lib.hid hwb; clear hwb
    have HBW := Lib.hid hWB; clear hWB
    have HBX := Lib.hid (fun W (f : Frm NoS WB W) => (⟨cell_at' (f.blk HB0.out id) 0 rfl, cell_at' (f.blk HB0.out id) 1 rfl⟩ : W.cell? ⟨w.heap.size, 0, none⟩ = some (.slice ae n ce) ∧ W.cell? ⟨w.heap.size, 1, none⟩ = some (.slice ak m ck)))
    go_enter Tryz.func114, Tryz.ntmps114
    go_wp2_with (go_at_call 111; rw [← HBW.out]; refine (nums1 n _ WB _ (by rw [HBW.out]; simp) ⟨by omega, by omega⟩).mono ?_; rintro e w1 ⟨a1, c1, t1, ht1, rfl, cp1⟩; obtain ⟨y0, y1⟩ := HBX.out w1 cp1.frm; have HT1 := Lib.hid ht1; clear ht1; have HC1 := Lib.hid cp1; clear cp1)
    go_loopw [3, 15] (fun o i ww => ∃ (k : Nat) (a : Option Addr) (c : Nat) (t : List UInt8), k ≤ n ∧ i = .int .i64 k ∧ o = .slice a t.length c ∧ t = numB n ++ encEs (es.take k) ∧ Copy WB o t ww) (fun _ i _ => n - (intOf i).toNat)
    case atStart => exact ⟨0, a1, c1, t1, Nat.zero_le _, rfl, rfl, by rw [HT00.out]; exact HT1.out, HC1.out⟩
    case round =>
      clear HC1 HT1 y0 y1
      obtain ⟨k, a0, c0, t0, hk, rfl, rfl, ht0, hp⟩ := hrel
      have HT0 := Lib.hid ht0; clear ht0
      by_cases hlt : k < n
      · have hlk : k < es.length := by rw [HN.out]; exact hlt
        rcases Rd.shape HE.out.rd with ⟨ad, he, h0⟩ | ⟨b, off, cc, he, hmax⟩
        · exfalso; omega
        · injection he with e1 e2 e3
          subst e1 e3
          clear e2
          obtain ⟨q0, q1, q2, q3⟩ := ent_at (es := es) (HE.out.keep hp.frm fun _ _ s => s.elim).rd k hlk
          obtain ⟨y0, y1⟩ := HBX.out wr hp.frm
          have hft := HOK.out.es.fits _ (getD_mem Ent.zero hlk)
          have HST := Lib.hid (encEs_snoc hlk)
          have HUk := Lib.hid (HUE.out k hlt)
          obtain ⟨s, hgd⟩ : ∃ s, s = es.getD k Ent.zero := ⟨_, rfl⟩
          rw [← hgd] at HST q0 q1 q2 q3 hft HUk
          clear hgd
          have HFT := Lib.hid hft; clear hft
          have hbl : t0.length + ((numB s.dc ++ numB s.n).length + ((textB s.s).length + (numB s.k).length)) ≤ 1000000 := by
            have h1 := HUk.out
            have h2 := HL.out
            have h3 := congrArg List.length HT0.out
            unfold encE at h1
            simp only [List.length_append] at h1 h2 h3 ⊢; omega
          have HBL := Lib.hid hbl; clear hbl
          have HSS := Lib.hid (HFT.out.2.2.2)
          have heb : wr.heap.size < (wr.alloc (.cells #[.int .i64 s.dc, .int .i64 s.n, .string s.s, .int .i64 s.k] 137)).heap.size := by simp
          have HEB := Lib.hid heb; clear heb
          have hne0 : (Value.slice a0 t0.length c0).ownBlock ≠ some wr.heap.size := fun h => by have := own_lt hp.own _ h; omega
          have HNE0 := Lib.hid hne0; clear hne0
          have HPA := Lib.hid (hp.step (Frm.alloc NoS wr (.cells #[.int .i64 s.dc, .int .i64 s.n, .string s.s, .int .i64 s.k] 137))); clear hp
          have HXB := Lib.hid (heap_alloc_new wr (.cells #[.int .i64 s.dc, .int .i64 s.n, .string s.s, .int .i64 s.k] 137))
          go_wp2_with (first
            | (go_at_call 111; refine (nums2 s.dc s.n _ _ _ (by first | rfl | simp) HFT.out.1 HFT.out.2.1).mono ?_; rintro e w1 ⟨a1, c1, t1, ht1, rfl, cp1⟩; have HT1 := Lib.hid ht1; clear ht1; have HP1 := Lib.hid (HPA.out.step cp1.frm); have HX1 := Lib.hid (cp1.frm.blk HXB.out id); have hs1 := cp1.frm.size; have HS1 := Lib.hid hs1; clear hs1; have HC1 := Lib.hid cp1; clear cp1)
            | (at_builtin; go_loud (refine app_cp WB w1 rfl (.tmp 23) (.tmp 31) rfl _ t0 HP1.out _ t1 rfl rfl HC1.out.rd ?c1 ?_)))
          case c1 =>
            have h1 := HBL.out
            have h2 := congrArg List.length HT1.out
            omega
          intro ad2 c2 w2 t2 HT2 e2 f2 r2
          have HX2 := Lib.hid (f2.blk HX1.out HNE0.out)
          have hlx2 : wr.heap.size < w1.heap.size := by have := HEB.out; have := HS1.out; omega
          have HNE2 := Lib.hid (fresh_ne HNE0.out r2 hlx2)
          have HS2 := Lib.hid (Nat.lt_of_lt_of_le hlx2 f2.size)
          have HP2 := Lib.hid e2; clear e2 f2 r2 hlx2
          clear y0 y1 q0 q1 q2 q3
          have z1 := cell_at' HX2.out 2 rfl
          have z2 := cell_at' HX2.out 3 rfl
          go_wp2_with (first
            | (go_at_call 117; refine (Calls.mono (rtext s.s w2 (by have := HSS.out; have h := HBL.out; have := textB_size s.s; omega)) fun _ _ h => Ret.of h).mono ?_; rintro e w3 ⟨a3, c3, t3, ht3, rfl, cp3⟩; have HT3 := Lib.hid ht3; clear ht3; have HP3 := Lib.hid (HP2.out.step cp3.frm); have HX3 := Lib.hid (cp3.frm.blk HX2.out id); have hs3 := cp3.frm.size; have HS3 := Lib.hid hs3; clear hs3; have HC3 := Lib.hid cp3; clear cp3)
            | (at_builtin; go_loud (refine app_cp WB w3 rfl (.tmp 33) (.tmp 36) rfl _ t2 HP3.out _ t3 rfl rfl HC3.out.rd ?c1 ?_)))
          case c1 =>
            have h1 := HBL.out
            have h2 := congrArg List.length HT1.out
            have h3 := congrArg List.length HT2.out
            have h4 := congrArg List.length HT3.out
            rw [List.length_append] at h3
            omega
          intro ad4 c4 w4 t4 HT4 e4 f4 r4
          have HX4 := Lib.hid (f4.blk HX3.out HNE2.out)
          have hlx4 : wr.heap.size < w3.heap.size := by have := HS2.out; have := HS3.out; omega
          have HNE4 := Lib.hid (fresh_ne HNE2.out r4 hlx4)
          have HS4 := Lib.hid (Nat.lt_of_lt_of_le hlx4 f4.size)
          have HP4 := Lib.hid e4; clear e4 f4 r4 hlx4
          clear z1 z2
          have z2 := cell_at' HX4.out 3 rfl
          go_wp2_with (first
            | (go_at_call 111; refine (nums1 s.k _ _ _ (by first | rfl | simp) HFT.out.2.2.1).mono ?_; rintro e w5 ⟨a5, c5, t5, ht5, rfl, cp5⟩; have HT5 := Lib.hid ht5; clear ht5; have HP5 := Lib.hid (HP4.out.step cp5.frm); have HC5 := Lib.hid cp5; clear cp5)
            | (at_builtin; go_loud (refine app_cp WB w5 rfl (.tmp 38) (.tmp 42) rfl _ t4 HP5.out _ t5 rfl rfl HC5.out.rd ?c1 ?_)))
          case c1 =>
            have h1 := HBL.out
            have h2 := congrArg List.length HT1.out
            have h3 := congrArg List.length HT2.out
            have h4 := congrArg List.length HT3.out
            have h5 := congrArg List.length HT4.out
            have h6 := congrArg List.length HT5.out
            rw [List.length_append] at h3 h5
            omega
          intro ad6 c6 w6 t6 HT6 e6 f6 r6
          have HP6 := Lib.hid e6; clear e6 f6 r6
          clear z2
          go_wp2
          go_roundw
          case rel => exact ⟨k + 1, ad6, c6, t6, by omega, by go_num, rfl, by rw [HST.out, HT6.out, HT4.out, HT2.out, HT0.out, HT1.out, HT3.out, HT5.out]; unfold encE; simp only [List.append_assoc], HP6.out⟩
          case measure => simp [intOf]; omega
      · obtain rfl : n = k := by omega
        rw [HTA.out] at HT0
        clear hlt hk HUE HE
        obtain ⟨y0, y1⟩ := HBX.out wr hp.frm
        have HP0 := Lib.hid hp; clear hp
        go_wp2_with (first
          | (go_at_call 111; refine (nums1 m _ wr _ rfl ⟨by omega, by omega⟩).mono ?_; rintro e w1 ⟨a1, c1, t1, ht1, rfl, cp1⟩; have HT1 := Lib.hid ht1; clear ht1; have HP1 := Lib.hid (HP0.out.step cp1.frm); have HC1 := Lib.hid cp1; clear cp1)
          | (at_builtin; go_loud (refine app_cp WB w1 rfl (.tmp 45) (.tmp 50) rfl _ t0 HP1.out _ t1 rfl rfl HC1.out.rd ?c1 ?_)))
        case c1 =>
          have h1 := HUM.out
          have h2 := HL.out
          have h3 := congrArg List.length HT0.out
          have h4 := congrArg List.length HT1.out
          omega
        intro ad2 c2 w2 t2 HT2 e2 f2 r2
        clear y0 y1
        obtain ⟨y0, y1⟩ := HBX.out w2 e2.frm
        have HP2 := Lib.hid e2; clear e2 f2 r2
        go_wp2
        go_loopw [3, 55] (fun o i ww => ∃ (k : Nat) (a : Option Addr) (c : Nat) (t : List UInt8), k ≤ m ∧ i = .int .i64 k ∧ o = .slice a t.length c ∧ t = numB n ++ (encEs es ++ (numB m ++ ks.encTake k)) ∧ Copy WB o t ww) (fun _ i _ => m - (intOf i).toNat)
        case atStart => exact ⟨0, ad2, c2, t2, Nat.zero_le _, rfl, rfl, by rw [HK00.out, HT2.out, HT0.out, HT1.out], HP2.out⟩
        case round =>
          clear HP2 HT2 HP1 HC1 HP0 HT1 y0 y1
          obtain ⟨k, a0, c0, t0, hk, rfl, rfl, ht0, hp⟩ := hrel
          have HT0 := Lib.hid ht0; clear ht0
          by_cases hlt : k < m
          · obtain ⟨key, es', sub, rest, hdr⟩ := KidsL.drop_some (n := k) (ks := ks) (by rw [HM.out]; exact hlt)
            rcases Rd.shape HKR.out.rd with ⟨ad, he, h0⟩ | ⟨b, off, cc, he, hmax⟩
            · exfalso; omega
            · injection he with e1 e2 e3
              subst e1 e3
              clear e2
              obtain ⟨ev', kv', g0, g1, g2, hta⟩ := kid_at HKR.out.rd HFOR.out hdr
              obtain ⟨ae', ce', rfl⟩ := hta.ents.rd.sl
              obtain ⟨os', hkr', hfor'⟩ := hta.kids
              obtain ⟨ak', ck', rfl⟩ := hkr'.rd.sl
              clear hkr' hfor'
              have HKO := Lib.hid (HOK.out.ks.at_ hdr)
              have HST := Lib.hid (encTake_succ k ks hdr)
              have HUk := Lib.hid (HUK.out _ _ _ _ _ hdr)
              have HSS := Lib.hid (size_sub k hdr)
              have hbl : t0.length + ((textB key).length + (encT es' sub).length) ≤ 1000000 := by
                have h1 := HUk.out
                have h2 := HL.out
                have h3 := congrArg List.length HT0.out
                rw [@List.length_append _ (textB key) _] at h1
                omega
              have HBL := Lib.hid hbl; clear hbl
              have HIH := Lib.hid (fun W (f : Frm NoS WB W) => IH.out _ es' sub W _ _ (by have := HSS.out; have := HNN.out; omega) (hta.keep0 f) HKO.out.2 (by have := HBL.out; omega))
              clear hta
              generalize es'.length = n' at *
              generalize sub.len = m' at *
              have HKC := Lib.hid (fun W (f : Frm NoS WB W) => (⟨f.cell' g0 id, f.cell' g1 id, f.cell' g2 id⟩ : W.cell? ⟨b, off + k * 3, none⟩ = some (.string key) ∧ W.cell? ⟨b, off + k * 3 + 1, none⟩ = some (.slice ae' n' ce') ∧ W.cell? ⟨b, off + k * 3 + 2, none⟩ = some (.slice ak' m' ck')))
              clear g0 g1 g2
              obtain ⟨q0, q1, q2⟩ := HKC.out wr hp.frm
              obtain ⟨y0, y1⟩ := HBX.out wr hp.frm
              have HP0 := Lib.hid hp; clear hp
              go_wp2_with (first
                | (go_at_call 117; refine (Calls.mono (rtext key wr (by have h := HBL.out; have := textB_size key; omega)) fun _ _ h => Ret.of h).mono ?_; rintro e w3 ⟨a3, c3, t3, ht3, rfl, cp3⟩; have HT3 := Lib.hid ht3; clear ht3; have HP3 := Lib.hid (HP0.out.step cp3.frm); have HC3 := Lib.hid cp3; clear cp3)
                | (at_builtin; go_loud (refine app_cp WB w3 rfl (.tmp 58) (.tmp 65) rfl _ t0 HP3.out _ t3 rfl rfl HC3.out.rd ?c1 ?_)))
              case c1 =>
                have h1 := HBL.out
                have h2 := congrArg List.length HT3.out
                omega
              intro ad4 c4 w4 t4 HT4 e4 f4 r4
              clear q0 q1 q2 y0 y1
              obtain ⟨q0, q1, q2⟩ := HKC.out w4 e4.frm
              obtain ⟨y0, y1⟩ := HBX.out w4 e4.frm
              have HP4 := Lib.hid e4; clear e4 f4 r4
              go_wp2_with (first
                | (go_at_call 114; refine (HIH.out w4 HP4.out.frm).mono ?_; rintro e w5 ⟨a5, c5, t5, ht5, rfl, cp5⟩; have HT5 := Lib.hid ht5; clear ht5; have HP5 := Lib.hid (HP4.out.step cp5.frm); have HC5 := Lib.hid cp5; clear cp5)
                | (at_builtin; go_loud (refine app_cp WB w5 rfl (.tmp 67) (.tmp 74) rfl _ t4 HP5.out _ t5 rfl rfl HC5.out.rd ?c1 ?_)))
              case c1 =>
                have h1 := HBL.out
                have h2 := congrArg List.length HT3.out
                have h3 := congrArg List.length HT4.out
                have h4 := congrArg List.length HT5.out
                rw [List.length_append] at h3
                omega
              intro ad6 c6 w6 t6 HT6 e6 f6 r6
              have HP6 := Lib.hid e6; clear e6 f6 r6
              clear q0 q1 q2 y0 y1
              go_wp2
              go_roundw
              case rel => exact ⟨k + 1, ad6, c6, t6, by omega, by go_num, rfl, by rw [HST.out, HT6.out, HT4.out, HT0.out, HT3.out, HT5.out]; simp only [List.append_assoc], HP6.out⟩
              case measure => simp [intOf]; omega
          · obtain rfl : m = k := by omega
            have HP0 := Lib.hid hp; clear hp
            go_wp2
            go_ret
            exact ⟨a0, c0, t0, by rw [HT0.out, HFIN.out], rfl, HP0.out.weaken HWB.out⟩
end Go.Proofs.YtggfoihfenlckaaGreat
/- pack: PutTree, PutCausal, Bytes: the walks. -/
namespace Go.Proofs.YtggfoihfenlckaaGreat
open Go.RowKit
def treeB (es : List Ent) (ks : KidsL) : List UInt8 := if rightT 5 es ks then encT es ks else encT [] .nil
set_option maxRecDepth 100000 in
theorem tClone_no (Q : Nat → Prop) (es : List Ent) (ks : KidsL) (w : World) (ev kv : Value) (ht : TreeAt Q w ev kv es ks) (hok : TrOk es ks) (hr : rightT 5 es ks = false) :
    Calls Tryz.prog 113 #[.agg #[ev, kv]] w fun e w' => e = .returned (.agg #[.slice none 0 0, .slice none 0 0]) ∧ Frm NoS w w' := by
  obtain ⟨ae, ce, rfl⟩ := ht.ents.rd.sl
  obtain ⟨os, hkr, hfor⟩ := ht.kids
  obtain ⟨ak, ck, rfl⟩ := hkr.rd.sl
  have HR := Lib.hid (fun W (f : Frm NoS w W) => tRight_any Q es ks W _ _ (ht.keep0 f) hok)
  rw [hr] at HR
  clear hkr hfor ht hok hr
  generalize es.length = n at *
  generalize ks.len = m at *
  obtain ⟨hb2, hfb, hbs⟩ := two_blocks w (.cells #[.slice ae n ce, .slice ak m ck] 35) #[.slice none 0 0, .slice none 0 0] 35
  have HB2 := Lib.hid hb2; clear hb2
  have HFB := Lib.hid hfb; clear hfb
  have HBS := Lib.hid hbs; clear hbs
  go_enter Tryz.func113, Tryz.ntmps113
  go_wp2_with (go_at_call 81; refine (HR.out _ HFB.out).mono ?_; rintro e w1 ⟨rfl, hw1⟩; obtain ⟨y0, y1⟩ := box2 w _ _ _ w1 ((Frm.alloc NoS _ _).then1 hw1); have hblk := hw1.blk HB2.out id; have z0 := cell_at' hblk 0 rfl; have z1 := cell_at' hblk 1 rfl; have f0 := free_at' hblk 0; have f1 := free_at' hblk 1; have hsb := lt_of_block hblk; have HR2 := Lib.hid (res2 hblk (HFB.out.then1 hw1) (by omega) (.slice none 0 0) (.slice none 0 0)); have HW1 := Lib.hid hw1; clear hw1 hblk)
  clear y0 y1 z0 z1
  have y0 := cell_at' HR2.out.1 0 rfl
  have y1 := cell_at' HR2.out.1 1 rfl
  exact bodyPost_ret (v := .agg #[.slice none 0 0, .slice none 0 0]) (by simp [results, Tryz.results113, go_sem, y0, y1]) rfl ⟨rfl, HR2.out.2.1⟩
theorem tree_nil (w : World) : TreeAt (fun b => w.heap.size ≤ b) w (.slice none 0 0) (.slice none 0 0) [] .nil :=
  ⟨⟨.inl ⟨none, rfl, rfl, rfl⟩, fun h => absurd rfl h⟩, [], ⟨.inl ⟨none, rfl, rfl, rfl⟩, fun h => absurd rfl h⟩, rfl⟩
/-- A clone: what the tree's bytes tell. -/
theorem tClone_all (Q : Nat → Prop) (es : List Ent) (ks : KidsL) (w : World) (ev kv : Value) (ht : TreeAt Q w ev kv es ks) (hok : TrOk es ks) (hsz : sizeT es ks ≤ 4000) :
    Calls Tryz.prog 113 #[.agg #[ev, kv]] w fun e w' => ∃ ev' kv' es' ks', e = .returned (.agg #[ev', kv']) ∧ TreeAt (fun b => w.heap.size ≤ b) w' ev' kv' es' ks' ∧ TrOk es' ks' ∧ encT es' ks' = treeB es ks ∧ Frm NoS w w' := by
  cases hr : rightT 5 es ks with
  | true => exact (tClone_any Q es ks w ev kv ht hok hsz hr).mono fun e w' ⟨ev', kv', h1, h2, h3⟩ => ⟨ev', kv', es, ks, h1, h2, hok, by unfold treeB; rw [hr]; rfl, h3⟩
  | false => exact (tClone_no Q es ks w ev kv ht hok hr).mono fun e w' ⟨h1, h3⟩ => ⟨_, _, [], .nil, h1, (tree_nil w).keep0 h3, ⟨⟨by simp, fun e he => by cases he⟩, by simp [KidsL.len], trivial⟩, by unfold treeB; rw [hr]; rfl, h3⟩
theorem treeB_le {es : List Ent} {ks : KidsL} (hsz : sizeT es ks ≤ 4000) : (treeB es ks).length ≤ 300020 := by
  unfold treeB
  split
  · have := encT_le (by assumption) (by omega : sizeT es ks ≤ 9223372036854775807)
    omega
  · have := encT_le (es := []) (ks := .nil) (by decide) (by decide)
    have h0 : sizeT [] .nil = 0 := rfl
    omega
set_option maxRecDepth 100000 in
theorem pPutTree_any (Q : Nat → Prop) (ob : Nat) (w : World) (v : Value) (bs : List UInt8) (es : List Ent) (ks : KidsL) (ev kv : Value) (ho : OutAt w ob v bs) (ht : TreeAt Q w ev kv es ks) (hok : TrOk es ks) (hsz : sizeT es ks ≤ 4000) (hl : bs.length ≤ 80000000) :
    Calls Tryz.prog 53 #[.pointer (some ⟨ob, 0, none⟩), .agg #[ev, kv]] w fun e w' => e = .returned (.tuple #[]) ∧ Put1 w ob v bs (treeB es ks) w' := by
  have HC := Lib.hid (fun W (f : Frm NoS w W) => tClone_all Q es ks W _ _ (ht.keep0 f) hok hsz)
  have HLE := Lib.hid (treeB_le hsz)
  obtain ⟨ae, ce, rfl⟩ := ht.ents.rd.sl
  obtain ⟨os, hkr, hfor⟩ := ht.kids
  obtain ⟨ak, ck, rfl⟩ := hkr.rd.sl
  clear hkr hfor ht hok hsz
  generalize treeB es ks = X at *
  generalize es.length = n at *
  generalize ks.len = m at *
  have HO := Lib.hid ho; clear ho
  have HA := Lib.hid (Frm.alloc NoS w (.cells #[.slice ae n ce, .slice ak m ck] 35))
  go_enter Tryz.func53, Tryz.ntmps53
  go_wp2_with (first
    | (go_at_call 113; refine (HC.out _ HA.out).mono ?_; rintro e w1 ⟨ev', kv', es', ks', rfl, hta, hok, hx, hf⟩; obtain ⟨a1, c1, rfl⟩ := hta.ents.rd.sl; obtain ⟨os3, hkr3, -⟩ := hta.kids; obtain ⟨a2, c2, rfl⟩ := hkr3.rd.sl; clear hkr3; subst hx; have HK := Lib.hid (fun ho => pput_go _ _ es' ks' w1 ob v bs _ _ (Nat.lt_succ_self _) ho hta (fun b hb hQ => by have := outS_lt HO.out b hb; have := HA.out.size; omega) hok (by have := HLE.out; omega)); generalize es'.length = n' at *; generalize ks'.len = m' at *; clear hta hok; have HF := Lib.hid (HA.out.then1 hf); clear hf)
    | (go_at_call 112; refine (HK.out (HO.out.keep0 HF.out)).mono ?_; rintro e w2 ⟨rfl, hp⟩; have HP := Lib.hid hp; clear hp))
  go_end0
  exact ⟨rfl, HP.out.base HF.out⟩
noncomputable def cauB (es : List Ent) (ks : KidsL) (c : CtxL) : List UInt8 := if tf (CauRight es ks c) then encX es ks c else encX [] .nil []
set_option maxRecDepth 100000 in
theorem caClone_no (Q : Nat → Prop) (es : List Ent) (ks : KidsL) (c : CtxL) (w : World) (ev kv cv : Value) (h : CauAt Q w ev kv cv es ks c) (hok : CauOk es ks c) (hr : ¬ CauRight es ks c) :
    Calls Tryz.prog 115 #[.agg #[ev, kv, cv]] w fun e w' => e = .returned (.agg #[.slice none 0 0, .slice none 0 0, .slice none 0 0]) ∧ Frm NoS w w' := by
  obtain ⟨a0, c0, a1, c1, a2, c2, rfl, rfl, rfl⟩ := h.shape
  have HR := Lib.hid (fun w' (f : Frm NoS w w') => tf_false hr ▸ caRight_any Q es ks c w' _ _ _ (h.keep0 f) hok)
  clear h hok hr
  generalize es.length = n at *
  generalize ks.len = m at *
  generalize c.length = k at *
  obtain ⟨hb2, hfb, hbs⟩ := two_blocks w (.cells #[.slice a0 n c0, .slice a1 m c1, .slice a2 k c2] 37) #[.slice none 0 0, .slice none 0 0, .slice none 0 0] 37
  have HB2 := Lib.hid hb2; clear hb2
  have HFB := Lib.hid hfb; clear hfb
  have HBS := Lib.hid hbs; clear hbs
  go_enter Tryz.func115, Tryz.ntmps115
  go_wp2_with (go_at_call 82; refine (HR.out _ HFB.out).mono ?_; rintro e w1 ⟨rfl, hw1⟩; obtain ⟨y0, y1, y2⟩ := box3 w _ _ _ _ w1 ((Frm.alloc NoS _ _).then1 hw1); have hblk := hw1.blk HB2.out id; have z0 := cell_at' hblk 0 rfl; have z1 := cell_at' hblk 1 rfl; have z2 := cell_at' hblk 2 rfl; have f0 := free_at' hblk 0; have f1 := free_at' hblk 1; have f2 := free_at' hblk 2; have hsb := lt_of_block hblk; have HR3 := Lib.hid (res3 hblk (HFB.out.then1 hw1) (by omega) (.slice none 0 0) (.slice none 0 0) (.slice none 0 0)); have HW1 := Lib.hid hw1; clear hw1 hblk)
  clear y0 y1 y2 z0 z1 z2
  have y0 := cell_at' HR3.out.1 0 rfl
  have y1 := cell_at' HR3.out.1 1 rfl
  have y2 := cell_at' HR3.out.1 2 rfl
  exact bodyPost_ret (v := .agg #[.slice none 0 0, .slice none 0 0, .slice none 0 0]) (by simp [results, Tryz.results115, go_sem, y0, y1, y2]) rfl ⟨rfl, HR3.out.2.1⟩
/-- A clone of what is known: what its bytes tell. -/
theorem caClone_all (Q : Nat → Prop) (es : List Ent) (ks : KidsL) (c : CtxL) (w : World) (ev kv cv : Value) (h : CauAt Q w ev kv cv es ks c) (hok : CauOk es ks c) :
    Calls Tryz.prog 115 #[.agg #[ev, kv, cv]] w fun e w' => ∃ ev' kv' cv' es' ks' c', e = .returned (.agg #[ev', kv', cv']) ∧ TreeAt (fun b => w.heap.size ≤ b) w' ev' kv' es' ks' ∧ RdQ (fun b => w.heap.size ≤ b) w' cv' c'.length (spC c') ∧ CauOk es' ks' c' ∧ treeB es' ks' ++ ctxB c' = cauB es ks c ∧ Frm NoS w w' := by
  by_cases hr : CauRight es ks c
  · refine (caClone_ok Q es ks c w ev kv cv h hok hr).mono fun e w' ⟨ev', kv', cv', h1, h2, h3⟩ => ⟨ev', kv', cv', es, ks, c, h1, h2, h3.rdq, hok, ?_, h3.frm⟩
    unfold cauB treeB ctxB
    rw [tf_true hr, hr.tree, tf_true hr.ctx]
    rfl
  · refine (caClone_no Q es ks c w ev kv cv h hok hr).mono fun e w' ⟨h1, h3⟩ => ⟨_, _, _, [], .nil, [], h1, (tree_nil w).keep0 h3, ⟨.inl ⟨none, rfl, rfl, rfl⟩, fun h => absurd rfl h⟩, ⟨⟨⟨by simp, fun e he => by cases he⟩, by simp [KidsL.len], trivial⟩, by decide, (fun s hs => by cases hs), by simp⟩, ?_, h3⟩
    have e1 : rightT 5 [] .nil = true := by decide
    unfold cauB treeB ctxB
    rw [tf_false hr, e1, tf_true right_nilC]
    rfl
set_option maxRecDepth 100000 in
theorem pPutCausal_any (Q : Nat → Prop) (ob : Nat) (w : World) (v : Value) (bs : List UInt8) (es : List Ent) (ks : KidsL) (c : CtxL) (ev kv cv : Value) (ho : OutAt w ob v bs) (h : CauAt Q w ev kv cv es ks c) (hok : CauOk es ks c) (hl : bs.length ≤ 79000000) :
    Calls Tryz.prog 55 #[.pointer (some ⟨ob, 0, none⟩), .agg #[ev, kv, cv]] w fun e w' => e = .returned (.tuple #[]) ∧ Put1 w ob v bs (cauB es ks c) w' := by
  have HC := Lib.hid (fun W (f : Frm NoS w W) => caClone_all Q es ks c W _ _ _ (h.keep0 f) hok)
  obtain ⟨a0, c0, a1, c1, a2, c2, rfl, rfl, rfl⟩ := h.shape
  clear h hok
  generalize cauB es ks c = X at *
  generalize es.length = n at *
  generalize ks.len = m at *
  generalize c.length = k at *
  have HO := Lib.hid ho; clear ho
  have HBX := Lib.hid (heap_alloc_new w (.cells #[.slice a0 n c0, .slice a1 m c1, .slice a2 k c2] 37))
  have HA := Lib.hid (Frm.alloc NoS w (.cells #[.slice a0 n c0, .slice a1 m c1, .slice a2 k c2] 37))
  have HAS := Lib.hid (show (w.alloc (.cells #[.slice a0 n c0, .slice a1 m c1, .slice a2 k c2] 37)).heap.size = w.heap.size + 1 by simp)
  have HNO := Lib.hid (show ¬ OutS ob v w.heap.size from fun h => by have := outS_lt HO.out _ h; omega)
  go_enter Tryz.func55, Tryz.ntmps55
  go_wp2_with (first
    | (go_at_call 115; refine (HC.out _ HA.out).mono ?_; rintro e w1 ⟨ev', kv', cv', es', ks', c', rfl, hta, hrc, hok, hx, hf⟩; obtain ⟨a3, c3, rfl⟩ := hta.ents.rd.sl; obtain ⟨os3, hkr3, -⟩ := hta.kids; obtain ⟨a4, c4, rfl⟩ := hkr3.rd.sl; clear hkr3; obtain ⟨a5, c5, rfl⟩ := hrc.rd.sl; have HXX := Lib.hid hx; clear hx
       have hblk := hf.blk HBX.out id
       have HBLK := Lib.hid hblk
       have y0 := cell_at' hblk 0 rfl
       have y1 := cell_at' hblk 1 rfl
       have y2 := cell_at' hblk 2 rfl
       have f0 := free_at' hblk 0
       have f1 := free_at' hblk 1
       have f2 := free_at' hblk 2
       have hsb := lt_of_block hblk
       have HR3 := Lib.hid (res3 (w0 := w) hblk (HA.out.then1 hf) (Nat.le_refl _) (.slice a3 es'.length c3) (.slice a4 ks'.len c4) (.slice a5 c'.length c5))
       have HTA := Lib.hid (hta.turn (Q' := fun b => w.heap.size + 1 ≤ b) fun b hb hQ => ⟨HR3.out.2.2 b (by have := HAS.out; omega), by have := HAS.out; omega⟩)
       have HRC := Lib.hid (hrc.turn (Q' := fun b => w.heap.size + 1 ≤ b ∧ b < w1.heap.size) fun b hb hQ => ⟨HR3.out.2.2 b (by have := HAS.out; omega), by have := HAS.out; omega, hb⟩)
       have HXL := Lib.hid (treeB_le (es := es') (ks := ks') (Nat.le_trans hok.small (by decide)))
       have HK := Lib.hid (pPutTree_any _ ob _ v bs es' ks' _ _ (HO.out.keep0 HR3.out.2.1) HTA.out hok.tree (Nat.le_trans hok.small (by decide)) (by omega))
       have HK2 := Lib.hid (fun W v' (f : Frm (OutS ob v) _ W) (hb : ∀ b, b < _ → OutS ob v' b → OutS ob v b) (ho : OutAt W ob v' (bs ++ treeB es' ks')) => pPutCtx_any (fun b => w.heap.size + 1 ≤ b ∧ b < w1.heap.size) ob W v' _ _ c' ho (HRC.out.keep f fun b _ hs => (by have := outS_lt HO.out b hs; omega)) (fun b hb' hQ => by have := outS_lt HO.out b (hb b hQ.2 hb'); omega) hok.fits (by have := hok.len; omega) (by have := HXL.out; rw [List.length_append]; omega))
       clear hta hrc hok hblk hf
       generalize treeB es' ks' = X1 at *
       generalize ctxB c' = X2 at *
       generalize es'.length = n' at *
       generalize ks'.len = m' at *
       generalize c'.length = k' at *)
    | (go_at_call 53; refine HK.out.mono ?_; rintro e w2 ⟨rfl, hp⟩; have y2 : w2.cell? ⟨w.heap.size, 2, none⟩ = some (.slice a5 k' c5) := hp.cell (cell_at' HR3.out.1 2 rfl) HNO.out; have HP := Lib.hid hp; clear hp)
    | (go_at_call 51; refine (HP.out.call fun v' ho hb hf => HK2.out _ v' hf (fun b hb' hs => hb b (by simpa using hb') hs) ho).mono ?_; rintro e w3 ⟨rfl, hp⟩; have HP3 := Lib.hid hp; clear hp))
  go_end0
  exact ⟨rfl, (HP3.out.base HR3.out.2.1).cast HXX.out⟩
/-- What End hands out of bytes. -/
def EndIs (w : World) (v : Value) (k : Int) (bs : List UInt8) (w' : World) : Prop := if bs.length ≤ 60000 then k = 0 ∧ Copy w v bs w' else k = 3 ∧ v = .slice none 0 0
/-- The bytes of what is known. -/
def BytesPost (w : World) (es : List Ent) (ks : KidsL) (c : CtxL) (e : Ending) (w' : World) : Prop :=
  (CauRight es ks c → ∃ v k, e = .returned (.tuple #[v, .int .i64 k]) ∧ EndIs w v k (encX es ks c) w') ∧
  (¬ CauRight es ks c → e = .returned (.tuple #[.slice none 0 0, .int .i64 1])) ∧ Frm NoS w w'
theorem end_all (ob : Nat) (w : World) (v : Value) (bs : List UInt8) (h : OutAt w ob v bs) : Calls Tryz.prog 14 #[.pointer (some ⟨ob, 0, none⟩)] w fun e w' =>
    ∃ v' k, e = .returned (.tuple #[v', .int .i64 k]) ∧ (if bs.length ≤ 60000 then k = 0 ∧ Copy w v' bs w' else k = 3 ∧ v' = .slice none 0 0 ∧ Frm NoS w w') := by
  by_cases hl : bs.length ≤ 60000
  · exact (end_ok ob w v bs h hl).mono fun e w' ⟨v', he, hc⟩ => ⟨v', 0, he, by rw [if_pos hl]; exact ⟨rfl, hc⟩⟩
  · exact (end_long ob w v bs h (by omega)).mono fun e w' ⟨he, hw⟩ => ⟨_, 3, he, by rw [if_neg hl]; subst hw; exact ⟨rfl, rfl, Frm.refl _ _⟩⟩
theorem end_frm {w w' : World} {v : Value} {k : Int} {bs : List UInt8} (h : if bs.length ≤ 60000 then k = 0 ∧ Copy w v bs w' else k = 3 ∧ v = .slice none 0 0 ∧ Frm NoS w w') : Frm NoS w w' := by
  split at h
  · exact h.2.frm
  · exact h.2.2
theorem end_shape {w w' : World} {v : Value} {k : Int} {bs : List UInt8} (h : if bs.length ≤ 60000 then k = 0 ∧ Copy w v bs w' else k = 3 ∧ v = .slice none 0 0 ∧ Frm NoS w w') : ∃ a n c, v = .slice a n c := by
  split at h
  · obtain ⟨a, c, h⟩ := h.2.shape
    exact ⟨_, _, _, h⟩
  · exact ⟨_, _, _, h.2.1⟩
theorem end_base {w0 w w' : World} {v : Value} {k : Int} {bs : List UInt8} (h : if bs.length ≤ 60000 then k = 0 ∧ Copy w v bs w' else k = 3 ∧ v = .slice none 0 0 ∧ Frm NoS w w') (f : Frm NoS w0 w) : EndIs w0 v k bs w' := by
  unfold EndIs
  split at h
  · rw [if_pos (by assumption)]
    exact ⟨h.1, h.2.weaken f⟩
  · rw [if_neg (by assumption)]
    exact ⟨h.1, h.2.1⟩
set_option maxRecDepth 100000 in
theorem pBytes_any (Q : Nat → Prop) (es : List Ent) (ks : KidsL) (c : CtxL) (w : World) (ev kv cv : Value) (h : CauAt Q w ev kv cv es ks c) (hok : CauOk es ks c) :
    Calls Tryz.prog 46 #[.agg #[ev, kv, cv]] w (BytesPost w es ks c) := by
  have HR := Lib.hid (fun W (f : Frm NoS w W) => caRight_any Q es ks c W _ _ _ (h.keep0 f) hok)
  have HC := Lib.hid (fun W v ob bs (f : Frm NoS w W) (ho : OutAt W ob v bs) (hl : bs.length ≤ 79000000) => pPutCausal_any Q ob W v bs es ks c _ _ _ ho (h.keep0 f) hok hl)
  obtain ⟨a0, c0, a1, c1, a2, c2, rfl, rfl, rfl⟩ := h.shape
  clear h hok
  by_cases hr : CauRight es ks c
  · rw [tf_true hr] at HR
    have hX : cauB es ks c = encX es ks c := by unfold cauB; rw [tf_true hr, if_pos rfl]
    rw [hX] at HC
    clear hX
    unfold BytesPost
    have HRT := Lib.hid hr; clear hr
    generalize encX es ks c = X at *
    generalize CauRight es ks c = p at *
    generalize es.length = n at *
    generalize ks.len = m at *
    generalize c.length = k at *
    go_enter Tryz.func46, Tryz.ntmps46
    go_wp2_with (first
      | (go_at_call 82; refine (HR.out _ (Frm.alloc _ _ _)).mono ?_; rintro e w1 ⟨rfl, hw1⟩; obtain ⟨y0, y1, y2⟩ := box3 w _ _ _ _ w1 hw1; have hlb := World.block_lt_of_cell? _ _ y0; have HW1 := Lib.hid ((Frm.alloc NoS _ _).then1 hw1); clear hw1)
      | (go_at_call 55; refine (HC.out _ _ _ _ (HW1.out.alloc1) (out_new w1) (by simp)).mono ?_; rintro e w2 ⟨rfl, hp⟩; obtain ⟨v2, ho2, hfr2, hfm2⟩ := hp; rw [List.nil_append] at ho2; have HO2 := Lib.hid ho2; have HF2 := Lib.hid ((Frm.alloc NoS w1 _).trans hfm2 fun i hi hs => out_alloc_no w1 i hi hs); clear ho2 hfr2 hfm2)
      | (go_at_call 14; refine (end_all _ w2 v2 _ HO2.out).mono ?_; rintro e w3 ⟨v3, k3, rfl, h3⟩; obtain ⟨a3, n3, c3, rfl⟩ := end_shape h3; have H3 := Lib.hid h3; clear h3))
    go_ret2
    exact ⟨fun _ => ⟨_, k3, rfl, end_base H3.out (HW1.out.then1 HF2.out)⟩, fun hn => absurd HRT.out hn, (HW1.out.then1 HF2.out).then1 (end_frm H3.out)⟩
  · rw [tf_false hr] at HR
    unfold BytesPost
    have HRT := Lib.hid hr; clear hr HC
    generalize encX es ks c = X at *
    generalize CauRight es ks c = p at *
    generalize es.length = n at *
    generalize ks.len = m at *
    generalize c.length = k at *
    go_enter Tryz.func46, Tryz.ntmps46
    go_wp2_with (go_at_call 82; refine (HR.out _ (Frm.alloc _ _ _)).mono ?_; rintro e w1 ⟨rfl, hw1⟩; have HW1 := Lib.hid ((Frm.alloc NoS _ _).then1 hw1); clear hw1)
    go_ret2
    exact ⟨fun h => absurd h HRT.out, fun _ => rfl, HW1.out⟩
end Go.Proofs.YtggfoihfenlckaaGreat