/- tributarylaw02.CodecTakes: the walk. -/
import Derived.Test.YtclihppeaikhiaaRIText
import Derived.Deep.DeepCutAuto
namespace Go.Proofs.Ytclihppeaikhiaa
open Go.RowKit

theorem RSt.isNone {w : World} {v : Value} {bad : Bool} {st : Option (List UInt8)} (h : RSt w v bad st) : bad = st.isNone := by
  cases st with
  | none => exact h.2
  | some bs => exact h.1
theorem RSt.shape {w : World} {v : Value} {bad : Bool} {st : Option (List UInt8)} (h : RSt w v bad st) : ∃ a c, v = .slice a (leftOf st).length c := by
  cases st with
  | none => exact ⟨none, 0, h.1⟩
  | some bs => exact rd_shape h.2
theorem InSt.keep {w w' : World} {ib : Nat} {st : Option (List UInt8)} (h : InSt w ib st) {S : Nat → Prop} (f : Frm S w w') (h1 : ∀ k, k ≤ ib → ¬ S k) : InSt w' ib st := by
  cases st with
  | none => exact f.blk (show w.heap[ib]? = _ from h) (h1 ib (Nat.le_refl _))
  | some bs =>
    obtain ⟨v, hv, hlt⟩ := h
    exact ⟨v, hv.keep f (h1 ib (Nat.le_refl _)) fun k hk => h1 k (Nat.le_of_lt (hlt k hk)), hlt⟩
theorem InSt.lt {w : World} {ib : Nat} {st : Option (List UInt8)} (h : InSt w ib st) : ib < w.heap.size := by
  obtain ⟨a, c, hh⟩ := h.heap
  exact lt_of_block hh

theorem two_set (w : World) (b : Nat) (u u' : Value) : Frm (Only b) w ((w.setCell ⟨b, 0, none⟩ u).setCell ⟨b, 1, none⟩ u') := (only_set w b 0 u).trans (only_set _ b 1 u') fun _ _ h => h
theorem rst_keepN {w wx w' : World} {v vx : Value} {bad badx : Bool} {st stx : Option (List UInt8)} {m s : Int} (h : RSt w v bad st) (hs : NumStep st m s stx) (hx : RSt wx vx badx stx) (hu : SubV vx v) (f : Frm (Only w.heap.size) wx w') : RSt w' vx badx stx := by
  cases stx with
  | none => exact hx
  | some r => exact ⟨hx.1, hx.2.keepIf f fun _ k hk he => by
      have h1 := rst_lt h hs k (hu k hk)
      have h2 : k = w.heap.size := he
      omega⟩
theorem rst_keepT {w wx w' : World} {v vx : Value} {bad badx : Bool} {st stx : Option (List UInt8)} {m : Int} {s : ByteArray} (h : RSt w v bad st) (hs : TextStep st m s stx) (hx : RSt wx vx badx stx) (hu : SubV vx v) (f : Frm (Only w.heap.size) wx w') : RSt w' vx badx stx := by
  cases stx with
  | none => exact hx
  | some r =>
    obtain ⟨n, st1, h1, h2⟩ := hs
    cases st1 with
    | none => cases h2.2
    | some bs => exact ⟨hx.1, hx.2.keepIf f fun _ k hk he => by
        have h1 := rst_lt h h1 k (hu k hk)
        have h2 : k = w.heap.size := he
        omega⟩
/-- Behind the reference's step. -/
def TkMid (wr : World) (Step : Option (List UInt8) → Prop) (vr : Value) (v9 : Value) (wc : World) : Prop :=
  ∃ (nb : Nat) (vx : Value) (badx : Bool) (stx : Option (List UInt8)), v9 = .pointer (some ⟨nb, 0, none⟩) ∧ wc.heap[nb]? = some (.cells #[vx, .bool badx] 64 (0, 0)) ∧ wr.heap.size ≤ nb ∧ Step stx ∧ RSt wc vx badx stx ∧ SubV vx vr ∧ Frm Nowhere wr wc
/-- The loop's relation: both have taken the same. -/
def Old (w : World) (v : Value) (st : Option (List UInt8)) : Prop := leftOf st ≠ [] → ∀ k, v.ownBlock = some k → k < w.heap.size
theorem numStep_ne {st stx : Option (List UInt8)} {m n : Int} (h : NumStep st m n stx) (hx : stx ≠ none) : leftOf st ≠ [] := by
  cases st with
  | none => exact absurd h.2 hx
  | some bs =>
    rcases h with ⟨r, hb, _⟩ | ⟨_, _, h3⟩
    · intro e
      have h1 := congrArg List.length hb.2
      have h2 := numB_pos n
      have h3 : bs = [] := e
      subst h3
      simp only [List.length_nil, List.length_append] at h1
      omega
    · exact absurd h3 hx
theorem Old.stepN {w : World} {v vx : Value} {st stx : Option (List UInt8)} {m n : Int} (h : Old w v st) (hs : NumStep st m n stx) (hu : SubV vx v) : Old w vx stx := fun hne k hk =>
  h (numStep_ne hs fun e => by subst e; exact hne rfl) k (hu k hk)
theorem Old.stepT {w : World} {v vx : Value} {st stx : Option (List UInt8)} {m : Int} {s : ByteArray} (h : Old w v st) (hs : TextStep st m s stx) (hu : SubV vx v) : Old w vx stx := fun hne k hk => by
  obtain ⟨n, st1, h1, h2⟩ := hs
  cases st1 with
  | none => rw [h2.2] at hne; exact absurd rfl hne
  | some bs => exact h (numStep_ne h1 (by simp)) k (hu k hk)
theorem rst_keepO {w wx w' : World} {vx : Value} {badx : Bool} {stx : Option (List UInt8)} (ho : Old w vx stx) (hx : RSt wx vx badx stx) {S : Nat → Prop} (f : Frm S wx w') (hS : ∀ k, k < w.heap.size → ¬ S k) : RSt w' vx badx stx := by
  cases stx with
  | none => exact hx
  | some r => exact ⟨hx.1, hx.2.keepIf f fun hne k hk => hS k (ho (fun e => hne (by simp [leftOf] at e; subst e; rfl)) k hk)⟩
def TkRel (w : World) (ib wb : Nat) (wr : World) : Prop :=
  ∃ (st : Option (List UInt8)) (vr : Value) (bad : Bool), InSt wr ib st ∧ wr.heap[wb]? = some (.cells #[vr, .bool bad] 64 (0, 0)) ∧ RSt wr vr bad st ∧ Old w vr st ∧ Frm Nowhere w wr

theorem TkRel.keep {w wr w' : World} {ib wb : Nat} (h : TkRel w ib wb wr) (f : Frm Nowhere wr w') : TkRel w ib wb w' := by
  obtain ⟨st, vr, bad, h1, h2, h3, h4, h5⟩ := h
  exact ⟨st, vr, bad, h1.keep f fun _ _ h => h, f.blk h2 (fun h => h), h3.keep f fun _ _ h => h, h4, h5.trans f fun _ _ h => h⟩

set_option maxHeartbeats 1600000 in
set_option maxRecDepth 1000000 in
theorem takes_yes (w : World) (vb : Value) (bs : List UInt8) (hb : Rd w vb bs.length (bV bs)) (l : List Ask) (b off c : Nat) (hl : AsksAt w (.slice (some ⟨b, off, none⟩) l.length c) l) (h7 : bs.length ≤ 70000) (h2 : l.length ≤ 200) :
    Calls Try.prog 9 #[vb, .slice (some ⟨b, off, none⟩) l.length c] w fun e w' => e = .returned (.bool true) ∧ Frm (fun _ => False) w w' := by
  obtain ⟨ab, cb, rfl⟩ := rd_shape hb
  have hbl : bs ≠ [] → ∀ k, (Value.slice ab bs.length cb).ownBlock = some k → k < w.heap.size := fun hne => hb.lt (by simpa [bV] using hne)
  have HBL := Lib.hid hbl; clear hbl
  have HB := Lib.hid hb; clear hb
  have HL := Lib.hid hl; clear hl
  go_enter Try.func9, Try.ntmps9
  go_wp2_with fail
  refine (awake02 _).mono ?_
  rintro e w1 ⟨rfl, hm1⟩
  have H1 := Lib.hid hm1; clear hm1
  go_wp2_with fail
  refine (newin _ bs w1 (HB.out.keep H1.out fun _ _ h => h) (by omega)).mono ?_
  rintro e w2 ⟨ib, rfl, hst, hib, hf2⟩
  have hibw : w.heap.size ≤ ib := Nat.le_trans H1.out.size hib
  have hibl := hst.lt
  have HST := Lib.hid hst; clear hst
  have HF2 := Lib.hid (H1.out.trans hf2 fun _ _ h => h); clear hf2 hib
  go_wp2
  obtain ⟨wb, hwb⟩ : ∃ wb, wb = w2.heap.size := ⟨_, rfl⟩
  rw [← hwb]
  have HWB := Lib.hid hwb; clear hwb
  go_loopw [31] (fun i wr => (∃ k : Nat, k ≤ l.length ∧ i = .int .i64 k) ∧ TkRel w ib wb wr) (fun i _ => l.length - (intOf i).toNat)
  case atStart =>
    refine ⟨⟨0, Nat.zero_le _, rfl⟩, some bs, .slice ab bs.length cb, false, ?_, ?_, ⟨rfl, ?_⟩, fun hne k hk => HBL.out hne k hk, HF2.out.trans (Frm.alloc Nowhere w2 _) fun _ _ h => h⟩
    · exact HST.out.keep (Frm.alloc Nowhere w2 _) fun _ _ h => h
    · rw [HWB.out]; exact heap_alloc_new w2 _
    · exact HB.out.keep (HF2.out.trans (Frm.alloc Nowhere w2 _) fun _ _ h => h) fun _ _ h => h
  case round =>
    obtain ⟨⟨k, hk, rfl⟩, st, vr, bad, hin, hblk, hrs, hsub, hfm⟩ := hrel
    by_cases hlt : k < l.length
    · obtain ⟨-, q0, q1, q3⟩ := ask_at (HL.out.keep hfm fun _ _ h => h) k hlt
      generalize l.getD k Ask.zero = it at *
      have c0 : wr.cell? ⟨wb, 0, none⟩ = some vr := cell_at hblk 0 rfl
      have c1 : wr.cell? ⟨wb, 1, none⟩ = some (.bool bad) := cell_at hblk 1 rfl
      have f0 := free_at hblk 0
      have f1 := free_at hblk 1
      have hwbl := lt_of_block hblk
      have HIN := Lib.hid hin; clear hin
      have HBLK := Lib.hid hblk; clear hblk
      have HRS := Lib.hid hrs; clear hrs
      have HSUB := Lib.hid hsub; clear hsub
      have HFM := Lib.hid hfm; clear hfm
      have Q3 := Lib.hid q3; clear q3
      go_upto_if 38 with (fail)
      go_cut [4] (fun _ wd => TkRel w ib wb wd)
      case first =>
        cases ht : it.t
        · rw [ht] at q0
          clear ht
          have hcall := fun W (f : Frm Nowhere wr W) => rinum_any it.m vr bad st W (HRS.out.keep f fun _ _ h => h) Q3.out.2 Q3.out.1
          have HCALL := Lib.hid hcall; clear hcall
          go_wp2_with fail
          go_cut [10, 11] (fun v8 v9 wc => ∃ s, v8 = .int .i64 s ∧ TkMid wr (fun stx => NumStep st it.m s stx) vr v9 wc)
          case first =>
            go_region_held3 (fun w' => w'.cell? ⟨wb, 0, none⟩ = some vr ∧ w'.cell? ⟨wb, 1, none⟩ = some (.bool bad) ∧ w'.cell? ⟨b, off + k * 2 + 1, none⟩ = some (.int .i64 it.m))
              (first
                | go_keep
                | exact ⟨hfx.cell' c0 (fun h => h), hfx.cell' c1 (fun h => h), hfx.cell' q1 (fun h => h)⟩
                | exact ⟨(two_set _ _ _ _).cell' kx0 (fun h => hnwb h), (two_set _ _ _ _).cell' kx1 (fun h => hnwb h), (two_set _ _ _ _).cell' kx2 (fun h => hnb h)⟩)
              (first
                | (go_at_call 36; refine (HCALL.out wr.drew (Frm.drew Nowhere wr)).mono ?_; rintro e wx ⟨s, vx, badx, stx, rfl, hsx, hrx, hux, hfx'⟩; have hfx : Frm Nowhere wr wx := (Frm.drew Nowhere wr).trans hfx' fun _ _ h => h; have hwrx : wr.heap.size ≤ wx.heap.size := hfx.size; have kx0 := hfx.cell' c0 (fun h => h); have kx1 := hfx.cell' c1 (fun h => h); have kx2 := hfx.cell' q1 (fun h => h); have hwbx : wb < wx.heap.size := Nat.lt_of_lt_of_le hwbl hfx.size; have hbx := World.block_lt_of_cell? _ _ kx2; obtain ⟨ax, cx, rfl⟩ := hrx.shape)
                | (go_at_call 36; refine (HCALL.out (wr.alloc (.cells #[.slice none 0 0, .bool false] 64)).drew ((Frm.alloc Nowhere wr _).trans (Frm.drew Nowhere _) fun _ _ h => h)).mono ?_; rintro e wx ⟨s, vx, badx, stx, rfl, hsx, hrx, hux, hfx'⟩; have hfx : Frm Nowhere wr wx := ((Frm.alloc Nowhere wr _).trans (Frm.drew Nowhere _) fun _ _ h => h).trans hfx' fun _ _ h => h; have hnwb : ¬ wb = wr.heap.size := Nat.ne_of_lt hwbl; have hnb : ¬ b = wr.heap.size := Nat.ne_of_lt (World.block_lt_of_cell? _ _ q1); have hwrx : wr.heap.size < wx.heap.size := (by have := hfx'.size; simp at this; omega); have hc9 := fun o => hfx'.cell (p := ⟨wr.heap.size, o, none⟩) (by simp) (fun h => h); have hq9 := fun o => hfx'.frozen (p := ⟨wr.heap.size, o, none⟩) (by simp) (fun h => h); have kx0 := hfx.cell' c0 (fun h => h); have kx1 := hfx.cell' c1 (fun h => h); have kx2 := hfx.cell' q1 (fun h => h); have hwbx : wb < wx.heap.size := Nat.lt_of_lt_of_le hwbl hfx.size; have hbx := World.block_lt_of_cell? _ _ kx2; obtain ⟨ax, cx, rfl⟩ := hrx.shape))
            · go_wp2_with fail
              go_meet
              case rel => exact ⟨s, rfl, _, _, badx, stx, rfl, heap_alloc_new wx _, hwrx, hsx, hrx.keep (Frm.alloc Nowhere wx _) fun _ _ h => h, hux, hfx.trans (Frm.alloc Nowhere wx _) fun _ _ h => h⟩
            · go_wp2_with fail
              go_meet
              case rel =>
                have hb0 := hfx'.blk (k := wr.heap.size) (o := .cells #[.slice none 0 0, .bool false] 64 (0, 0)) (heap_alloc_new wr _) (fun h => h)
                have hb1 := set_at (set_at hb0 0 (.slice ax (leftOf stx).length cx)) 1 (.bool badx)
                refine ⟨s, rfl, _, .slice ax (leftOf stx).length cx, badx, stx, rfl, by simpa using hb1, Nat.le_refl _, hsx, ?_, hux, hfx.trans (two_set _ _ _ _) fun i hi hs => ?_⟩
                · exact rst_keepN HRS.out hsx hrx hux (two_set _ _ _ _)
                · have : i = wr.heap.size := hs
                  omega
          case rest =>
            obtain ⟨s, rfl, nb, vx, badx, stx, rfl, hnb, hnl, hsx, hrx, hux, hfx⟩ := hcut
            have n0 : wc.cell? ⟨nb, 0, none⟩ = some vx := cell_at hnb 0 rfl
            have n1 : wc.cell? ⟨nb, 1, none⟩ = some (.bool badx) := cell_at hnb 1 rfl
            have q1c := hfx.cell' q1 (fun h => h)
            have hin2 := HIN.out.keep hfx fun _ _ h => h
            have hbc := hfx.blk HBLK.out (fun h => h)
            obtain ⟨ax, cx, rfl⟩ := hrx.shape
            have hibwb : ib < wb := by have := HWB.out; omega
            have hwbw : w.heap.size ≤ wb := by omega
            have hnib : nb ≠ ib := by omega
            have hwib : wb ≠ ib := by omega
            have HNB := Lib.hid hnb; clear hnb
            have HSX := Lib.hid hsx; clear hsx
            have HRX := Lib.hid hrx; clear hrx
            have HUX := Lib.hid hux; clear hux
            have HFX := Lib.hid hfx; clear hfx
            have HIN2 := Lib.hid hin2; clear hin2
            have HBC := Lib.hid hbc; clear hbc
            go_wp2_with fail
            refine (inum_any ib st it.m wc HIN2.out Q3.out.2 Q3.out.1).mono ?_
            rintro e w3 ⟨s2, st2, rfl, hs2, hin3, hf3⟩
            obtain ⟨rfl, rfl⟩ := NumStep.det HSX.out hs2
            have p0 := hf3.cell' n0 hnib
            have p1 := hf3.cell' n1 hnib
            have b3 := hf3.blk HBC.out hwib
            have g0 := free_at b3 0
            have g1 := free_at b3 1
            have z0 : w3.cell? ⟨wb, 0, none⟩ = some vr := cell_at b3 0 rfl
            have z1 : w3.cell? ⟨wb, 1, none⟩ = some (.bool bad) := cell_at b3 1 rfl
            have hsz3 := lt_of_block b3
            have HIN3 := Lib.hid hin3; clear hin3
            have HF3 := Lib.hid hf3; clear hf3
            have B3 := Lib.hid b3; clear b3
            clear hs2
            go_wp2_with fail
            go_meet
            case rel =>
              have hb5 := set_at (set_at B3.out 0 (.slice ax (leftOf stx).length cx)) 1 (.bool badx)
              have old := HSUB.out.stepN HSX.out HUX.out
              have f35 := two_set w3 wb (.slice ax (leftOf stx).length cx) (.bool badx)
              have fc5 : Frm (fun k => k = ib ∨ k = wb) wc ((w3.setCell ⟨wb, 0, none⟩ (.slice ax (leftOf stx).length cx)).setCell ⟨wb, 1, none⟩ (.bool badx)) :=
                (HF3.out.mono (T := fun k => k = ib ∨ k = wb) fun _ _ h => .inl h).trans f35 fun _ _ h => .inr h
              refine ⟨stx, .slice ax (leftOf stx).length cx, badx, HIN3.out.keep f35 (fun k hk hs => ?_), by simpa using hb5, rst_keepO old HRX.out fc5 (fun k hk hs => ?_), old, (HFM.out.trans HFX.out fun _ _ h => h).trans fc5 fun i hi hs => ?_⟩
              · have : k = wb := hs
                omega
              · omega
              · omega
        · rw [ht] at q0
          clear ht
          have hcall := fun W (f : Frm Nowhere wr W) => ritext_any it.m vr bad st W (HRS.out.keep f fun _ _ h => h) Q3.out.2 Q3.out.1
          have HCALL := Lib.hid hcall; clear hcall
          go_wp2_with fail
          go_cut [8, 9] (fun v8 v9 wc => ∃ s, v8 = .string s ∧ TkMid wr (fun stx => TextStep st it.m s stx) vr v9 wc)
          case first =>
            go_region_held3 (fun w' => w'.cell? ⟨wb, 0, none⟩ = some vr ∧ w'.cell? ⟨wb, 1, none⟩ = some (.bool bad) ∧ w'.cell? ⟨b, off + k * 2 + 1, none⟩ = some (.int .i64 it.m))
              (first
                | go_keep
                | exact ⟨hfx.cell' c0 (fun h => h), hfx.cell' c1 (fun h => h), hfx.cell' q1 (fun h => h)⟩
                | exact ⟨(two_set _ _ _ _).cell' kx0 (fun h => hnwb h), (two_set _ _ _ _).cell' kx1 (fun h => hnwb h), (two_set _ _ _ _).cell' kx2 (fun h => hnb h)⟩)
              (first
                | (go_at_call 35; refine (HCALL.out wr.drew (Frm.drew Nowhere wr)).mono ?_; rintro e wx ⟨s, vx, badx, stx, rfl, hsx, hrx, hux, hfx'⟩; have hfx : Frm Nowhere wr wx := (Frm.drew Nowhere wr).trans hfx' fun _ _ h => h; have hwrx : wr.heap.size ≤ wx.heap.size := hfx.size; have kx0 := hfx.cell' c0 (fun h => h); have kx1 := hfx.cell' c1 (fun h => h); have kx2 := hfx.cell' q1 (fun h => h); have hwbx : wb < wx.heap.size := Nat.lt_of_lt_of_le hwbl hfx.size; have hbx := World.block_lt_of_cell? _ _ kx2; obtain ⟨ax, cx, rfl⟩ := hrx.shape)
                | (go_at_call 35; refine (HCALL.out (wr.alloc (.cells #[.slice none 0 0, .bool false] 64)).drew ((Frm.alloc Nowhere wr _).trans (Frm.drew Nowhere _) fun _ _ h => h)).mono ?_; rintro e wx ⟨s, vx, badx, stx, rfl, hsx, hrx, hux, hfx'⟩; have hfx : Frm Nowhere wr wx := ((Frm.alloc Nowhere wr _).trans (Frm.drew Nowhere _) fun _ _ h => h).trans hfx' fun _ _ h => h; have hnwb : ¬ wb = wr.heap.size := Nat.ne_of_lt hwbl; have hnb : ¬ b = wr.heap.size := Nat.ne_of_lt (World.block_lt_of_cell? _ _ q1); have hwrx : wr.heap.size < wx.heap.size := (by have := hfx'.size; simp at this; omega); have hc9 := fun o => hfx'.cell (p := ⟨wr.heap.size, o, none⟩) (by simp) (fun h => h); have hq9 := fun o => hfx'.frozen (p := ⟨wr.heap.size, o, none⟩) (by simp) (fun h => h); have kx0 := hfx.cell' c0 (fun h => h); have kx1 := hfx.cell' c1 (fun h => h); have kx2 := hfx.cell' q1 (fun h => h); have hwbx : wb < wx.heap.size := Nat.lt_of_lt_of_le hwbl hfx.size; have hbx := World.block_lt_of_cell? _ _ kx2; obtain ⟨ax, cx, rfl⟩ := hrx.shape))
            · go_wp2_with fail
              go_meet
              case rel => exact ⟨s, rfl, _, _, badx, stx, rfl, heap_alloc_new wx _, hwrx, hsx, hrx.keep (Frm.alloc Nowhere wx _) fun _ _ h => h, hux, hfx.trans (Frm.alloc Nowhere wx _) fun _ _ h => h⟩
            · go_wp2_with fail
              go_meet
              case rel =>
                have hb0 := hfx'.blk (k := wr.heap.size) (o := .cells #[.slice none 0 0, .bool false] 64 (0, 0)) (heap_alloc_new wr _) (fun h => h)
                have hb1 := set_at (set_at hb0 0 (.slice ax (leftOf stx).length cx)) 1 (.bool badx)
                refine ⟨s, rfl, _, .slice ax (leftOf stx).length cx, badx, stx, rfl, by simpa using hb1, Nat.le_refl _, hsx, ?_, hux, hfx.trans (two_set _ _ _ _) fun i hi hs => ?_⟩
                · exact rst_keepT HRS.out hsx hrx hux (two_set _ _ _ _)
                · have : i = wr.heap.size := hs
                  omega
          case rest =>
            obtain ⟨s, rfl, nb, vx, badx, stx, rfl, hnb, hnl, hsx, hrx, hux, hfx⟩ := hcut
            have n0 : wc.cell? ⟨nb, 0, none⟩ = some vx := cell_at hnb 0 rfl
            have n1 : wc.cell? ⟨nb, 1, none⟩ = some (.bool badx) := cell_at hnb 1 rfl
            have q1c := hfx.cell' q1 (fun h => h)
            have hin2 := HIN.out.keep hfx fun _ _ h => h
            have hbc := hfx.blk HBLK.out (fun h => h)
            obtain ⟨ax, cx, rfl⟩ := hrx.shape
            have hibwb : ib < wb := by have := HWB.out; omega
            have hwbw : w.heap.size ≤ wb := by omega
            have hnib : nb ≠ ib := by omega
            have hwib : wb ≠ ib := by omega
            have HNB := Lib.hid hnb; clear hnb
            have HSX := Lib.hid hsx; clear hsx
            have HRX := Lib.hid hrx; clear hrx
            have HUX := Lib.hid hux; clear hux
            have HFX := Lib.hid hfx; clear hfx
            have HIN2 := Lib.hid hin2; clear hin2
            have HBC := Lib.hid hbc; clear hbc
            go_wp2_with fail
            refine (itext_any ib st it.m wc HIN2.out Q3.out.2 Q3.out.1).mono ?_
            rintro e w3 ⟨s2, st2, rfl, hs2, hin3, hf3⟩
            obtain ⟨rfl, rfl⟩ := TextStep.det HSX.out hs2
            have p0 := hf3.cell' n0 hnib
            have p1 := hf3.cell' n1 hnib
            have b3 := hf3.blk HBC.out hwib
            have g0 := free_at b3 0
            have g1 := free_at b3 1
            have z0 : w3.cell? ⟨wb, 0, none⟩ = some vr := cell_at b3 0 rfl
            have z1 : w3.cell? ⟨wb, 1, none⟩ = some (.bool bad) := cell_at b3 1 rfl
            have hsz3 := lt_of_block b3
            have HIN3 := Lib.hid hin3; clear hin3
            have HF3 := Lib.hid hf3; clear hf3
            have B3 := Lib.hid b3; clear b3
            clear hs2
            go_wp2_with fail
            go_meet
            case rel =>
              have hb5 := set_at (set_at B3.out 0 (.slice ax (leftOf stx).length cx)) 1 (.bool badx)
              have old := HSUB.out.stepT HSX.out HUX.out
              have f35 := two_set w3 wb (.slice ax (leftOf stx).length cx) (.bool badx)
              have fc5 : Frm (fun k => k = ib ∨ k = wb) wc ((w3.setCell ⟨wb, 0, none⟩ (.slice ax (leftOf stx).length cx)).setCell ⟨wb, 1, none⟩ (.bool badx)) :=
                (HF3.out.mono (T := fun k => k = ib ∨ k = wb) fun _ _ h => .inl h).trans f35 fun _ _ h => .inr h
              refine ⟨stx, .slice ax (leftOf stx).length cx, badx, HIN3.out.keep f35 (fun k hk hs => ?_), by simpa using hb5, rst_keepO old HRX.out fc5 (fun k hk hs => ?_), old, (HFM.out.trans HFX.out fun _ _ h => h).trans fc5 fun i hi hs => ?_⟩
              · have : k = wb := hs
                omega
              · omega
              · omega
      case rest =>
        obtain ⟨st', vx, badx, hin', hblk', hrs', hold', hfm'⟩ := hcut
        obtain ⟨ax, cx, rfl⟩ := hrs'.shape
        have hbx := hrs'.isNone
        have hl := left_go ib st'
        have hb := bad_go ib st'
        have hd := done_go ib st'
        have hrd := fun W (f : Frm Nowhere wc W) => rdone W (.slice ax (leftOf st').length cx) badx st' (hrs'.keep f fun _ _ h => h)
        rw [← hbx] at hb
        have m0 : wc.cell? ⟨wb, 0, none⟩ = some (.slice ax (leftOf st').length cx) := cell_at hblk' 0 rfl
        have m1 : wc.cell? ⟨wb, 1, none⟩ = some (.bool badx) := cell_at hblk' 1 rfl
        have hrel' : TkRel w ib wb wc := ⟨st', _, badx, hin', hblk', hrs', hold', hfm'⟩
        have HREL := Lib.hid hrel'; clear hrel'
        have hind : InSt wc.drew ib st' := hin'.keep (Frm.drew Nowhere wc) fun _ _ h => h
        have HIND := Lib.hid hind; clear hind
        have HIN' := Lib.hid hin'; clear hin'
        clear hblk' hrs' hold' hfm' hbx
        generalize (leftOf st').length = n0 at *
        generalize doneOf st' = d0 at *
        have HLF := Lib.hid hl; clear hl
        have HBD := Lib.hid hb; clear hb
        have HDN := Lib.hid hd; clear hd
        have HRD := Lib.hid hrd; clear hrd
        clear q0 q1 c0 c1 f0 f1
        go_wp2_with fail
        go_region_held3 (fun w' => w'.cell? ⟨wb, 0, none⟩ = some (.slice ax n0 cx) ∧ w'.cell? ⟨wb, 1, none⟩ = some (.bool badx))
          (first
            | go_keep
            | exact ⟨hfy.cell' m0 (fun h => h), hfy.cell' m1 (fun h => h)⟩)
          (first
            | (go_at_call 32; refine (HBD.out wc.drew HIND.out).mono ?_; rintro e wx ⟨rfl, rfl⟩)
            | (go_at_call 37; refine (HRD.out wc.drew (Frm.drew Nowhere wc)).mono ?_; rintro e wy ⟨rfl, hfy'⟩; have hfy : Frm Nowhere wc wy := (Frm.drew Nowhere wc).trans hfy' fun _ _ h => h; have hiny := HIN'.out.keep hfy fun _ _ h => h)
            | (go_at_call 33; refine (HDN.out wc.drew HIND.out).mono ?_; rintro e wx ⟨rfl, rfl⟩)
            | (go_at_call 33; refine (HDN.out _ hiny).mono ?_; rintro e wx ⟨rfl, rfl⟩)
            | (go_at_call 31; refine (HLF.out wc.drew HIND.out).mono ?_; rintro e wx ⟨rfl, rfl⟩))
        go_wp2
        go_roundw
        case rel => exact ⟨⟨k + 1, by omega, by go_num⟩, HREL.out.keep hfy⟩
        case measure => simp [intOf]; omega
    · have HFM := Lib.hid hfm; clear hfm
      clear hin hblk hrs hsub
      go_wp2
      go_ret
      exact ⟨rfl, HFM.out⟩

set_option maxHeartbeats 400000 in
set_option maxRecDepth 1000000 in
theorem takes_none (w : World) (vb : Value) (bs : List UInt8) (hb : Rd w vb bs.length (bV bs)) (ad : Option Addr) (h7 : bs.length ≤ 70000) :
    Calls Try.prog 9 #[vb, .slice ad 0 0] w fun e w' => e = .returned (.bool true) ∧ Frm (fun _ => False) w w' := by
  obtain ⟨ab, cb, rfl⟩ := rd_shape hb
  have HB := Lib.hid hb; clear hb
  go_enter Try.func9, Try.ntmps9
  go_wp2_with fail
  refine (awake02 _).mono ?_
  rintro e w1 ⟨rfl, hm1⟩
  have H1 := Lib.hid hm1; clear hm1
  go_wp2_with fail
  refine (newin _ bs w1 (HB.out.keep H1.out fun _ _ h => h) (by omega)).mono ?_
  rintro e w2 ⟨ib, rfl, -, -, hf2⟩
  have HF2 := Lib.hid (H1.out.trans hf2 fun _ _ h => h); clear hf2
  go_wp2
  go_loop [31] (fun i => i = .int .i64 0) (fun _ => 0)
  case atStart => exact rfl
  case round =>
    obtain rfl := hrel
    go_wp2
    go_ret
    exact ⟨rfl, HF2.out.trans (Frm.alloc Nowhere w2 _) fun _ _ h => h⟩

set_option maxHeartbeats 400000 in
set_option maxRecDepth 1000000 in
theorem takes_no (w : World) (ab al : Option Addr) (nb cb nl cl : Nat) (hn : 70000 < nb ∨ 200 < nl) :
    Calls Try.prog 9 #[.slice ab nb cb, .slice al nl cl] w fun e w' => e = .returned (.bool true) ∧ Frm (fun _ => False) w w' := by
  rcases (show 70000 < nb ∨ (nb ≤ 70000 ∧ 200 < nl) by omega) with h7 | ⟨h7, h2⟩
  all_goals
    clear hn
    go_enter Try.func9, Try.ntmps9
    go_wp2_with fail
    refine (awake02 _).mono ?_
    rintro e w1 ⟨rfl, hm1⟩
    have H1 := Lib.hid hm1; clear hm1
    go_wp2_with fail
    refine (awake02 _).mono ?_
    rintro e w3 ⟨rfl, hm3⟩
    have H3 := Lib.hid hm3; clear hm3
    go_wp2
    go_ret
    exact ⟨rfl, H1.out.trans H3.out fun _ _ h => h⟩

theorem takes_law (w : World) (vb : Value) (hb : ∃ bs : List UInt8, Rd w vb bs.length (bV bs)) (vl : Value) (hl : ∃ l, AsksAt w vl l) :
    Calls Try.prog 9 #[vb, vl] w fun e w' => e = .returned (.bool true) ∧ Frm (fun _ => False) w w' := by
  obtain ⟨bs, hb⟩ := hb
  obtain ⟨l, hl⟩ := hl
  by_cases h7 : bs.length ≤ 70000 ∧ l.length ≤ 200
  · rcases hl.shape with ⟨ad, rfl, rfl⟩ | ⟨b, off, c, rfl, _⟩
    · exact takes_none w vb bs hb ad h7.1
    · exact takes_yes w vb bs hb l b off c hl h7.1 h7.2
  · obtain ⟨ab, cb, rfl⟩ := rd_shape hb
    obtain ⟨al, cl, rfl⟩ : ∃ a c, vl = .slice a l.length c := by
      rcases hl.shape with ⟨ad, h1, h2⟩ | ⟨b, off, c, h1, _⟩
      · subst h2; exact ⟨ad, 0, h1⟩
      · exact ⟨_, c, h1⟩
    exact takes_no w ab al _ cb _ cl (by omega)

end Go.Proofs.Ytclihppeaikhiaa
