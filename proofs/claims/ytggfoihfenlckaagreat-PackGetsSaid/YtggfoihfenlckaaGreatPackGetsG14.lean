/- Words for the law PackGets: R16e, GetAt, PackGet2. -/
import Derived.Test.YtggfoihfenlckaaGreatPackGetsG4
import Derived.Test.YtggfoihfenlckaaGreatPackGetsG11
import Derived.Test.YtggfoihfenlckaaGreatPackGetsG12
import Derived.Test.YtggfoihfenlckaaGreatPackGetsG13
import Derived.Deep.RegionLaw
set_option linter.unusedSimpArgs false
set_option linter.unusedVariables false
/- tributaryref16: how a step of the reference's In turns memory; ToCtx: the walk. -/
namespace Go.Proofs.YtggfoihfenlckaaGreat
open Go.RowKit
theorem CntStep.total (st : Option (List UInt8)) (m : Int) : ∃ n st', CntStep st m n st' := by
  obtain ⟨v, s1, h1⟩ := NumStep.total st m
  cases s1 with
  | none => exact ⟨0, none, v, none, h1, rfl, rfl⟩
  | some r =>
    by_cases h : 0 ≤ v ∧ v ≤ r.length
    · exact ⟨v.toNat, some r, v, some r, h1, .inl ⟨h.1, h.2, rfl, rfl⟩⟩
    · exact ⟨0, none, v, some r, h1, .inr ⟨by omega, rfl, rfl⟩⟩
/-- The In's box (w's first new block) and a block that is filled, in a world behind wr. -/
structure Stg (w0 w wr W : World) (B : Nat) (T : TypeId) (cs : Array Value) (v : Value) (t : Option (List UInt8)) : Prop where
  rin : RIn w0 W v t
  box : W.heap[w.heap.size]? = some (.cells #[v, .bool t.isNone] 51 (0, 0))
  blk : W.heap[B]? = some (.cells cs T (0, 0))
  frm : Frm (Only w.heap.size) wr W
  new : wr.heap.size ≤ B
  old : w.heap.size < wr.heap.size
  h0 : w0.heap.size ≤ w.heap.size
section
variable {w0 w wr W W1 : World} {B : Nat} {T : TypeId} {cs : Array Value} {v v' : Value} {t t' : Option (List UInt8)}
theorem Stg.call (h : Stg w0 w wr W B T cs v t) (f : Frm NoS W W1) : Stg w0 w wr W1 B T cs v t :=
  ⟨h.rin.keep0 f, f.blk h.box id, f.blk h.blk id, h.frm.trans f fun _ _ s => s.elim, h.new, h.old, h.h0⟩
theorem Stg.put (h : Stg w0 w wr W B T cs v t) (hr : RIn w0 W v' t') : Stg w0 w wr ((W.setCell ⟨w.heap.size, 0, none⟩ v').setCell ⟨w.heap.size, 1, none⟩ (.bool t'.isNone)) B T cs v' t' :=
  have f := two_set W w.heap.size v' (.bool t'.isNone)
  ⟨hr.keep f fun k hk hs => (by have hs : k = w.heap.size := hs; have := h.h0; omega), set_at' (set_at' h.box 0 v') 1 _, f.blk h.blk fun hs => (by have hs : B = w.heap.size := hs; have := h.new; have := h.old; omega), h.frm.trans f fun _ _ s => s, h.new, h.old, h.h0⟩
theorem Stg.fld (h : Stg w0 w wr W B T cs v t) (j : Nat) (x : Value) : Stg w0 w wr (W.setCell ⟨B, j, none⟩ x) B T (cs.setIfInBounds j x) v t :=
  have f := only_set W B j x
  have ne : w.heap.size ≠ B := by have := h.new; have := h.old; omega
  ⟨h.rin.keep f fun k hk hs => (by have hs : k = B := hs; have := h.h0; have := h.new; have := h.old; omega), f.blk h.box ne, set_at' h.blk j x, h.frm.trans f fun i hi hs => (by have hs : i = B := hs; have := h.new; omega), h.new, h.old, h.h0⟩
theorem Stg.facts (h : Stg w0 w wr W B T cs v t) : W.cell? ⟨w.heap.size, 0, none⟩ = some v ∧ W.cell? ⟨w.heap.size, 1, none⟩ = some (.bool t.isNone) ∧ W.frozen? ⟨w.heap.size, 0, none⟩ = false ∧ W.frozen? ⟨w.heap.size, 1, none⟩ = false ∧ w.heap.size < W.heap.size ∧ B < W.heap.size ∧ ¬ B = w.heap.size ∧ ¬ w.heap.size = B :=
  ⟨cell_at' h.box 0 rfl, cell_at' h.box 1 rfl, free_at' h.box 0, free_at' h.box 1, lt_of_block h.box, lt_of_block h.blk, by have := h.new; have := h.old; omega, by have := h.new; have := h.old; omega⟩
theorem Stg.next (h : Stg w0 w wr W B T cs v t) (f : Frm NoS W W1) (hr : RIn w0 W1 v' t') (j : Nat) (x : Value) :
    Stg w0 w wr (((W1.setCell ⟨B, j, none⟩ x).setCell ⟨w.heap.size, 0, none⟩ v').setCell ⟨w.heap.size, 1, none⟩ (.bool t'.isNone)) B T (cs.setIfInBounds j x) v' t' :=
  ((h.call f).fld j x).put (hr.keep (only_set W1 B j x) fun k hk hs => (by have hs : k = B := hs; have := h.h0; have := h.new; have := h.old; omega))
theorem Stg.free (h : Stg w0 w wr W B T cs v t) (j : Nat) : W.frozen? ⟨B, j, none⟩ = false := free_at' h.blk j
end
/-- A context that is being read. -/
structure ToC (w0 w W : World) (s1 : Option (List UInt8)) (k : Nat) (cv : Value) (cs : CtxL) (s : Option (List UInt8)) : Prop where
  run : SpRun bdR s1 k cs s
  box : ∃ a l, RIn w0 W (.slice a (leftOf s).length l) s ∧ Box2 w W (.slice a (leftOf s).length l) (.bool s.isNone) #[.slice none 0 0, .bool false] 51
  own : W.ownsRow 0 122 3 cv k (spC cs)
  new : ∀ b, cv.ownBlock = some b → w.heap.size + 1 + 1 ≤ b
theorem ToC.next {w0 w WO W w6 : World} {s1 t0 t3 : Option (List UInt8)} {k : Nat} {cv cv' : Value} {cs : CtxL} {B : Nat} {T : TypeId} {cs8 : Array Value} {al : Option Addr} {cl : Nat} {d a b : Int} (h : ToC w0 w WO s1 k cv cs t0) (hs : Stg w0 w WO W B T cs8 (.slice al (leftOf t3).length cl) t3) (hsp : SpStep bdR t0 (d, a, b) t3)
    (own6 : w6.ownsRow 0 122 3 cv' (k + 1) (spC cs ++ [.int .i64 d, .int .i64 a, .int .i64 b])) (fm6 : Frm (RowS cv) W w6) (fr6 : Fresh W cv cv') : ToC w0 w w6 s1 (k + 1) cv' (cs ++ [(d, a, b)]) t3 := by
  obtain ⟨a2, c2, _, hb2⟩ := h.box
  have hr : W.heap[w.heap.size + 1]? = some (.cells #[.slice none 0 0, .bool false] 51 (0, 0)) := hs.frm.blk hb2.res fun e => by have e : w.heap.size + 1 = w.heap.size := e; omega
  have hlt := lt_of_block hr
  have n0 : ¬ RowS cv w.heap.size := fun e => by have := h.new _ e; omega
  have n1 : ¬ RowS cv (w.heap.size + 1) := fun e => by have := h.new _ e; omega
  refine ⟨.snoc h.run hsp, ⟨al, cl, hs.rin.keep fm6 fun j hj e => (by have := h.new j e; have := hs.h0; omega), fm6.blk hs.box n0, fm6.blk hr n1, ?_⟩, by rw [← spC_snoc]; exact own6, fun j hj => ?_⟩
  · exact (hb2.frm.trans hs.frm fun i hi e => by have e : i = w.heap.size := e; omega).trans fm6 fun i hi e => by have := h.new i e; omega
  · rcases fr6 j hj with e | e
    · exact h.new j e
    · omega
theorem ToC.done {w0 w W w' : World} {s1 s : Option (List UInt8)} {k : Nat} {cv : Value} {cs : CtxL} (h : ToC w0 w W s1 k cv cs s) (f : Frm (Only (w.heap.size + 1)) W w') : RdQ (fun b => w.heap.size ≤ b) w' cv cs.length (spC cs) := by
  rw [h.run.len]
  exact ⟨Rd.own (f.owns h.own fun j hj e => by have e : j = w.heap.size + 1 := e; have := h.new j hj; omega), fun _ j hj => by have := h.new j hj; omega⟩
def ToCtxPost (w0 w : World) (c : CtxL) (s : Option (List UInt8)) (e : Ending) (w' : World) : Prop :=
  ∃ cv a l, e = .returned (.tuple #[cv, .agg #[.slice a (leftOf s).length l, .bool s.isNone]]) ∧ RdQ (fun b => w.heap.size ≤ b) w' cv c.length (spC c) ∧ RIn w0 w' (.slice a (leftOf s).length l) s ∧ Frm NoS w w'
set_option maxHeartbeats 8000000 in
set_option maxRecDepth 1000000 in
theorem r16ToCtx_at {w0 : World} {v : Value} {st s : Option (List UInt8)} {c : CtxL} (w : World) (h : RIn w0 w v st) (h0 : w0.heap.size ≤ w.heap.size) (hc : CtxRes st c s) (hl : (leftOf st).length ≤ 60000) :
    Calls Tryz.prog 62 #[.agg #[v, .bool st.isNone]] w (ToCtxPost w0 w c s) := by
  obtain ⟨i0, hi, hz0, hz1, hz2⟩ := info_parts info_span
  obtain ⟨n, s1, hcnt⟩ := CntStep.total st 9223372036854775807
  have hn6 : n ≤ 60000 := by have := hcnt.left; omega
  obtain ⟨a0, c0, rfl⟩ := h.shape
  have HB0 := Lib.hid (Box2.start w (.slice a0 (leftOf st).length c0) (.bool st.isNone) #[.slice none 0 0, .bool false] 51)
  have HM := Lib.hid (fun W (f : Frm NoS w W) => many_at W (h.keep0 f) (Nat.le_trans h0 f.size) hcnt)
  unfold RPost at HM
  have HH0 := Lib.hid h0; clear h0
  have HCNT := Lib.hid hcnt; clear hcnt
  have HC := Lib.hid hc; clear hc
  have HL := Lib.hid hl; clear hl
  clear h
  generalize st.isNone = bd at *
  generalize hLL : (leftOf st).length = L0 at *
  have HLL := Lib.hid hLL; clear hLL
  generalize hL1 : (leftOf s1).length = L1 at *
  generalize hb1 : s1.isNone = b1 at *
  have HL1 := Lib.hid hL1; clear hL1
  have HBD1 := Lib.hid hb1; clear hb1
  go_enter Tryz.func62, Tryz.ntmps62
  go_wp2_with (go_at_call 118; refine (HM.out _ HB0.out.frm).mono ?_; rintro e w1 ⟨a1, c1, rfl, hr1, hf1⟩; have HB1 := Lib.hid ((HB0.out.keep hf1).put (.slice a1 L1 c1) (.bool b1)); obtain ⟨y0, y1, y2, y3, y4⟩ := (HB0.out.keep hf1).facts; have HR1 := Lib.hid hr1; clear hr1 hf1)
  go_loopw [4, 14] (fun cv i W => ∃ (k : Nat) (cs : CtxL) (s : Option (List UInt8)), k ≤ n ∧ i = .int .i64 k ∧ ToC w0 w W s1 k cv cs s) (fun _ i _ => n - (intOf i).toNat)
  case atStart =>
    have e1 := HL1.out
    have e2 := HBD1.out
    subst e1 e2
    exact ⟨0, [], s1, Nat.zero_le _, rfl, .zero, ⟨a1, c1, HR1.out.keep (two_set _ _ _ _) (fun k hk hs => by have hs : k = w.heap.size := hs; have := HH0.out; omega), HB1.out⟩, World.ownsRow_nil _ 0 _ 3, fun b hb => by simp [Value.ownBlock] at hb⟩
  case round =>
    clear HB1 HR1 y0 y1 y2 y3 y4
    obtain ⟨k, cs, t0, hk, rfl, htc⟩ := hrel
    obtain ⟨aV, cV, rfl⟩ := (Rd.own htc.own).sl
    have HTC := Lib.hid htc; clear htc
    by_cases hlt : k < n
    · obtain ⟨d, a, b, t1, t2, t3, g1, g2, g3⟩ := SpStep.total bdR t0
      obtain ⟨a2, c2, hr2, hb2⟩ := HTC.out.box
      have hstg : ∀ (WA : World) , Frm NoS wr WA → WA.heap[wr.heap.size]? = some (.cells #[.int .i64 0, .int .i64 0, .int .i64 0] 164 (0, 0)) → Stg w0 w wr WA wr.heap.size 164 #[.int .i64 0, .int .i64 0, .int .i64 0] (.slice a2 (leftOf t0).length c2) t0 :=
        fun WA f hB => ⟨hr2.keep0 f, f.blk hb2.box id, hB, f.mono fun _ _ s => s.elim, Nat.le_refl _, lt_of_block hb2.box, HH0.out⟩
      have HSTG := Lib.hid hstg; clear hstg
      have HFR := Lib.hid hb2.frm
      obtain ⟨y0, y1, y2, y3, y4⟩ := hb2.facts
      clear hr2 hb2
      have HG1 := Lib.hid (fun W a l (hs : RIn w0 W (.slice a (leftOf t0).length l) t0) => rnum_at hs g1 (by decide) (by decide))
      have HG2 := Lib.hid (fun W a l (hs : RIn w0 W (.slice a (leftOf t1).length l) t1) => rnum_at hs g2 (by decide) (by decide))
      have HG3 := Lib.hid (fun W a l (hs : RIn w0 W (.slice a (leftOf t2).length l) t2) => rnum_at hs g3 (by decide) (by decide))
      have HSP := Lib.hid (show SpStep bdR t0 (d, a, b) t3 from ⟨t1, t2, g1, g2, g3⟩)
      unfold RPost at HG1 HG2 HG3
      simp only [bdR] at HG1 HG2 HG3
      clear g1 g2 g3
      have HAL := Lib.hid (heap_alloc_new wr (.cells #[.int .i64 0, .int .i64 0, .int .i64 0] 164))
      obtain ⟨WO, hWO⟩ : ∃ W, W = wr := ⟨wr, rfl⟩
      subst hWO
      go_wp2
      go_loopw [16] (fun j W => ∃ (J : Nat) (x y z : Int) (t : Option (List UInt8)) (al : Option Addr) (cl : Nat), ((J = 0 ∧ x = 0 ∧ y = 0 ∧ z = 0 ∧ t = t0) ∨ (J = 1 ∧ x = d ∧ y = 0 ∧ z = 0 ∧ t = t1) ∨ (J = 2 ∧ x = d ∧ y = a ∧ z = 0 ∧ t = t2) ∨ (J = 3 ∧ x = d ∧ y = a ∧ z = b ∧ t = t3)) ∧ j = .int .i64 J ∧ Stg w0 w WO W WO.heap.size 164 #[.int .i64 x, .int .i64 y, .int .i64 z] (.slice al (leftOf t).length cl) t) (fun j _ => 3 - (intOf j).toNat)
      case atStart => exact ⟨0, 0, 0, 0, t0, a2, c2, .inl ⟨rfl, rfl, rfl, rfl, rfl⟩, rfl, HSTG.out _ (Frm.alloc _ _ _) HAL.out⟩
      case round =>
        clear y0 y1 y2 y3
        obtain ⟨J, x, y, z, t, al, cl, hcase, rfl, hs⟩ := hrel
        rcases hcase with ⟨rfl, rfl, rfl, rfl, rfl⟩ | ⟨rfl, rfl, rfl, rfl, rfl⟩ | ⟨rfl, rfl, rfl, rfl, rfl⟩ | ⟨rfl, rfl, rfl, rfl, rfl⟩
        · have HC1 := Lib.hid (HG1.out wr al cl hs.rin)
          obtain ⟨y0, y1, -⟩ := hs.facts
          have HS := Lib.hid hs; clear hs HG1 HG2 HG3 HSTG
          generalize (leftOf t).length = Lx at *
          generalize t.isNone = bx at *
          generalize hly : (leftOf t1).length = Ly at *
          generalize hby : t1.isNone = by' at *
          have HLY := Lib.hid hly; clear hly
          have HBY := Lib.hid hby; clear hby
          go_wp2_with (go_at_call 105; refine HC1.out.mono ?_; rintro e W1 ⟨a5, c5, rfl, hr5, hf5⟩; clear y0 y1; obtain ⟨z0, z1, z2, z3, z4, z5, z6, z7⟩ := (HS.out.call hf5).facts; have z8 := (HS.out.call hf5).free 0; have z9 := cell_at' (HS.out.call hf5).blk 0 rfl; have HF5 := Lib.hid hf5; have HR5 := Lib.hid hr5; clear hf5 hr5)
          go_roundw
          case rel =>
            have e1 := HLY.out
            have e2 := HBY.out
            subst e1 e2
            exact ⟨1, d, 0, 0, t1, a5, c5, .inr (.inl ⟨rfl, rfl, rfl, rfl, rfl⟩), by go_num, HS.out.next HF5.out HR5.out 0 (.int .i64 d)⟩
          case measure => simp [intOf]
        · have HC1 := Lib.hid (HG2.out wr al cl hs.rin)
          obtain ⟨y0, y1, -⟩ := hs.facts
          have HS := Lib.hid hs; clear hs HG1 HG2 HG3 HSTG
          generalize (leftOf t).length = Lx at *
          generalize t.isNone = bx at *
          generalize hly : (leftOf t2).length = Ly at *
          generalize hby : t2.isNone = by' at *
          have HLY := Lib.hid hly; clear hly
          have HBY := Lib.hid hby; clear hby
          go_wp2_with (go_at_call 105; refine HC1.out.mono ?_; rintro e W1 ⟨a5, c5, rfl, hr5, hf5⟩; clear y0 y1; obtain ⟨z0, z1, z2, z3, z4, z5, z6, z7⟩ := (HS.out.call hf5).facts; have z8 := (HS.out.call hf5).free 1; have z9 := cell_at' (HS.out.call hf5).blk 1 rfl; have HF5 := Lib.hid hf5; have HR5 := Lib.hid hr5; clear hf5 hr5)
          go_roundw
          case rel =>
            have e1 := HLY.out
            have e2 := HBY.out
            subst e1 e2
            exact ⟨2, x, a, 0, t2, a5, c5, .inr (.inr (.inl ⟨rfl, rfl, rfl, rfl, rfl⟩)), by go_num, HS.out.next HF5.out HR5.out 1 (.int .i64 a)⟩
          case measure => simp [intOf]
        · have HC1 := Lib.hid (HG3.out wr al cl hs.rin)
          obtain ⟨y0, y1, -⟩ := hs.facts
          have HS := Lib.hid hs; clear hs HG1 HG2 HG3 HSTG
          generalize (leftOf t).length = Lx at *
          generalize t.isNone = bx at *
          generalize hly : (leftOf t3).length = Ly at *
          generalize hby : t3.isNone = by' at *
          have HLY := Lib.hid hly; clear hly
          have HBY := Lib.hid hby; clear hby
          go_wp2_with (go_at_call 105; refine HC1.out.mono ?_; rintro e W1 ⟨a5, c5, rfl, hr5, hf5⟩; clear y0 y1; obtain ⟨z0, z1, z2, z3, z4, z5, z6, z7⟩ := (HS.out.call hf5).facts; have z8 := (HS.out.call hf5).free 2; have z9 := cell_at' (HS.out.call hf5).blk 2 rfl; have HF5 := Lib.hid hf5; have HR5 := Lib.hid hr5; clear hf5 hr5)
          go_roundw
          case rel =>
            have e1 := HLY.out
            have e2 := HBY.out
            subst e1 e2
            exact ⟨3, x, y, b, t3, a5, c5, .inr (.inr (.inr ⟨rfl, rfl, rfl, rfl, rfl⟩)), by go_num, HS.out.next HF5.out HR5.out 2 (.int .i64 b)⟩
          case measure => simp [intOf]
        · have z0 := cell_at' hs.blk 0 rfl
          have z1 := cell_at' hs.blk 1 rfl
          have z2 := cell_at' hs.blk 2 rfl
          have hown := hs.frm.owns HTC.out.own fun j hj e => by have e : j = w.heap.size := e; have := HTC.out.new j hj; omega
          have HOWN := Lib.hid hown; clear hown
          have HS := Lib.hid hs; clear hs HG1 HG2 HG3 HSTG
          go_wp2_with (at_builtin; go_loud (refine wpList_app1 wr [.int .i64 x, .int .i64 y, .int .i64 z] rfl (.tmp 27) (.tmp 35) 31 rfl 122 i0 _ 3 24 Tryz.underlying31 hi hz0 hz1 hz2 (by decide) (by decide) _ _ _ HOWN.out 1 1 rfl rfl rfl ?c1 ?c2 ?c3 ?_))
          case c1 => simp [Value.oneCell']
          case c2 => simp only [maxLen]; omega
          case c3 => omega
          intro ad cc w6 own6 fm6 fr6
          have HTC6 := Lib.hid (HTC.out.next HS.out HSP.out own6 fm6 fr6)
          clear own6 fm6 fr6 z0 z1 z2
          go_wp2
          go_roundw
          case rel => exact ⟨k + 1, _, _, by omega, by go_num, HTC6.out⟩
          case measure => simp [intOf]; omega
    · obtain rfl : n = k := by omega
      obtain ⟨a2, c2, hr2, hb2⟩ := HTC.out.box
      have hlen := HTC.out.run.len
      have e0 := HLL.out
      have hlm : ((leftOf st).length : Int) ≤ 9223372036854775807 := by have := HL.out; omega
      have hok := SpRun.fits HTC.out.run
      have hCR := fun (W : World) (f : Frm (Only (w.heap.size + 1)) wr W) => r7Right_any W (.slice aV n cV) cs (by have h := (HTC.out.done f).rd; rw [hlen] at h; unfold CtxAt; rw [hlen]; exact h) hok (by omega)
      have HCR := Lib.hid (hCR wr (Frm.refl _ _)); clear hCR hok
      have HR2 := Lib.hid hr2; clear hr2
      obtain ⟨y0, y1, y2, y3, y4⟩ := hb2.facts
      have HB9 := Lib.hid hb2; clear hb2
      cases t0 with
      | none =>
        obtain ⟨rfl, rfl⟩ := HC.out.det (ctx_bad bdR_ok wideR (M := 9223372036854775807) (by decide) hlm HCNT.out HTC.out.run (.inl rfl))
        clear hlm e0 hlen
        go_wp2_with (go_at_call 119; go_loud (refine (rbad_any _).mono ?_); rintro e w2 ⟨rfl, hf2⟩; clear y0 y1 y2 y3 y4; have HB2 := Lib.hid (HB9.out.keep hf2); have z0 := free_at' HB2.out.res 0; have z1 := free_at' HB2.out.res 1; have z2 := lt_of_block HB2.out.res; have z3 := cell_at' HB2.out.res 0 rfl; have z4 := cell_at' HB2.out.res 1 rfl; clear hf2)
        clear z0 z1 z2 z3 z4
        have hr9 := res2 HB2.out.res HB2.out.frm (Nat.le_succ _) (.slice none 0 0) (.bool true)
        have y0 := cell_at' hr9.1 0 rfl
        have y1 := cell_at' hr9.1 1 rfl
        exact bodyPost_ret (v := .tuple #[.slice none 0 0, .agg #[.slice none 0 0, .bool true]]) (by simp [results, Tryz.results62, go_sem, y0, y1]) rfl ⟨_, none, 0, rfl, ⟨.inl ⟨none, rfl, rfl, rfl⟩, fun h => absurd rfl h⟩, RIn.bad w0 _, hr9.2.1⟩
      | some r =>
        by_cases hr : RightC cs
        · rw [tf_true hr] at HCR
          obtain ⟨rfl, rfl⟩ := HC.out.det (ctx_good HCNT.out HTC.out.run hr)
          clear hr hlm e0 hlen
          simp only [leftOf, Option.isNone] at y0 y1
          go_wp2_with (go_at_call 21; go_loud (refine HCR.out.mono ?_); rintro e w2 ⟨rfl, hf2⟩; have HF2 := Lib.hid hf2; clear y0 y1 y2 y3 y4; have HB2 := Lib.hid (HB9.out.keep hf2); obtain ⟨y0, y1, y2, y3, y4⟩ := HB2.out.facts; have z0 := free_at' HB2.out.res 0; have z1 := free_at' HB2.out.res 1; have z2 := lt_of_block HB2.out.res; have z3 := cell_at' HB2.out.res 0 rfl; have z4 := cell_at' HB2.out.res 1 rfl; clear hf2)
          simp only [leftOf, Option.isNone] at y0 y1
          go_region
          all_goals
            clear y0 y1 y2 y3 y4 z0 z1 z2 z3 z4
            have hr9 := res2 HB2.out.res HB2.out.frm (Nat.le_succ _) (.slice a2 r.length c2) (.bool false)
            have hts := two_set w2 (w.heap.size + 1) (.slice a2 r.length c2) (.bool false)
            have y0 := cell_at' hr9.1 0 rfl
            have y1 := cell_at' hr9.1 1 rfl
            go_wp2
            exact bodyPost_ret (v := .tuple #[.slice aV n cV, .agg #[.slice a2 r.length c2, .bool false]]) (by simp [results, Tryz.results62, go_sem, y0, y1]) rfl
              ⟨_, a2, c2, rfl, HTC.out.done (((HF2.out.mono fun _ _ s => s.elim).trans hts fun _ _ s => s).then1 (Frm.drew NoS _)), ((HR2.out.keep0 HF2.out).keep hts fun k hk hs => by have hs : k = w.heap.size + 1 := hs; have := HH0.out; omega).keep0 (Frm.drew NoS _), hr9.2.1.then1 (Frm.drew NoS _)⟩
        · rw [tf_false hr] at HCR
          obtain ⟨rfl, rfl⟩ := HC.out.det (ctx_bad bdR_ok wideR (M := 9223372036854775807) (by decide) hlm HCNT.out HTC.out.run (.inr hr))
          clear hr hlm e0 hlen
          simp only [leftOf, Option.isNone] at y0 y1
          go_wp2_with (first
            | (go_at_call 21; go_loud (refine HCR.out.mono ?_); rintro e w8 ⟨rfl, hf8⟩; clear y0 y1 y2 y3 y4; have HB8 := Lib.hid (HB9.out.keep hf8); obtain ⟨y0, y1, y2, y3, y4⟩ := HB8.out.facts; clear hf8)
            | (go_at_call 119; go_loud (refine (rbad_any _).mono ?_); rintro e w2 ⟨rfl, hf2⟩; clear y0 y1 y2 y3 y4; have HB2 := Lib.hid (HB8.out.keep hf2); have z0 := free_at' HB2.out.res 0; have z1 := free_at' HB2.out.res 1; have z2 := lt_of_block HB2.out.res; have z3 := cell_at' HB2.out.res 0 rfl; have z4 := cell_at' HB2.out.res 1 rfl; clear hf2))
          clear z0 z1 z2 z3 z4
          have hr9 := res2 HB2.out.res HB2.out.frm (Nat.le_succ _) (.slice none 0 0) (.bool true)
          have y0 := cell_at' hr9.1 0 rfl
          have y1 := cell_at' hr9.1 1 rfl
          exact bodyPost_ret (v := .tuple #[.slice none 0 0, .agg #[.slice none 0 0, .bool true]]) (by simp [results, Tryz.results62, go_sem, y0, y1]) rfl ⟨_, none, 0, rfl, ⟨.inl ⟨none, rfl, rfl, rfl⟩, fun h => absurd rfl h⟩, RIn.bad w0 _, hr9.2.1⟩
end Go.Proofs.YtggfoihfenlckaaGreat
/- What of a tree is made while it is read: how it lies. -/
namespace Go.Proofs.YtggfoihfenlckaaGreat
open Go.RowKit
theorem stp_app1 {P : Program} {ops : Array Oper} {o : Oper} {a : Act} (w : World) {K : Act → World → Prop} {Q : Exit → Act → World → Prop} {E : Prop} (news : List Value) (hgd : o.guard = none) (s x : Operand) (t : TypeId)
    (ho : o.op = .call { callee := .builtin .append, args := #[s, x], argTypes := #[t, t] })
    (e : TypeId) (i : TypeInfo) (z : Value) (size bytes : Nat) (ht : P.underlying t = some (.slice e)) (hi : P.info? e = some i) (hz : i.zero = some z)
    (hsize : i.size = size) (hby : i.bytes = bytes) (hzs : z.cells.size = size) (hsz : 0 < size)
    (v : Value) (n : Nat) (xs : List Value) (hown : w.ownsRow 0 e size v n xs) (m c : Nat) (hv : a.eval s = v) (hx : a.eval x = .slice (some ⟨w.heap.size, 0, none⟩) m c)
    (hnl : news.length = m * size) (h1 : ∀ u ∈ news, u.oneCell' = true) (h63 : n + m ≤ maxLen) (hbytes : (n + m) * bytes ≤ 140737488355328)
    (h : ∀ ad c w', w'.ownsRow 0 e size (.slice ad (n + m) c) (n + m) (xs ++ news) → Frm (RowS v) w w' → Fresh w v (.slice ad (n + m) c) → K (a.put o.dst (.slice ad (n + m) c)) w') :
    if Region.wanted o (yielded ops a.tmps) = true then Oper.wp P o a (w.alloc (.cells news.toArray e)) K Q else E := by
  have hw : Region.wanted o (yielded ops a.tmps) = true := by simp [Region.wanted, hgd]
  rw [if_pos hw]
  have hs : Src P size t (.slice (some ⟨w.heap.size, 0, none⟩) m c) m news (w.alloc (.cells news.toArray e)) :=
    Src.ofSlice _ ht ⟨w.heap.size, 0, none⟩ m c news hnl (fun j u hj => by
      have hadd : (⟨w.heap.size, 0, none⟩ : Addr).add j = ⟨w.heap.size, j, none⟩ := by unfold Addr.add; split <;> simp_all
      rw [hadd, cell_of_row (w.alloc (.cells news.toArray e)) w.heap.size j news.toArray e (0, 0) (heap_alloc_new w _)]
      simpa using hj) h1
  obtain ⟨v', w', hr, h2, h3, h4, ⟨ad, c', rfl⟩, h6⟩ := run_app (P := P) (w.alloc (.cells news.toArray e)) t t o.type e i z size bytes ht hi hz hsize hby hzs hsz v n xs (hown.alloc _) _ m news hs h63 hbytes
  unfold Oper.wp execOp
  simp only [ho, resolve, invoke, builtin, Sem.run_bind, Sem.run_pure, Result.andThen_ok, List.map_toArray, List.map_cons, List.map_nil, hv, hx, hr]
  refine h ad c' w' h2 ((Frm.alloc (RowS v) w _).trans h3 (fun _ _ h => h)) fun k hk => ?_
  rcases h4 k hk with h | h
  · exact .inl h
  · refine .inr ?_
    simp at h
    omega
def GetQ (w : World) (X : Nat → Prop) (h3 : Nat) (ev kv : Value) (b : Nat) : Prop := w.heap.size ≤ b ∧ ¬ X b ∧ b ≠ h3 ∧ ev.ownBlock ≠ some b ∧ kv.ownBlock ≠ some b
/-- What is made: in blocks behind w, none of them with X; its own cells lie in h3; S: what of w may have turned. -/
structure GetAt (S X : Nat → Prop) (w ww : World) (h3 : Nat) (es : List Ent) (l : List KidQ) (ev kv : Value) : Prop where
  low : ∀ k, S k → k < w.heap.size
  xnew : ∀ k, X k → w.heap.size ≤ k
  xlt : ∀ k, X k → k < ww.heap.size
  frm : Frm S w ww
  b3 : ww.heap[h3]? = some (.cells #[ev, kv] 35 (0, 0))
  new3 : w.heap.size ≤ h3
  nx3 : ¬ X h3
  eown : ww.ownsRow 0 137 4 ev es.length (entC es)
  enew : ∀ b, ev.ownBlock = some b → w.heap.size ≤ b ∧ ¬ X b ∧ b ≠ h3
  kown : ww.ownsRow 0 139 3 kv l.length (l.flatMap KidQ.cells)
  knew : ∀ b, kv.ownBlock = some b → w.heap.size ≤ b ∧ ¬ X b ∧ b ≠ h3 ∧ ev.ownBlock ≠ some b
  kids : ∀ q ∈ l, TreeAt (GetQ w X h3 ev kv) ww q.ev q.kv q.es q.sub
section
variable {S X : Nat → Prop} {w ww w1 w' : World} {h3 : Nat} {es : List Ent} {l : List KidQ} {ev kv ev' kv' : Value}
theorem GetAt.keep (h : GetAt S X w ww h3 es l ev kv) (f : Frm (fun k => S k ∨ X k) ww w') : GetAt S X w w' h3 es l ev kv := by
  have no : ∀ b, w.heap.size ≤ b → ¬ X b → ¬ (S b ∨ X b) := fun b hb hx hs => hs.elim (fun s => by have := h.low b s; omega) hx
  refine ⟨h.low, h.xnew, fun k hk => Nat.lt_of_lt_of_le (h.xlt k hk) f.size, ?_, f.blk h.b3 (no _ h.new3 h.nx3), h.new3, h.nx3, f.owns h.eown fun b hb => no b (h.enew b hb).1 (h.enew b hb).2.1, h.enew, f.owns h.kown fun b hb => no b (h.knew b hb).1 (h.knew b hb).2.1, h.knew, fun q hq => (h.kids q hq).turn fun b hb hQ => ⟨f.block b hb (no b hQ.1 hQ.2.1), hQ⟩⟩
  exact h.frm.trans f fun i hi hs => hs.elim id fun hx => by have := h.xnew i hx; omega
theorem GetAt.keepS (h : GetAt S X w ww h3 es l ev kv) (f : Frm S ww w') : GetAt S X w w' h3 es l ev kv := h.keep (f.mono fun _ _ s => .inl s)
theorem GetAt.keepX (h : GetAt S X w ww h3 es l ev kv) (f : Frm X ww w') : GetAt S X w w' h3 es l ev kv := h.keep (f.mono fun _ _ s => .inr s)
theorem GetAt.keep0 (h : GetAt S X w ww h3 es l ev kv) (f : Frm NoS ww w') : GetAt S X w w' h3 es l ev kv := h.keep (f.mono fun _ _ s => s.elim)
theorem GetAt.l3 (h : GetAt S X w ww h3 es l ev kv) : h3 < ww.heap.size := lt_of_block h.b3
theorem GetAt.start (low : ∀ k, S k → k < w.heap.size) (xnew : ∀ k, X k → w.heap.size ≤ k) (xlt : ∀ k, X k → k < ww.heap.size) (f : Frm S w ww) (b3 : ww.heap[h3]? = some (.cells #[.slice none 0 0, .slice none 0 0] 35 (0, 0))) (new3 : w.heap.size ≤ h3) (nx3 : ¬ X h3) :
    GetAt S X w ww h3 [] [] (.slice none 0 0) (.slice none 0 0) :=
  ⟨low, xnew, xlt, f, b3, new3, nx3, World.ownsRow_nil _ 0 _ 4, (fun b hb => by simp [Value.ownBlock] at hb), World.ownsRow_nil _ 0 _ 3, (fun b hb => by simp [Value.ownBlock] at hb), fun q hq => by cases hq⟩
/-- One entry more: it is laid behind the others, then stored. -/
theorem GetAt.stepE (h : GetAt S X w w1 h3 es [] ev (.slice none 0 0)) {e : Ent} (own : w'.ownsRow 0 137 4 ev' (es.length + 1) (entC es ++ e.cells)) (fm : Frm (RowS ev) w1 w') (fr : Fresh w1 ev ev') :
    GetAt S X w (w'.setCell ⟨h3, 0, none⟩ ev') h3 (es ++ [e]) [] ev' (.slice none 0 0) := by
  have hb3 : ¬ RowS ev h3 := fun hs => (h.enew h3 hs).2.2 rfl
  have hset : Frm (fun b => b = h3) w' (w'.setCell ⟨h3, 0, none⟩ ev') := Frm.setCell (S := fun b => b = h3) w' (p := ⟨h3, 0, none⟩) (.inl rfl) _
  have l3 := h.l3
  have hne : ∀ b, ev'.ownBlock = some b → w.heap.size ≤ b ∧ ¬ X b ∧ b ≠ h3 := fun b hb => by
    rcases fr b hb with h1 | h1
    · exact h.enew b h1
    · have := h.frm.size
      exact ⟨by omega, fun hx => by have := h.xlt b hx; omega, by omega⟩
  refine ⟨h.low, h.xnew, fun k hk => Nat.lt_of_lt_of_le (h.xlt k hk) (Nat.le_trans fm.size hset.size), ?_, set_at' (fm.blk h.b3 hb3) 0 ev', h.new3, h.nx3, ?_, hne, World.ownsRow_nil _ 0 _ 3, (fun b hb => by simp [Value.ownBlock] at hb), fun q hq => by cases hq⟩
  · have f1 : Frm S w w' := h.frm.trans fm fun i hi hs => by have := (h.enew i hs).1; omega
    exact f1.trans hset fun i hi hs => by have hs : i = h3 := hs; have := h.new3; omega
  · rw [List.length_append, entC_append]
    have : entC [e] = e.cells := by simp [entC]
    rw [this]
    exact hset.owns own fun b hb hs => (hne b hb).2.2 hs
/-- One kid more. -/
theorem GetAt.stepK (h : GetAt S X w w1 h3 es l ev kv) {q : KidQ} (hq : TreeAt (GetQ w X h3 ev kv) w1 q.ev q.kv q.es q.sub) (own : w'.ownsRow 0 139 3 kv' (l.length + 1) (l.flatMap KidQ.cells ++ q.cells)) (fm : Frm (RowS kv) w1 w') (fr : Fresh w1 kv kv') :
    GetAt S X w (w'.setCell ⟨h3, 1, none⟩ kv') h3 es (l ++ [q]) ev kv' := by
  have hb3 : ¬ RowS kv h3 := fun hs => (h.knew h3 hs).2.2.1 rfl
  have hset : Frm (fun b => b = h3) w' (w'.setCell ⟨h3, 1, none⟩ kv') := Frm.setCell (S := fun b => b = h3) w' (p := ⟨h3, 1, none⟩) (.inl rfl) _
  have l3 := h.l3
  have hne : ∀ b, kv'.ownBlock = some b → w.heap.size ≤ b ∧ ¬ X b ∧ b ≠ h3 ∧ ev.ownBlock ≠ some b := fun b hb => by
    rcases fr b hb with h1 | h1
    · exact h.knew b h1
    · have := h.frm.size
      exact ⟨by omega, fun hx => by have := h.xlt b hx; omega, by omega, fun he => by have := own_lt h.eown b he; omega⟩
  have turn : ∀ b, b < w1.heap.size → GetQ w X h3 ev kv b → (w'.setCell ⟨h3, 1, none⟩ kv').heap[b]? = w1.heap[b]? ∧ GetQ w X h3 ev kv' b := fun b hb hQ => by
    refine ⟨?_, hQ.1, hQ.2.1, hQ.2.2.1, hQ.2.2.2.1, fun e => ?_⟩
    · rw [hset.block b (Nat.lt_of_lt_of_le hb fm.size) hQ.2.2.1, fm.block b hb hQ.2.2.2.2]
    · rcases fr b e with h1 | h1
      · exact hQ.2.2.2.2 h1
      · omega
  refine ⟨h.low, h.xnew, fun k hk => Nat.lt_of_lt_of_le (h.xlt k hk) (Nat.le_trans fm.size hset.size), ?_, set_at' (fm.blk h.b3 hb3) 1 kv', h.new3, h.nx3, ?_, h.enew, ?_, hne, fun x hx => ?_⟩
  · have f1 : Frm S w w' := h.frm.trans fm fun i hi hs => by have := (h.knew i hs).1; omega
    exact f1.trans hset fun i hi hs => by have hs : i = h3 := hs; have := h.new3; omega
  · have o1 := fm.owns h.eown fun b hb hs => (h.knew b hs).2.2.2 hb
    exact hset.owns o1 fun b hb hs => (h.enew b hb).2.2 hs
  · rw [List.length_append, List.flatMap_append]
    have : [q].flatMap KidQ.cells = q.cells := by simp
    rw [this]
    exact hset.owns own fun b hb hs => (hne b hb).2.2.1 hs
  · rcases List.mem_append.1 hx with hx | hx
    · exact (h.kids x hx).turn turn
    · rw [List.mem_singleton] at hx
      subst hx
      exact hq.turn turn
/-- What was made is a tree. -/
theorem GetAt.done (h : GetAt S X w ww h3 es l ev kv) : TreeAt (fun b => w.heap.size ≤ b ∧ ¬ X b ∧ b ≠ h3) ww ev kv es (mkK l) := by
  refine ⟨⟨Rd.own h.eown, fun _ b hb => h.enew b hb⟩, outK l, ⟨?_, fun _ b hb => ⟨(h.knew b hb).1, (h.knew b hb).2.1, (h.knew b hb).2.2.1⟩⟩, mkK_for fun q hq => (h.kids q hq).turn fun b hb hQ => ⟨rfl, hQ.1, hQ.2.1, hQ.2.2.1⟩⟩
  rw [mkK_cells, mkK_len]
  exact Rd.own h.kown
/-- A tree that was made in memory behind w1. -/
theorem GetAt.kid (h : GetAt S X w w1 h3 es l ev kv) {e2 k2 : Value} {es2 : List Ent} {ks2 : KidsL} (ht : TreeAt (fun b => w1.heap.size ≤ b) ww e2 k2 es2 ks2) (hs : w1.heap.size ≤ ww.heap.size) : TreeAt (GetQ w X h3 ev kv) ww e2 k2 es2 ks2 :=
  ht.turn fun b hb hQ => ⟨rfl, by have := h.frm.size; omega, fun hx => by have := h.xlt b hx; omega, by have := h.l3; omega, fun he => by have := own_lt h.eown b he; omega, fun he => by have := own_lt h.kown b he; omega⟩
end
end Go.Proofs.YtggfoihfenlckaaGreat
/- pack: get: the walk. -/
namespace Go.Proofs.YtggfoihfenlckaaGreat
open Go.RowKit
/- ### no more is left than was -/
theorem NumStep.left {st s : Option (List UInt8)} {m v : Int} (h : NumStep st m v s) : (leftOf s).length ≤ (leftOf st).length := by
  cases s with
  | none => exact Nat.zero_le _
  | some r =>
    obtain ⟨rfl, _⟩ := num_good h
    show r.length ≤ (numB v ++ r).length
    rw [List.length_append]; omega
theorem TextStep.left {st s : Option (List UInt8)} {m : Int} {v : ByteArray} (h : TextStep st m v s) : (leftOf s).length ≤ (leftOf st).length := by
  cases s with
  | none => exact Nat.zero_le _
  | some r =>
    obtain ⟨rfl, _⟩ := text_good h
    show r.length ≤ (textB v ++ r).length
    rw [List.length_append]; omega
theorem CntStep.less {st s : Option (List UInt8)} {m : Int} {n : Nat} (h : CntStep st m n s) : (leftOf s).length ≤ (leftOf st).length := by
  cases s with
  | none => exact Nat.zero_le _
  | some r =>
    obtain ⟨rfl, _⟩ := h.good
    show r.length ≤ (numB n ++ r).length
    rw [List.length_append]; omega
theorem GetRes.left {B : Lim} {d : Nat} {st s : Option (List UInt8)} {es : List Ent} {ks : KidsL} (h : GetRes B d st es ks s) : (leftOf s).length ≤ (leftOf st).length := by
  rcases h with ⟨bs, r, rfl, rfl, h⟩ | ⟨rfl, _⟩
  · show r.length ≤ bs.length
    rw [h.eq, List.length_append]; omega
  · exact Nat.zero_le _
theorem EntStep.total (B : Lim) (st : Option (List UInt8)) : ∃ (e : Ent) (s1 s2 s3 s4 : Option (List UInt8)), NumStep st B.dc e.dc s1 ∧ NumStep s1 B.n e.n s2 ∧ TextStep s2 B.s e.s s3 ∧ NumStep s3 B.k e.k s4 := by
  obtain ⟨a, s1, h1⟩ := NumStep.total st B.dc
  obtain ⟨b, s2, h2⟩ := NumStep.total s1 B.n
  obtain ⟨c, s3, h3⟩ := TextStep.total s2 B.s
  obtain ⟨d, s4, h4⟩ := NumStep.total s3 B.k
  exact ⟨⟨a, b, c, d⟩, s1, s2, s3, s4, h1, h2, h3, h4⟩
def GetPost (B : Lim) (D : Nat) (st : Option (List UInt8)) (ib : Nat) (w : World) (e : Ending) (w' : World) : Prop :=
  ∃ ev kv es ks s, e = .returned (.agg #[ev, kv]) ∧ TreeAt (fun b => w.heap.size ≤ b) w' ev kv es ks ∧ GetRes B D st es ks s ∧ InSt w' ib s ∧ Frm (Only ib) w w'
set_option maxHeartbeats 2000000 in
set_option maxRecDepth 1000000 in
theorem pget_zero (ib : Nat) (st : Option (List UInt8)) (w : World) (h : InSt w ib st) : Calls Tryz.prog 80 #[.pointer (some ⟨ib, 0, none⟩), .int .i64 0] w (GetPost bdP 0 st ib w) := by
  have hlt := h.lt
  have HF := Lib.hid (fun w1 (f : Frm NoS w w1) => (h.keep f fun _ _ => id).heap)
  clear h
  obtain ⟨WB, hWB⟩ : ∃ WB, WB = (w.alloc (.cells #[.slice none 0 0, .slice none 0 0] 35)).alloc (.cells #[.slice none 0 0, .slice none 0 0] 35) := ⟨_, rfl⟩
  obtain ⟨hb3, hfb, hbs⟩ := two_blocks w (.cells #[.slice none 0 0, .slice none 0 0] 35) #[.slice none 0 0, .slice none 0 0] 35
  have hb2 : WB.heap[w.heap.size]? = some (.cells #[.slice none 0 0, .slice none 0 0] 35 (0, 0)) := by rw [hWB, Below.heap_alloc _ _ _ (by simp)]; exact heap_alloc_new w _
  rw [← hWB] at hb3 hfb hbs
  have HB2 := Lib.hid hb2; clear hb2
  have HB3 := Lib.hid hb3; clear hb3
  have HFB := Lib.hid hfb; clear hfb
  have HBS := Lib.hid hbs; clear hbs
  have HWB := Lib.hid hWB; clear hWB
  have hno : ¬ Only ib w.heap.size := fun h => by have h : w.heap.size = ib := h; omega
  have hno1 : ¬ Only ib (w.heap.size + 1) := fun h => by have h : w.heap.size + 1 = ib := h; omega
  have HNO := Lib.hid hno; clear hno
  have HNO1 := Lib.hid hno1; clear hno1
  go_enter Tryz.func80, Tryz.ntmps80
  go_wp2_with (first
    | (go_at_call 79; rw [← HWB.out]; obtain ⟨a, c, hh⟩ := HF.out WB HFB.out; refine (fail_go ib _ _ WB hh).mono ?_; rintro e w1 ⟨rfl, hi2, hf2⟩; have HI1 := Lib.hid (show InSt w1 ib none from hi2); clear hi2 hh; have HF1 := Lib.hid hf2; clear hf2)
    | (go_at_call 76; refine (pcount_any ib none w1 HI1.out).mono ?_; rintro e w2 ⟨n, s1, rfl, hc1, hi2, hf2⟩; obtain ⟨rfl, rfl⟩ := hc1.none_; clear hc1; have HI2 := Lib.hid hi2; clear hi2; have HF2 := Lib.hid hf2; clear hf2))
  go_loopw [13] (fun i ww => i = .int .i64 0 ∧ ww = w2) (fun _ _ => 0)
  case atStart => exact ⟨rfl, rfl⟩
  case round =>
    obtain ⟨rfl, rfl⟩ := hrel
    go_wp2_with (go_at_call 76; refine (pcount_any ib none wr HI2.out).mono ?_; rintro e w3 ⟨n, s1, rfl, hc1, hi2, hf2⟩; obtain ⟨rfl, rfl⟩ := hc1.none_; clear hc1; have HI3 := Lib.hid hi2; clear hi2; have HF3 := Lib.hid hf2; clear hf2)
    go_loopw [34] (fun i ww => i = .int .i64 0 ∧ ww = w3) (fun _ _ => 0)
    case atStart => exact ⟨rfl, rfl⟩
    case round =>
      obtain ⟨rfl, rfl⟩ := hrel
      have k2 := HF3.out.blk (HF2.out.blk (HF1.out.blk HB2.out HNO.out) HNO.out) HNO.out
      have k3 := HF3.out.blk (HF2.out.blk (HF1.out.blk HB3.out HNO1.out) HNO1.out) HNO1.out
      have y0 := cell_at' k2 0 rfl
      have y1 := cell_at' k2 1 rfl
      have f0 := free_at' k2 0
      have f1 := free_at' k2 1
      have z0 := cell_at' k3 0 rfl
      have z1 := cell_at' k3 1 rfl
      have hl2 := lt_of_block k2
      have K2 := Lib.hid k2; clear k2 k3
      go_wp2
      clear y0 y1
      have y0 := cell_at' (set_at' (set_at' K2.out 0 (.slice none 0 0)) 1 (.slice none 0 0)) 0 rfl
      have y1 := cell_at' (set_at' (set_at' K2.out 0 (.slice none 0 0)) 1 (.slice none 0 0)) 1 rfl
      refine bodyPost_ret (v := .agg #[.slice none 0 0, .slice none 0 0]) (by simp [results, Tryz.results80, go_sem, y0, y1]) rfl ⟨_, _, [], .nil, none, rfl, ?_, get_zero _ _ _ _, HI3.out.keep (two_set _ _ _ _) ?_, ?_⟩
      · exact ⟨⟨.inl ⟨none, rfl, rfl, rfl⟩, fun h => absurd rfl h⟩, [], ⟨.inl ⟨none, rfl, rfl, rfl⟩, fun h => absurd rfl h⟩, rfl⟩
      · intro j hj hs
        have hs : j = w.heap.size := hs
        omega
      · have f1 := (((HFB.out.mono (T := Only ib) fun _ _ h => h.elim).trans HF1.out fun _ _ h => h).trans HF2.out fun _ _ h => h).trans HF3.out fun _ _ h => h
        exact f1.trans (two_set _ _ _ _) fun i hi hs => by have hs : i = w.heap.size := hs; omega
end Go.Proofs.YtggfoihfenlckaaGreat