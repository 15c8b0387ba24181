/- Words for the law MsgSet: MsgAwake, MsgOpen, MsgSm, R25b, R25c, R25. -/
import Derived.Test.YtcahemkomfaabaaGreatMsgSetG16
import Derived.Test.YtcahemkomfaabaaGreatMsgSetG18
import Derived.Test.YtcahemkomfaabaaGreatMsgSetG27
import Derived.Test.YtcahemkomfaabaaGreatMsgSetG33
import Derived.Test.YtcahemkomfaabaaGreatMsgSetG34
set_option linter.unusedSimpArgs false
set_option linter.unusedVariables false
set_option maxHeartbeats 32000000
set_option maxRecDepth 1000000
namespace Go.Proofs.YtcahemkomfaabaaGreat
open Go.RowKit
def DecIs (w : World) (m : MsgD) (e : Ending) (w' : World) : Prop := ∃ (ps : List BunP) (lv ev kv cv : Value), e = .returned (.tuple #[m.ag lv ev kv cv, .int .i64 0]) ∧ MsgAt (fun _ => True) w' m ps lv ev kv cv ∧ Frm NoS w w'
theorem mDecode_frame (m : MsgD) (hr : m.right) (hok : MsgOkS m) (hl : m.enc.length ≤ 60000) (l : List UInt8) (hm : l = Crc.frameB m.enc) (v : Value) (w : World) (h : Rd w v l.length (bV l)) : Calls Tryz.prog 16 #[v] w (DecIs w m) := by
 subst hm
 obtain ⟨h1, h2⟩ := Crc.one_frame hl
 refine (mDecode_yes _ v w h h1 (by rw [h2]; exact .inr ⟨m, rfl, hr, hok, hl⟩)).mono fun e w' hp => ?_
 obtain ⟨k, m', ps, lv, ev, kv, cv, hd, he, hat, -, hf⟩ := hp
 obtain ⟨rfl, rfl⟩ := hd.det (decTop_good h1 (by rw [h2]; exact DecRes.make hr))
 exact ⟨ps, lv, ev, kv, cv, he, hat, hf⟩
def mA : MsgD := ⟨3, 1, 2, 3, 0, 0, 0, [], [], .nil, []⟩
theorem mA_right : mA.right := ⟨fun d _ _ => by show 0 ≤ vecF 3 0 0 0 d ∧ vecF 3 0 0 0 d ≤ 1099511627776; unfold vecF; split <;> (try split) <;> (try split) <;> omega, ⟨by decide, by decide⟩, ⟨by decide, by decide⟩, by decide, .inr (.inr ⟨.inl rfl, ⟨rfl, rfl, rfl⟩, rfl⟩)⟩
theorem numB_one {v : Int} (h : zz v < 128) : (numB v).length = 1 := by unfold numB; rw [vl_small h]; rfl
theorem mA_len : mA.enc.length = 8 := by
 unfold MsgD.enc MsgD.tail encV mA
 simp only [List.length_append, List.flatMap_nil, List.length_nil]
 rw [if_neg (by decide), numB_one (v := 3) (by decide), numB_one (v := 1) (by decide), numB_one (v := 2) (by decide), numB_one (v := 0) (by decide), show ((0 : Nat) : Int) = 0 from rfl, numB_one (v := 0) (by decide)]
 rfl
theorem mA_ok : MsgOkS mA := ⟨fun b hb => (by cases hb), by decide, zero_okS.st⟩
theorem encA (w : World) : Calls Tryz.prog 14 #[.agg #[.int .i64 3, .int .i64 1, .int .i64 2, .int .i64 3, .int .i64 0, .int .i64 0, .int .i64 0, .slice none 0 0, .slice none 0 0, .slice none 0 0, .slice none 0 0]] w fun e w' => ∃ a c, e = .returned (.tuple #[.slice a 16 c, .int .i64 0]) ∧ Rd w' (.slice a 16 c) 16 (bV (Crc.frameB mA.enc)) ∧ Frm NoS w w' :=
 (mEncode_yes (fun _ => True) mA [] w (.slice none 0 0) (.slice none 0 0) (.slice none 0 0) (.slice none 0 0) ⟨⟨.inl ⟨none, rfl, rfl, rfl⟩, fun p hp => (by cases hp)⟩, rfl, nilAt _ _⟩ mA_ok mA_right (by rw [mA_len]; decide)).mono fun e w' h => by
  obtain ⟨a, c, t, ht, he, hc⟩ := h
  have h16 : t.length = 16 := by rw [ht, Crc.frameB_len, mA_len]
  have hrd := hc.rd
  rw [h16] at he hrd
  exact ⟨a, c, he, ht ▸ hrd, hc.frm⟩
theorem decA (w : World) (v : Value) (h : Rd w v 16 (bV (Crc.frameB mA.enc))) : Calls Tryz.prog 16 #[v] w fun e w' => ∃ a0 n0 c0 a1 n1 c1 a2 n2 c2 a3 n3 c3, e = .returned (.tuple #[.agg #[.int .i64 3, .int .i64 1, .int .i64 2, .int .i64 3, .int .i64 0, .int .i64 0, .int .i64 0, .slice a0 n0 c0, .slice a1 n1 c1, .slice a2 n2 c2, .slice a3 n3 c3], .int .i64 0]) ∧ Frm NoS w w' :=
 (mDecode_frame mA mA_right mA_ok (by rw [mA_len]; decide) _ rfl v w (by rw [Crc.frameB_len, mA_len]; exact h)).mono fun e w' h => by
  obtain ⟨ps, lv, ev, kv, cv, he, hat, hf⟩ := h
  obtain ⟨a1, c1, a2, c2, a3, c3, rfl, rfl, rfl⟩ := hat.cau.shape
  obtain ⟨a0, c0, rfl⟩ := hat.bs.rd.sl
  exact ⟨a0, _, c0, a1, _, c1, a2, _, c2, a3, _, c3, he, hf⟩
theorem awake25_any (w : World) : Calls Tryz.prog 9 #[] w fun e w' => e = .returned (.bool true) ∧ Frm NoS w w' := by
 have hve := vec_same 3 0 0 0
 have HFA := Lib.hid (Frm.alloc NoS w (.cells #[.int .i64 3, .int .i64 1, .int .i64 2, .int .i64 3, .int .i64 0, .int .i64 0, .int .i64 0, .slice none 0 0, .slice none 0 0, .slice none 0 0, .slice none 0 0] 40))
 have HBX := Lib.hid (fun W f => box11 w (.int .i64 3) (.int .i64 1) (.int .i64 2) (.int .i64 3) (.int .i64 0) (.int .i64 0) (.int .i64 0) (.slice none 0 0) (.slice none 0 0) (.slice none 0 0) (.slice none 0 0) 40 W f)
 go_enter Tryz.func9, Tryz.ntmps9
 go_wp2_with (first
  | (go_at_call 14; refine (encA _).mono ?_; rintro e w1 ⟨a1, c1, rfl, hr1, hf1⟩; have HR1 := Lib.hid hr1; have HF1 := Lib.hid hf1; clear hr1 hf1)
  | (go_at_call 16; refine (decA _ _ HR1.out).mono ?_; rintro e w2 ⟨b0, n0, d0, b1, n1, d1, b2, n2, d2, b3, n3, d3, rfl, hf2⟩; obtain ⟨-, -, -, x3, x4, x5, x6, -, -, -, -⟩ := HBX.out w2 (HF1.out.then1 hf2); have hlb := World.block_lt_of_cell? _ _ x3; have HF2 := Lib.hid (HF1.out.then1 hf2); clear hf2))
 go_ret
 exact ⟨rfl, (HFA.out.then1 HF2.out).then1 (Frm.alloc _ _ _)⟩
end Go.Proofs.YtcahemkomfaabaaGreat
namespace Go.Proofs.YtcahemkomfaabaaGreat
open Go.RowKit Go.WideShapes Go.ChangeShapes
theorem Tryz.bytes_bundle : Tryz.prog.bytesOf 60 = 128 := by kernel_rfl
theorem Tryz.cells_msg : Tryz.prog.cellsOf 34 = 11 := by kernel_rfl
instance : Inhabited BunP := ⟨BunP.zero⟩
theorem bunC_get (l : List BunP) (j : Nat) (u : Value) (h : (bunC l)[j]? = some u) : j / 10 < l.length ∧ (l.getD (j / 10) BunP.zero).cells[j % 10]? = some u := flatMap_get BunP.cells 10 (by decide) (fun _ => rfl) BunP.zero l j u h
structure MsgIn (w : World) (v : Value) : Prop where
 out : ∃ (m : MsgD) (ps : List BunP) (lv ev kv cv : Value), v = m.ag lv ev kv cv ∧ MsgAt (fun _ => True) w m ps lv ev kv cv ∧ MsgFit m
section
variable {H : Type} {enc : TypeId × Value → H} {w : World}
theorem open_bun_cells {fuel : Nat} {cs : List Value} {x : DataW H × List MemPlace} (hl : cs.length = 10) (h : DataW.trod enc Tryz.prog w 0 (fun _ => true) true fuel 60 cs = some x) (hw : ∀ n ∈ x.1.weights Tryz.prog 60, n ≤ reachBytes) :
 ∃ p : BunP, cs = p.cells ∧ CauAt (fun _ => True) w p.ev p.kv p.cv p.b.es p.b.ks p.b.c ∧ BunFits p.b := by
 match cs, hl with
 | [c0, c1, c2, c3, c4, c5, c6, c7, c8, c9], _ =>
 obtain ⟨xs, n, hn, rfl, _, hxl, hg⟩ := DataW.trod_struct Tryz.underlying60 h
 obtain ⟨y0, y1, y2, y3, y4, rfl⟩ : ∃ y0 y1 y2 y3 y4, xs = [y0, y1, y2, y3, y4] := by
  match xs, hxl with
  | [y0, y1, y2, y3, y4], _ => exact ⟨y0, y1, y2, y3, y4, rfl⟩
 have g0 : DataW.trod enc Tryz.prog w 0 (fun _ => true) true n 3 [c0] = some y0 := hg 0 _ rfl
 have g1 : DataW.trod enc Tryz.prog w 0 (fun _ => true) true n 2 [c1] = some y1 := hg 1 _ rfl
 have g2 : DataW.trod enc Tryz.prog w 0 (fun _ => true) true n 2 [c2] = some y2 := hg 2 _ rfl
 have g3 : DataW.trod enc Tryz.prog w 0 (fun _ => true) true n 23 [c3, c4, c5, c6] = some y3 := hg 3 _ rfl
 have g4 : DataW.trod enc Tryz.prog w 0 (fun _ => true) true n 32 [c7, c8, c9] = some y4 := hg 4 _ rfl
 obtain ⟨dc, e0, _, _⟩ := DataW.trod_int Tryz.underlying3 g0
 obtain ⟨af, e1, _, _⟩ := DataW.trod_int Tryz.underlying2 g1
 obtain ⟨la, e2, _, _⟩ := DataW.trod_int Tryz.underlying2 g2
 simp at e0 e1 e2
 obtain ⟨v0, v1, v2, v3, e3, e4, e5, e6, _⟩ := open_vec_cells g3
 have hw2 : ∀ m ∈ y0.1.weights Tryz.prog 3 ++ (y1.1.weights Tryz.prog 2 ++ (y2.1.weights Tryz.prog 2 ++ (y3.1.weights Tryz.prog 23 ++ (y4.1.weights Tryz.prog 32 ++ [])))), m ≤ reachBytes := fun m hm => hw m (by
  simp only [List.map_cons, List.map_nil, DataW.weights, Tryz.underlying60]
  exact hm)
 obtain ⟨es, ks, c, h1, h2, h3, h4⟩ := open_causal g4 fun m hm => hw2 m (List.mem_append_right _ (List.mem_append_right _ (List.mem_append_right _ (List.mem_append_right _ (List.mem_append_left _ hm)))))
 subst e0 e1 e2 e3 e4 e5 e6
 exact ⟨⟨⟨dc, af, la, v0, v1, v2, v3, es, ks, c⟩, c7, c8, c9⟩, rfl, h1, h2, h3, h4⟩
theorem open_buns {fuel : Nat} {v : Value} {x : DataW H × List MemPlace} (h : DataW.trod enc Tryz.prog w 0 (fun _ => true) true fuel 24 [v] = some x) (hw : ∀ n ∈ x.1.weights Tryz.prog 24, n ≤ reachBytes) :
 ∃ l : List BunP, BunsP (fun _ => True) w v l ∧ (∀ p ∈ l, BunFits p.b) ∧ l.length ≤ 140737488351232 := by
 obtain ⟨a0, len, cap, rfl⟩ := slice_of_trod Tryz.underlying24 h
 rcases open_arr2 Tryz.underlying24 Tryz.cells_bundle (by decide) Tryz.bytes_bundle h hw with ⟨rfl, rfl⟩ | ⟨b, off, n, rfl, h1, h2, _, h3, hel⟩
 · exact ⟨[], ⟨.inl ⟨a0, rfl, rfl, rfl⟩, fun o ho => (by cases ho)⟩, fun o ho => (by cases ho), Nat.zero_le _⟩
 · have hx : ∀ k, k < len → ∃ p : BunP, (∀ j u, p.cells[j]? = some u → w.cell? ⟨b, off + k * 10 + j, none⟩ = some u) ∧ CauAt (fun _ => True) w p.ev p.kv p.cv p.b.es p.b.ks p.b.c ∧ BunFits p.b := fun k hk => by
    obtain ⟨cs, hl, hc, y, hy, hyw⟩ := hel k hk
    obtain ⟨o, rfl, h1, h2⟩ := open_bun_cells hl hy hyw
    exact ⟨o, hc, h1, h2⟩
   obtain ⟨l, hl, hlp⟩ := list_of_lt hx
   refine ⟨l, ⟨.inr ⟨b, off, cap, by rw [hl], by omega, h2, fun j u hu => ?_⟩, fun o ho => ?_⟩, fun o ho => ?_, by unfold reachBytes at h3; omega⟩
   · obtain ⟨g1, g2⟩ := bunC_get l j u hu
     have := (hlp (j / 10) (by omega) BunP.zero).1 (j % 10) u g2
     rwa [split_at] at this
   · obtain ⟨k, hk, rfl⟩ := List.getElem_of_mem ho
     have := (hlp k (by omega) BunP.zero).2.1
     rwa [getD_at BunP.zero hk] at this
   · obtain ⟨k, hk, rfl⟩ := List.getElem_of_mem ho
     have := (hlp k (by omega) BunP.zero).2.2
     rwa [getD_at BunP.zero hk] at this
theorem open_msg {base : Nat} {v : Value} {d : DataW H} {ps : List MemPlace} (hv : Value.okWide Tryz.prog w .any base 34 v) (h : DataW.Trod enc Tryz.prog w 0 (fun _ => true) true 34 v d ps)
 (hw : ∀ n ∈ d.weights Tryz.prog 34, n ≤ reachBytes) : MsgIn w v := by
 obtain ⟨cs, rfl, hsz⟩ := okWide_struct Tryz.underlying34 hv
 rw [Tryz.cells_msg] at hsz
 obtain ⟨l⟩ := cs
 match l, hsz with
 | [c0, c1, c2, c3, c4, c5, c6, c7, c8, c9, c10], _ =>
 obtain ⟨fuel, hf⟩ := h
 have hf : DataW.trod enc Tryz.prog w 0 (fun _ => true) true fuel 34 [c0, c1, c2, c3, c4, c5, c6, c7, c8, c9, c10] = some (d, ps) := hf
 obtain ⟨xs, n, hn, hx, _, hxl, hg⟩ := DataW.trod_struct Tryz.underlying34 hf
 obtain ⟨y0, y1, y2, y3, y4, y5, rfl⟩ : ∃ y0 y1 y2 y3 y4 y5, xs = [y0, y1, y2, y3, y4, y5] := by
  match xs, hxl with
  | [y0, y1, y2, y3, y4, y5], _ => exact ⟨y0, y1, y2, y3, y4, y5, rfl⟩
 have g0 : DataW.trod enc Tryz.prog w 0 (fun _ => true) true n 3 [c0] = some y0 := hg 0 _ rfl
 have g1 : DataW.trod enc Tryz.prog w 0 (fun _ => true) true n 3 [c1] = some y1 := hg 1 _ rfl
 have g2 : DataW.trod enc Tryz.prog w 0 (fun _ => true) true n 3 [c2] = some y2 := hg 2 _ rfl
 have g3 : DataW.trod enc Tryz.prog w 0 (fun _ => true) true n 23 [c3, c4, c5, c6] = some y3 := hg 3 _ rfl
 have g4 : DataW.trod enc Tryz.prog w 0 (fun _ => true) true n 24 [c7] = some y4 := hg 4 _ rfl
 have g5 : DataW.trod enc Tryz.prog w 0 (fun _ => true) true n 32 [c8, c9, c10] = some y5 := hg 5 _ rfl
 obtain ⟨kd, e0, _, _⟩ := DataW.trod_int Tryz.underlying3 g0
 obtain ⟨fr, e1, _, _⟩ := DataW.trod_int Tryz.underlying3 g1
 obtain ⟨tt, e2, _, _⟩ := DataW.trod_int Tryz.underlying3 g2
 simp at e0 e1 e2
 obtain ⟨v0, v1, v2, v3, e3, e4, e5, e6, _⟩ := open_vec_cells g3
 have hd : d = (DataW.agg ([y0, y1, y2, y3, y4, y5].map (·.1)) : DataW H) := (Prod.mk.inj hx).1
 subst hd
 have hw2 : ∀ m ∈ y0.1.weights Tryz.prog 3 ++ (y1.1.weights Tryz.prog 3 ++ (y2.1.weights Tryz.prog 3 ++ (y3.1.weights Tryz.prog 23 ++ (y4.1.weights Tryz.prog 24 ++ (y5.1.weights Tryz.prog 32 ++ []))))), m ≤ reachBytes := fun m hm => hw m (by
  simp only [List.map_cons, List.map_nil, DataW.weights, Tryz.underlying34]
  exact hm)
 obtain ⟨l, h1, h2, h2'⟩ := open_buns g4 fun m hm => hw2 m (List.mem_append_right _ (List.mem_append_right _ (List.mem_append_right _ (List.mem_append_right _ (List.mem_append_left _ hm)))))
 obtain ⟨es, ks, c, h3, h4, h5, h6⟩ := open_causal g5 fun m hm => hw2 m (List.mem_append_right _ (List.mem_append_right _ (List.mem_append_right _ (List.mem_append_right _ (List.mem_append_right _ (List.mem_append_left _ hm))))))
 subst e0 e1 e2 e3 e4 e5 e6
 refine ⟨⟨kd, fr, tt, v0, v1, v2, v3, l.map (·.b), es, ks, c⟩, l, c7, c8, c9, c10, rfl, ⟨h1, rfl, h3⟩, fun b hb => ?_, ⟨h4, h5, h6⟩, by rw [List.length_map]; exact h2'⟩
 obtain ⟨p, hp, rfl⟩ := List.mem_map.1 hb
 exact h2 p hp
end
def nlW (p : BunP) : Bool := !lilB p.b.es p.b.ks p.b.c
theorem small_eq {m : MsgD} {ps : List BunP} (h : ps.map (·.b) = m.bs) : m.small = (decide (ps.length ≤ 20) && (lilB m.es m.ks m.c && !(ps.any nlW))) := by
 unfold MsgD.small
 rw [← h, List.length_map, List.all_map]
 congr 2
 rw [Bool.eq_iff_iff]
 simp only [List.all_eq_true, Function.comp, Bool.not_eq_true', List.any_eq_false, nlW, Bool.not_eq_false]
theorem r25Small_any (m : MsgD) (ps : List BunP) (w : World) (lv ev kv cv : Value) (h : MsgAt (fun _ => True) w m ps lv ev kv cv) (hf : MsgFit m) :
 Calls Tryz.prog 10 #[m.ag lv ev kv cv, .int .i64 30] w fun e w' => e = .returned (.bool m.small) ∧ Frm NoS w w' := by
 rw [small_eq h.eq]
 have hfe : ∀ p ∈ ps, BunFits p.b := fun p hp => hf.each p.b (h.eq ▸ List.mem_map.2 ⟨p, hp, rfl⟩)
 have HST := Lib.hid (fun W (f : Frm NoS w W) => (show Calls Tryz.prog 29 #[.agg #[ev, kv, cv], .int .i64 30] W fun e w' => e = .returned (.bool (lilB m.es m.ks m.c)) ∧ Frm NoS W w' from r9Small_any (fun _ => True) m.es m.ks m.c 30 W ev kv cv (h.cau.keep0 f) hf.st.1 hf.st.2.2 (by decide) (by decide)))
 have HBU := Lib.hid (fun p hp W (f : Frm NoS w W) => (show Calls Tryz.prog 22 #[.agg #[.int .i64 p.b.dc, .int .i64 p.b.af, .int .i64 p.b.la, .int .i64 p.b.v0, .int .i64 p.b.v1, .int .i64 p.b.v2, .int .i64 p.b.v3, p.ev, p.kv, p.cv], .int .i64 30] W fun e w' => e = .returned (.bool (!nlW p)) ∧ Frm NoS W w' from (r22Small_any (fun _ => True) p.b.es p.b.ks p.b.c 30 W p.b.dc p.b.af p.b.la p.b.v0 p.b.v1 p.b.v2 p.b.v3 p.ev p.kv p.cv ((h.bs.cau p hp).keep0 f) (hfe p hp).1 (hfe p hp).2.2 (by decide) (by decide)).mono fun e w' h => ⟨by rw [h.1]; unfold nlW lilB; rw [Bool.not_not], h.2⟩))
 have HSH := Lib.hid (fun p hp => (h.bs.cau p hp).shape)
 have hpl : ps.length ≤ 140737488351232 := by rw [h.len]; exact hf.len
 obtain ⟨kind, fr, tt, v0, v1, v2, v3, bs, es, ks, c⟩ := m
 dsimp only at HST
 have hrd := h.bs.rd
 obtain ⟨a0, c0, a1, c1, a2, c2, rfl, rfl, rfl⟩ := h.cau.shape
 obtain ⟨al, cl, rfl⟩ := h.bs.rd.sl
 have HRD := Lib.hid hrd
 clear h hf hfe hrd
 dsimp only [MsgD.ag] at HST ⊢
 have HBX := Lib.hid (fun W f => box11 w (.int .i64 kind) (.int .i64 fr) (.int .i64 tt) (.int .i64 v0) (.int .i64 v1) (.int .i64 v2) (.int .i64 v3) (.slice al ps.length cl) (.slice a0 es.length c0) (.slice a1 ks.len c1) (.slice a2 c.length c2) 34 W f)
 have HFA := Lib.hid (Frm.alloc NoS w (.cells #[.int .i64 kind, .int .i64 fr, .int .i64 tt, .int .i64 v0, .int .i64 v1, .int .i64 v2, .int .i64 v3, .slice al ps.length cl, .slice a0 es.length c0, .slice a1 ks.len c1, .slice a2 c.length c2] 34))
 generalize lilB es ks c = sl at *
 generalize es.length = n at *
 generalize ks.len = m at *
 generalize c.length = k at *
 generalize hln : ps.length = ln at *
 have HLEN := Lib.hid hln; clear hln
 by_cases h20 : ln ≤ 20
 rotate_left 1
 · rw [decide_eq_false h20, Bool.false_and]
   have h20' : (20 : Int) < (ln : Int) := by omega
   clear h20
   go_enter Tryz.func10, Tryz.ntmps10
   go_wp2
   go_ret
   exact ⟨rfl, HFA.out⟩
 rw [decide_eq_true h20, Bool.true_and]
 have h20' : ¬ (20 : Int) < (ln : Int) := by omega
 cases sl with
 | false =>
  rw [Bool.false_and]
  clear h20
  go_enter Tryz.func10, Tryz.ntmps10
  go_wp2_with (go_at_call 29; refine (HST.out _ HFA.out).mono ?_; rintro e w1 ⟨rfl, hw1⟩; have HW1 := Lib.hid (HFA.out.then1 hw1); clear hw1)
  go_ret
  exact ⟨rfl, HW1.out⟩
 | true =>
  rw [Bool.true_and]
  go_enter Tryz.func10, Tryz.ntmps10
  go_wp2_with (go_at_call 29; refine (HST.out _ HFA.out).mono ?_; rintro e w1 ⟨rfl, hw1⟩; obtain ⟨-, -, -, -, -, -, -, y7, -, -, -⟩ := HBX.out w1 hw1; have hlb := World.block_lt_of_cell? _ _ y7; have HW1 := Lib.hid hw1; clear hw1)
  clear y7 hlb
  go_loopw [20] (fun i W => ∃ q : Nat, q ≤ ln ∧ i = .int .i64 q ∧ (ps.take q).any nlW = false ∧ Frm NoS (w.alloc (.cells #[.int .i64 kind, .int .i64 fr, .int .i64 tt, .int .i64 v0, .int .i64 v1, .int .i64 v2, .int .i64 v3, .slice al ln cl, .slice a0 n c0, .slice a1 m c1, .slice a2 k c2] 34)) W) (fun i _ => ln - (intOf i).toNat)
  case atStart => exact ⟨0, Nat.zero_le _, rfl, by simp, HW1.out⟩
  case round =>
   obtain ⟨q, hq, rfl, ha, hw⟩ := hrel
   have HAN := Lib.hid ha; clear ha
   have HW := Lib.hid hw; clear hw
   clear HW1
   by_cases hlt : q < ln
   · have hlk : q < ps.length := by rw [HLEN.out]; exact hlt
     obtain ⟨-, -, -, -, -, -, -, y7, -, -, -⟩ := HBX.out wr HW.out
     have hlb := World.block_lt_of_cell? _ _ y7
     have hrd := HRD.out.keep0 (HFA.out.then1 HW.out)
     rcases Rd.shape hrd with ⟨ad, he, h0⟩ | ⟨b, off, cc, he, hmax⟩
     · exfalso; omega
     · injection he with e1 e2 e3
       subst e1 e3
       clear e2
       obtain ⟨q0, q1, q2, q3, q4, q5, q6, q7, q8, q9⟩ := bun_at hrd q hlk
       clear hrd
       have hm := getD_mem BunP.zero hlk
       have hbc := HBU.out _ hm
       have hsh := HSH.out _ hm
       have HT := Lib.hid (anyP_take (p := nlW) hlk)
       have HE := Lib.hid (anyP_here (p := nlW) hlk)
       clear hm
       generalize nlW (ps.getD q BunP.zero) = y at *
       obtain ⟨p, hgd⟩ : ∃ p, p = ps.getD q BunP.zero := ⟨_, rfl⟩
       rw [← hgd] at q0 q1 q2 q3 q4 q5 q6 q7 q8 q9 hbc hsh
       clear hgd
       obtain ⟨⟨dc, af, la, u0, u1, u2, u3, es', ks', c'⟩, ev', kv', cv'⟩ := p
       dsimp only at q0 q1 q2 q3 q4 q5 q6 q7 q8 q9 hbc hsh
       obtain ⟨a3, c3, a4, c4, a5, c5, rfl, rfl, rfl⟩ := hsh
       have HBC := Lib.hid hbc; clear hbc
       generalize es'.length = n' at *
       generalize ks'.len = m' at *
       generalize c'.length = k' at *
       cases y with
       | true =>
        have HYN := Lib.hid (HE.out rfl)
        clear HE HT
        go_wp2_with (go_at_call 22; refine (HBC.out _ (HFA.out.then1 HW.out)).mono ?_; rintro e w3 ⟨rfl, hw3⟩; have HW3 := Lib.hid (HW.out.then1 hw3); clear hw3)
        go_ret
        exact ⟨by rw [HYN.out]; rfl, HFA.out.then1 HW3.out⟩
       | false =>
        have HTX := Lib.hid (show (ps.take (q + 1)).any nlW = false by rw [HT.out, HAN.out]; rfl)
        clear HE HT
        go_wp2_with (go_at_call 22; refine (HBC.out _ (HFA.out.then1 HW.out)).mono ?_; rintro e w3 ⟨rfl, hw3⟩; have HW3 := Lib.hid (HW.out.then1 hw3); clear hw3)
        go_roundw
        case rel => exact ⟨q + 1, by omega, by go_num, HTX.out, HW3.out⟩
        case measure => simp [intOf]; omega
   · obtain rfl : ln = q := by omega
     have hall : ps.any nlW = false := by
      have := HAN.out
      rwa [List.take_of_length_le (by rw [HLEN.out]; exact Nat.le_refl _)] at this
     have HALL := Lib.hid hall
     clear hall hlt hq
     go_wp2
     go_ret
     exact ⟨by rw [HALL.out]; rfl, HFA.out.then1 HW.out⟩
theorem r25_k2 {P PB S9 SV : Prop} {ps : List BunP} {ln n m k : Nat} {kind fr tt v0 v1 v2 v3 f0 f1 f2 f3 : Int} {al a0 a1 a2 : Option Addr} {cl c0 c1 c2 : Nat} {w : World} (X : RCtx P PB S9 SV ps ln n m k kind fr tt v0 v1 v2 v3 f0 f1 f2 f3 al a0 a1 a2 cl c0 c1 c2 w) (k2 : kind = 2) :
 Calls Tryz.prog 13 #[.agg #[.int .i64 kind, .int .i64 fr, .int .i64 tt, .int .i64 v0, .int .i64 v1, .int .i64 v2, .int .i64 v3, .slice al ln cl, .slice a0 n c0, .slice a1 m c1, .slice a2 k c2]] w fun e w' => e = .returned (.bool (tf P)) ∧ Frm NoS w w' := by
 have HMAY := Lib.hid X.may
 have HSOL := Lib.hid X.sol
 have HVEC := Lib.hid X.vec
 have HSV := Lib.hid X.sv
 have HSM := Lib.hid X.same
 have HBUN := Lib.hid X.bun
 have HSHP := Lib.hid X.shp
 have HRD := Lib.hid X.rd
 have HLEN := Lib.hid X.len
 have HBX := Lib.hid X.bx
 have HD := Lib.hid X.hd
 have f1' := X.f1
 have f2' := X.f2
 have t1' := X.t1
 have t2' := X.t2
 have h3' : ((fr : Int) == tt) = false := beq_false_of_ne X.ne
 clear X
 have HFA := Lib.hid (show Frm NoS w (w.alloc (.cells #[.int .i64 kind, .int .i64 fr, .int .i64 tt, .int .i64 v0, .int .i64 v1, .int .i64 v2, .int .i64 v3, .slice al ln cl, .slice a0 n c0, .slice a1 m c1, .slice a2 k c2] 34)) from Frm.alloc _ _ _)
 subst k2
 by_cases l0 : ln = 0
 rotate_left 1
 · rw [tf_false (show ¬ P from fun h => by rcases HD.out.1 h with ⟨q, -⟩ | ⟨-, q, -⟩ | ⟨q, -⟩ <;> omega)]
   have bl : ((ln : Int) == 0) = false := beq_false_of_ne (by omega)
   clear HD l0
   go_enter Tryz.func13, Tryz.ntmps13
   go_wp2_with (go_at_call 36; refine (HMAY.out _).mono ?_; rintro e w1 ⟨rfl, hw1⟩; obtain ⟨y0, y1, y2, y3, y4, y5, y6, y7, y8, y9, y10⟩ := HBX.out w1 hw1; have hlb := World.block_lt_of_cell? _ _ y0; have HW1 := Lib.hid hw1; clear hw1)
   obtain ⟨α, hne, K, hK1, hK0, hK2⟩ := worlds w1
   have HFK := Lib.hid (fun s => HFA.out.then1 (HW1.out.then1 (hK1 s)))
   have kb := fun s => HBX.out (K s) (HW1.out.then1 (hK1 s))
   have k3 := fun s => (kb s).2.2.2.1
   have k4 := fun s => (kb s).2.2.2.2.1
   have k5 := fun s => (kb s).2.2.2.2.2.1
   have k6 := fun s => (kb s).2.2.2.2.2.2.1
   have k7 := fun s => (kb s).2.2.2.2.2.2.2.1
   have k8 := fun s => (kb s).2.2.2.2.2.2.2.2.1
   have k9 := fun s => (kb s).2.2.2.2.2.2.2.2.2.1
   have k10 := fun s => (kb s).2.2.2.2.2.2.2.2.2.2
   clear kb hK1 y0 y1 y2 y3 y4 y5 y6 y7 y8 y9 y10 hlb
   refine wp_region_new K (by kernel_rfl) (by kernel_rfl) hK0 ?_
   repeat (go_big_quiet_step (fail))
   refine wpQuiet_nil ?_
   intro w' hw'
   obtain ⟨s, rfl⟩ := hw'
   go_wp2
   go_ret
   exact ⟨rfl, HFK.out s⟩
 by_cases h9 : S9
 rotate_left 1
 · rw [tf_false (show ¬ P from fun h => by rcases HD.out.1 h with ⟨q, -⟩ | ⟨-, -, q, -⟩ | ⟨q, -⟩ <;> first | omega | exact h9 q)]
   rw [tf_false h9] at HSOL
   subst l0
   clear HD h9
   go_enter Tryz.func13, Tryz.ntmps13
   go_wp2_with (go_at_call 36; refine (HMAY.out _).mono ?_; rintro e w1 ⟨rfl, hw1⟩; obtain ⟨y0, y1, y2, y3, y4, y5, y6, y7, y8, y9, y10⟩ := HBX.out w1 hw1; have hlb := World.block_lt_of_cell? _ _ y0; have HW1 := Lib.hid hw1; clear hw1)
   obtain ⟨α, hne, K, hK1, hK0, hK2⟩ := worlds w1
   have HFK := Lib.hid (fun s => HFA.out.then1 (HW1.out.then1 (hK1 s)))
   have kb := fun s => HBX.out (K s) (HW1.out.then1 (hK1 s))
   have k3 := fun s => (kb s).2.2.2.1
   have k4 := fun s => (kb s).2.2.2.2.1
   have k5 := fun s => (kb s).2.2.2.2.2.1
   have k6 := fun s => (kb s).2.2.2.2.2.2.1
   have k7 := fun s => (kb s).2.2.2.2.2.2.2.1
   have k8 := fun s => (kb s).2.2.2.2.2.2.2.2.1
   have k9 := fun s => (kb s).2.2.2.2.2.2.2.2.2.1
   have k10 := fun s => (kb s).2.2.2.2.2.2.2.2.2.2
   clear kb hK1 y0 y1 y2 y3 y4 y5 y6 y7 y8 y9 y10 hlb
   refine wp_region_new K (by kernel_rfl) (by kernel_rfl) hK0 ?_
   repeat (go_big_quiet_step ((first | (go_at_call 37; exact Calls.in_class hK2 (HSOL.out _ (HFK.out _))))))
   refine wpQuiet_nil ?_
   intro w' hw'
   obtain ⟨s, rfl⟩ := hw'
   go_wp2
   go_ret
   exact ⟨rfl, HFK.out s⟩
 rw [tf_true h9] at HSOL
 have HVE := Lib.hid (HVEC.out h9)
 have hve := vec_eql f0 f1 f2 f3 v0 v1 v2 v3
 by_cases hv : f0 = v0 ∧ f1 = v1 ∧ f2 = v2 ∧ f3 = v3
 rotate_left 1
 · rw [tf_false (show ¬ P from fun h => by rcases HD.out.1 h with ⟨q, -⟩ | ⟨-, -, -, q⟩ | ⟨q, -⟩ <;> first | omega | exact hv (HSV.out.1 q))]
   rw [show ((f0 == v0) && ((f1 == v1) && ((f2 == v2) && (f3 == v3)))) = false by
    rw [Bool.eq_false_iff]
    intro hh
    simp only [Bool.and_eq_true, beq_iff_eq] at hh
    exact hv hh] at hve
   subst l0
   clear HD h9 hv HVEC
   go_enter Tryz.func13, Tryz.ntmps13
   go_wp2_with (go_at_call 36; refine (HMAY.out _).mono ?_; rintro e w1 ⟨rfl, hw1⟩; obtain ⟨y0, y1, y2, y3, y4, y5, y6, y7, y8, y9, y10⟩ := HBX.out w1 hw1; have hlb := World.block_lt_of_cell? _ _ y0; have HW1 := Lib.hid hw1; clear hw1)
   obtain ⟨α, hne, K, hK1, hK0, hK2⟩ := worlds w1
   have HFK := Lib.hid (fun s => HFA.out.then1 (HW1.out.then1 (hK1 s)))
   have kb := fun s => HBX.out (K s) (HW1.out.then1 (hK1 s))
   have k3 := fun s => (kb s).2.2.2.1
   have k4 := fun s => (kb s).2.2.2.2.1
   have k5 := fun s => (kb s).2.2.2.2.2.1
   have k6 := fun s => (kb s).2.2.2.2.2.2.1
   have k7 := fun s => (kb s).2.2.2.2.2.2.2.1
   have k8 := fun s => (kb s).2.2.2.2.2.2.2.2.1
   have k9 := fun s => (kb s).2.2.2.2.2.2.2.2.2.1
   have k10 := fun s => (kb s).2.2.2.2.2.2.2.2.2.2
   clear kb hK1 y0 y1 y2 y3 y4 y5 y6 y7 y8 y9 y10 hlb
   refine wp_region_new K (by kernel_rfl) (by kernel_rfl) hK0 ?_
   repeat (go_big_quiet_step ((first | (go_at_call 37; exact Calls.in_class hK2 (HSOL.out _ (HFK.out _))) | (go_at_call 38; exact Calls.in_class hK2 (HVE.out _ (HFK.out _))))))
   refine wpQuiet_nil ?_
   intro w' hw'
   obtain ⟨s, rfl⟩ := hw'
   go_wp2
   go_ret
   exact ⟨rfl, HFK.out s⟩
 rw [tf_true (show P from HD.out.2 (.inr (.inl ⟨rfl, l0, h9, HSV.out.2 hv⟩)))]
 rw [show ((f0 == v0) && ((f1 == v1) && ((f2 == v2) && (f3 == v3)))) = true by
  simp only [Bool.and_eq_true, beq_iff_eq]
  exact hv] at hve
 subst l0
 clear HD h9 hv HVEC
 go_enter Tryz.func13, Tryz.ntmps13
 go_wp2_with (go_at_call 36; refine (HMAY.out _).mono ?_; rintro e w1 ⟨rfl, hw1⟩; obtain ⟨y0, y1, y2, y3, y4, y5, y6, y7, y8, y9, y10⟩ := HBX.out w1 hw1; have hlb := World.block_lt_of_cell? _ _ y0; have HW1 := Lib.hid hw1; clear hw1)
 obtain ⟨α, hne, K, hK1, hK0, hK2⟩ := worlds w1
 have HFK := Lib.hid (fun s => HFA.out.then1 (HW1.out.then1 (hK1 s)))
 have kb := fun s => HBX.out (K s) (HW1.out.then1 (hK1 s))
 have k3 := fun s => (kb s).2.2.2.1
 have k4 := fun s => (kb s).2.2.2.2.1
 have k5 := fun s => (kb s).2.2.2.2.2.1
 have k6 := fun s => (kb s).2.2.2.2.2.2.1
 have k7 := fun s => (kb s).2.2.2.2.2.2.2.1
 have k8 := fun s => (kb s).2.2.2.2.2.2.2.2.1
 have k9 := fun s => (kb s).2.2.2.2.2.2.2.2.2.1
 have k10 := fun s => (kb s).2.2.2.2.2.2.2.2.2.2
 clear kb hK1 y0 y1 y2 y3 y4 y5 y6 y7 y8 y9 y10 hlb
 refine wp_region_new K (by kernel_rfl) (by kernel_rfl) hK0 ?_
 repeat (go_big_quiet_step ((first | (go_at_call 37; exact Calls.in_class hK2 (HSOL.out _ (HFK.out _))) | (go_at_call 38; exact Calls.in_class hK2 (HVE.out _ (HFK.out _))))))
 refine wpQuiet_nil ?_
 intro w' hw'
 obtain ⟨s, rfl⟩ := hw'
 go_wp2
 go_ret
 exact ⟨rfl, HFK.out s⟩
theorem r25_kn {P PB S9 SV : Prop} {ps : List BunP} {ln n m k : Nat} {kind fr tt v0 v1 v2 v3 f0 f1 f2 f3 : Int} {al a0 a1 a2 : Option Addr} {cl c0 c1 c2 : Nat} {w : World} (X : RCtx P PB S9 SV ps ln n m k kind fr tt v0 v1 v2 v3 f0 f1 f2 f3 al a0 a1 a2 cl c0 c1 c2 w) (k2 : kind ≠ 2) :
 Calls Tryz.prog 13 #[.agg #[.int .i64 kind, .int .i64 fr, .int .i64 tt, .int .i64 v0, .int .i64 v1, .int .i64 v2, .int .i64 v3, .slice al ln cl, .slice a0 n c0, .slice a1 m c1, .slice a2 k c2]] w fun e w' => e = .returned (.bool (tf P)) ∧ Frm NoS w w' := by
 have HMAY := Lib.hid X.may
 have HSOL := Lib.hid X.sol
 have HVEC := Lib.hid X.vec
 have HSV := Lib.hid X.sv
 have HSM := Lib.hid X.same
 have HBUN := Lib.hid X.bun
 have HSHP := Lib.hid X.shp
 have HRD := Lib.hid X.rd
 have HLEN := Lib.hid X.len
 have HBX := Lib.hid X.bx
 have HD := Lib.hid X.hd
 have f1' := X.f1
 have f2' := X.f2
 have t1' := X.t1
 have t2' := X.t2
 have h3' : ((fr : Int) == tt) = false := beq_false_of_ne X.ne
 clear X
 have HFA := Lib.hid (show Frm NoS w (w.alloc (.cells #[.int .i64 kind, .int .i64 fr, .int .i64 tt, .int .i64 v0, .int .i64 v1, .int .i64 v2, .int .i64 v3, .slice al ln cl, .slice a0 n c0, .slice a1 m c1, .slice a2 k c2] 34)) from Frm.alloc _ _ _)
 have c2' : ((kind : Int) == 2) = false := beq_false_of_ne k2
 by_cases hpb : PB
 rotate_left 1
 · rw [tf_false (show ¬ P from fun h => by rcases HD.out.1 h with ⟨-, q, -⟩ | ⟨q, -⟩ | ⟨-, q, -⟩ <;> first | exact hpb q | exact k2 q)]
   rw [tf_false hpb] at HSM
   clear HD hpb k2
   go_enter Tryz.func13, Tryz.ntmps13
   go_wp2_with (first
    | (go_at_call 36; refine (HMAY.out _).mono ?_; rintro e w1 ⟨rfl, hw1⟩; obtain ⟨y0, y1, y2, y3, y4, y5, y6, y7, y8, y9, y10⟩ := HBX.out w1 hw1; have hlb := World.block_lt_of_cell? _ _ y0; have HW1 := Lib.hid hw1; clear hw1)
    | (go_at_call 39; refine (HSM.out _ (HFA.out.then1 HW1.out)).mono ?_; rintro e w2 ⟨rfl, hw2⟩; clear y0 y1 y2 y3 y4 y5 y6 y7 y8 y9 y10 hlb; obtain ⟨y0, y1, y2, y3, y4, y5, y6, y7, y8, y9, y10⟩ := HBX.out w2 (HW1.out.then1 hw2); have hlb := World.block_lt_of_cell? _ _ y0; have HW2 := Lib.hid (HW1.out.then1 hw2); clear hw2))
   go_ret
   exact ⟨rfl, HFA.out.then1 HW2.out⟩
 rw [tf_true hpb] at HSM
 have HPB := Lib.hid hpb; clear hpb
 by_cases k1 : kind = 1
 rotate_left 1
 · have c1' : ((kind : Int) == 1) = false := beq_false_of_ne k1
   have c1'' : ((kind : Int) != 1) = true := by rw [bne, c1']; rfl
   by_cases k3 : kind = 3
   · subst k3
     have hy : tf P = ((ln : Int) == 0) := by
      by_cases l0 : ln = 0
      · rw [tf_true (HD.out.2 (.inr (.inr ⟨by omega, HPB.out, l0⟩))), l0]; rfl
      · rw [tf_false (show ¬ P from fun h => by rcases HD.out.1 h with ⟨q, -⟩ | ⟨q, -⟩ | ⟨-, -, q⟩ <;> omega)]
        exact (beq_false_of_ne (by omega)).symm
     rw [hy]
     clear HD hy k1 k2 c1' c1'' c2'
     go_enter Tryz.func13, Tryz.ntmps13
     go_wp2_with (first
      | (go_at_call 36; refine (HMAY.out _).mono ?_; rintro e w1 ⟨rfl, hw1⟩; obtain ⟨y0, y1, y2, y3, y4, y5, y6, y7, y8, y9, y10⟩ := HBX.out w1 hw1; have hlb := World.block_lt_of_cell? _ _ y0; have HW1 := Lib.hid hw1; clear hw1)
      | (go_at_call 39; refine (HSM.out _ (HFA.out.then1 HW1.out)).mono ?_; rintro e w2 ⟨rfl, hw2⟩; clear y0 y1 y2 y3 y4 y5 y6 y7 y8 y9 y10 hlb; obtain ⟨y0, y1, y2, y3, y4, y5, y6, y7, y8, y9, y10⟩ := HBX.out w2 (HW1.out.then1 hw2); have hlb := World.block_lt_of_cell? _ _ y0; have HW2 := Lib.hid (HW1.out.then1 hw2); clear hw2))
     go_ret
     exact ⟨by first | rfl | simp, HFA.out.then1 HW2.out⟩
   have c3' : ((kind : Int) == 3) = false := beq_false_of_ne k3
   by_cases k4 : kind = 4
   · subst k4
     have hy : tf P = ((ln : Int) == 0) := by
      by_cases l0 : ln = 0
      · rw [tf_true (HD.out.2 (.inr (.inr ⟨by omega, HPB.out, l0⟩))), l0]; rfl
      · rw [tf_false (show ¬ P from fun h => by rcases HD.out.1 h with ⟨q, -⟩ | ⟨q, -⟩ | ⟨-, -, q⟩ <;> omega)]
        exact (beq_false_of_ne (by omega)).symm
     rw [hy]
     clear HD hy k1 k2 k3 c1' c1'' c2' c3'
     go_enter Tryz.func13, Tryz.ntmps13
     go_wp2_with (first
      | (go_at_call 36; refine (HMAY.out _).mono ?_; rintro e w1 ⟨rfl, hw1⟩; obtain ⟨y0, y1, y2, y3, y4, y5, y6, y7, y8, y9, y10⟩ := HBX.out w1 hw1; have hlb := World.block_lt_of_cell? _ _ y0; have HW1 := Lib.hid hw1; clear hw1)
      | (go_at_call 39; refine (HSM.out _ (HFA.out.then1 HW1.out)).mono ?_; rintro e w2 ⟨rfl, hw2⟩; clear y0 y1 y2 y3 y4 y5 y6 y7 y8 y9 y10 hlb; obtain ⟨y0, y1, y2, y3, y4, y5, y6, y7, y8, y9, y10⟩ := HBX.out w2 (HW1.out.then1 hw2); have hlb := World.block_lt_of_cell? _ _ y0; have HW2 := Lib.hid (HW1.out.then1 hw2); clear hw2))
     go_ret
     exact ⟨by first | rfl | simp, HFA.out.then1 HW2.out⟩
   have c4' : ((kind : Int) == 4) = false := beq_false_of_ne k4
   rw [tf_false (show ¬ P from fun h => by rcases HD.out.1 h with ⟨q, -⟩ | ⟨q, -⟩ | ⟨q, -⟩ <;> omega)]
   clear HD k1 k2 k3 k4
   go_enter Tryz.func13, Tryz.ntmps13
   go_wp2_with (first
    | (go_at_call 36; refine (HMAY.out _).mono ?_; rintro e w1 ⟨rfl, hw1⟩; obtain ⟨y0, y1, y2, y3, y4, y5, y6, y7, y8, y9, y10⟩ := HBX.out w1 hw1; have hlb := World.block_lt_of_cell? _ _ y0; have HW1 := Lib.hid hw1; clear hw1)
    | (go_at_call 39; refine (HSM.out _ (HFA.out.then1 HW1.out)).mono ?_; rintro e w2 ⟨rfl, hw2⟩; clear y0 y1 y2 y3 y4 y5 y6 y7 y8 y9 y10 hlb; obtain ⟨y0, y1, y2, y3, y4, y5, y6, y7, y8, y9, y10⟩ := HBX.out w2 (HW1.out.then1 hw2); have hlb := World.block_lt_of_cell? _ _ y0; have HW2 := Lib.hid (HW1.out.then1 hw2); clear hw2))
   go_ret
   exact ⟨rfl, HFA.out.then1 HW2.out⟩
 subst k1
 clear k2 c2'
 go_enter Tryz.func13, Tryz.ntmps13
 go_wp2_with (first
  | (go_at_call 36; refine (HMAY.out _).mono ?_; rintro e w1 ⟨rfl, hw1⟩; obtain ⟨y0, y1, y2, y3, y4, y5, y6, y7, y8, y9, y10⟩ := HBX.out w1 hw1; have hlb := World.block_lt_of_cell? _ _ y0; have HW1 := Lib.hid hw1; clear hw1)
  | (go_at_call 39; refine (HSM.out _ (HFA.out.then1 HW1.out)).mono ?_; rintro e w2 ⟨rfl, hw2⟩; clear y0 y1 y2 y3 y4 y5 y6 y7 y8 y9 y10 hlb; obtain ⟨y0, y1, y2, y3, y4, y5, y6, y7, y8, y9, y10⟩ := HBX.out w2 (HW1.out.then1 hw2); have hlb := World.block_lt_of_cell? _ _ y0; have HW2 := Lib.hid (HW1.out.then1 hw2); clear hw2))
 clear y0 y1 y2 y3 y4 y5 y6 y7 y8 y9 y10 hlb
 go_loopw [81] (fun i W => ∃ q : Nat, q ≤ ln ∧ q ≤ 16 ∧ i = .int .i64 q ∧ (ps.take q).any pW = false ∧ Frm NoS (w.alloc (.cells #[.int .i64 1, .int .i64 fr, .int .i64 tt, .int .i64 v0, .int .i64 v1, .int .i64 v2, .int .i64 v3, .slice al ln cl, .slice a0 n c0, .slice a1 m c1, .slice a2 k c2] 34)) W) (fun i _ => ln - (intOf i).toNat)
 case atStart => exact ⟨0, Nat.zero_le _, Nat.zero_le _, rfl, by simp, HW2.out⟩
 case round =>
  obtain ⟨q, hq, h16, rfl, ha, hw⟩ := hrel
  have HAN := Lib.hid ha; clear ha
  have HW := Lib.hid hw; clear hw
  clear HW2
  obtain ⟨y0, y1, y2, y3, y4, y5, y6, y7, y8, y9, y10⟩ := HBX.out wr HW.out
  have hlb := World.block_lt_of_cell? _ _ y0
  by_cases hlt : q < ln
  · by_cases h6 : 16 ≤ q
    · have hyn : tf P = false := tf_false fun h => by rcases HD.out.1 h with ⟨-, -, -, z, -⟩ | ⟨z, -⟩ | ⟨z, -⟩ <;> omega
      have HYN := Lib.hid hyn
      have h6' : (16 : Int) ≤ (q : Int) := by omega
      clear HD hyn
      go_wp2
      go_ret
      exact ⟨by rw [HYN.out]; rfl, HFA.out.then1 HW.out⟩
    · have hlk : q < ps.length := by rw [HLEN.out]; exact hlt
      have h6' : ¬ (16 : Int) ≤ (q : Int) := by omega
      have hrd := HRD.out.keep0 (HFA.out.then1 HW.out)
      rcases Rd.shape hrd with ⟨ad, he, h0⟩ | ⟨b, off, cc, he, hmax⟩
      · exfalso; omega
      · injection he with e1 e2 e3
        subst e1 e3
        clear e2
        obtain ⟨q0, q1, q2, q3, q4, q5, q6, q7, q8, q9⟩ := bun_at hrd q hlk
        clear hrd
        have hm := getD_mem BunP.zero hlk
        have hbc := HBUN.out _ hm
        have hsh := HSHP.out _ hm
        have HT := Lib.hid (anyP_take (p := pW) hlk)
        have HE := Lib.hid (anyP_here (p := pW) hlk)
        clear hm
        generalize pW (ps.getD q BunP.zero) = y at *
        obtain ⟨p, hgd⟩ : ∃ p, p = ps.getD q BunP.zero := ⟨_, rfl⟩
        rw [← hgd] at q0 q1 q2 q3 q4 q5 q6 q7 q8 q9 hbc hsh
        clear hgd
        obtain ⟨⟨dc, af, la, u0, u1, u2, u3, es', ks', c'⟩, ev', kv', cv'⟩ := p
        dsimp only at q0 q1 q2 q3 q4 q5 q6 q7 q8 q9 hbc hsh
        obtain ⟨a3, c3, a4, c4, a5, c5, rfl, rfl, rfl⟩ := hsh
        have HBC := Lib.hid hbc; clear hbc
        generalize es'.length = n' at *
        generalize ks'.len = m' at *
        generalize c'.length = k' at *
        cases y with
        | true =>
         have hyn : tf P = false := tf_false fun h => by
          rcases HD.out.1 h with ⟨-, -, -, -, z⟩ | ⟨z, -⟩ | ⟨z, -⟩
          · rw [HE.out rfl] at z; cases z
          · omega
          · omega
         have HYN := Lib.hid hyn
         clear HD hyn HE HT
         go_wp2_with (go_at_call 23; refine (HBC.out _ (HFA.out.then1 HW.out)).mono ?_; rintro e w3 ⟨rfl, hw3⟩; have HW3 := Lib.hid (HW.out.then1 hw3); clear hw3)
         go_ret
         exact ⟨by rw [HYN.out]; rfl, HFA.out.then1 HW3.out⟩
        | false =>
         have HTX := Lib.hid (show (ps.take (q + 1)).any pW = false by rw [HT.out, HAN.out]; rfl)
         clear HE HT
         go_wp2_with (go_at_call 23; refine (HBC.out _ (HFA.out.then1 HW.out)).mono ?_; rintro e w3 ⟨rfl, hw3⟩; have HW3 := Lib.hid (HW.out.then1 hw3); clear hw3)
         go_roundw
         case rel => exact ⟨q + 1, by omega, by omega, by go_num, HTX.out, HW3.out⟩
         case measure => simp [intOf]; omega
  · obtain rfl : ln = q := by omega
    have hall : ps.any pW = false := by
     have := HAN.out
     rwa [List.take_of_length_le (by rw [HLEN.out]; exact Nat.le_refl _)] at this
    have hy : tf P = decide (0 < ln) := by
     by_cases h0 : 0 < ln
     · rw [tf_true (HD.out.2 (.inl ⟨by trivial, HPB.out, h0, h16, hall⟩)), decide_eq_true h0]
     · rw [tf_false (show ¬ P from fun h => by rcases HD.out.1 h with ⟨-, -, z, -⟩ | ⟨z, -⟩ | ⟨z, -⟩ <;> omega), decide_eq_false h0]
    have HY := Lib.hid hy
    clear HD hall hy hlt hq
    go_wp2
    go_ret
    exact ⟨by rw [HY.out]; first | rfl | simp, HFA.out.then1 HW.out⟩
theorem stOk_sol {v0 v1 v2 v3 : Int} {es : List Ent} {ks : KidsL} {c : CtxL} : StOk v0 v1 v2 v3 es ks c ↔ Sol9 es ks c ∧ (frV c 0 = v0 ∧ frV c 1 = v1 ∧ frV c 2 = v2 ∧ frV c 3 = v3) := by
 unfold StOk Sol9
 constructor
 · rintro ⟨h1, h2, h3, h4⟩
   exact ⟨⟨h1, h4, (solid_iff h1.ctx).1 h2⟩, h3⟩
 · rintro ⟨⟨h1, h2, h3⟩, h4⟩
   exact ⟨h1, (solid_iff h1.ctx).2 h3, h4, h2⟩
theorem bare_iff {es : List Ent} {ks : KidsL} {c : CtxL} : BareM es ks c ↔ (es = [] ∧ ks = .nil) ∧ c = [] := by
 constructor
 · intro h
   obtain ⟨h1, h2, h3⟩ := bare_nil h
   exact ⟨⟨h1, h2⟩, h3⟩
 · rintro ⟨⟨rfl, rfl⟩, rfl⟩
   exact ⟨rfl, rfl, rfl⟩
theorem r25Right_any (Q : Nat → Prop) (m : MsgD) (ps : List BunP) (w : World) (lv ev kv cv : Value) (h : MsgAt Q w m ps lv ev kv cv) (hok : MsgOkS m) :
 Calls Tryz.prog 13 #[m.ag lv ev kv cv] w fun e w' => e = .returned (.bool (tf m.right)) ∧ Frm NoS w w' := by
 obtain ⟨kind, fr, tt, v0, v1, v2, v3, bs, es, ks, c⟩ := m
 have hps := h.eq
 have hca := h.cau
 have hokc := hok.st
 have hbs := h.bs
 have hob : ∀ p ∈ ps, CauOk p.b.es p.b.ks p.b.c := fun p hp => hok.each p.b (h.eq ▸ List.mem_map.2 ⟨p, hp, rfl⟩)
 have hpl : ps.length = bs.length := h.len
 dsimp only at hps hca hokc
 have HSO := Lib.hid (fun W (f : Frm NoS w W) => r9Solid_any Q es ks c W ev kv cv (hca.keep0 f) hokc)
 have HVE := Lib.hid (fun (hs : Sol9 es ks c) W (f : Frm NoS w W) => r7Vector_any W cv c (Rd.keep0 hca.ctx f) hs.1.ctx (by have := hokc.len; omega))
 have HSM := Lib.hid (fun W (f : Frm NoS w W) => r9Same_any Q Q es ks c [] .nil [] W ev kv cv _ _ _ (hca.keep0 f) hokc (nilAt Q W) nilOk)
 have HBU := Lib.hid (fun p hp W (f : Frm NoS w W) => r22Right_any Q p.b.es p.b.ks p.b.c W p.b.dc p.b.af p.b.la p.b.v0 p.b.v1 p.b.v2 p.b.v3 p.ev p.kv p.cv ((hbs.cau p hp).keep0 f) (hob p hp))
 have HSH := Lib.hid (fun p hp => (hbs.cau p hp).shape)
 have HMA := Lib.hid (fun W => r7May_any W v0 v1 v2 v3)
 unfold vecV at HMA
 have hrd := hbs.rd
 obtain ⟨a0, c0, a1, c1, a2, c2, rfl, rfl, rfl⟩ := hca.shape
 obtain ⟨al, cl, rfl⟩ := hbs.rd.sl
 clear hca hbs hok hokc hob
 dsimp only [MsgD.ag]
 have HDEF := Lib.hid (show MsgD.right ⟨kind, fr, tt, v0, v1, v2, v3, bs, es, ks, c⟩ ↔ MayV (vecF v0 v1 v2 v3) ∧ (0 ≤ fr ∧ fr < 4) ∧ (0 ≤ tt ∧ tt < 4) ∧ fr ≠ tt ∧ ((kind = 1 ∧ ((es = [] ∧ ks = .nil) ∧ c = []) ∧ 1 ≤ ps.length ∧ ps.length ≤ 16 ∧ ps.any pW = false) ∨ (kind = 2 ∧ ps.length = 0 ∧ Sol9 es ks c ∧ (frV c 0 = v0 ∧ frV c 1 = v1 ∧ frV c 2 = v2 ∧ frV c 3 = v3)) ∨ ((kind = 3 ∨ kind = 4) ∧ ((es = [] ∧ ks = .nil) ∧ c = []) ∧ ps.length = 0)) by
  unfold MsgD.right
  dsimp only
  rw [stOk_sol, bare_iff, anyW_false, hps, hpl])
 have HBX := Lib.hid (fun W f => box11 w (.int .i64 kind) (.int .i64 fr) (.int .i64 tt) (.int .i64 v0) (.int .i64 v1) (.int .i64 v2) (.int .i64 v3) (.slice al ps.length cl) (.slice a0 es.length c0) (.slice a1 ks.len c1) (.slice a2 c.length c2) 34 W f)
 have HFA := Lib.hid (show Frm NoS w (w.alloc (.cells #[.int .i64 kind, .int .i64 fr, .int .i64 tt, .int .i64 v0, .int .i64 v1, .int .i64 v2, .int .i64 v3, .slice al ps.length cl, .slice a0 es.length c0, .slice a1 ks.len c1, .slice a2 c.length c2] 34)) from Frm.alloc _ _ _)
 have HRD := Lib.hid hrd
 clear h hrd hpl hps
 by_cases hm : MayV (vecF v0 v1 v2 v3) ∧ (0 ≤ fr ∧ fr < 4) ∧ (0 ≤ tt ∧ tt < 4) ∧ fr ≠ tt
 · obtain ⟨m1, ⟨m2, m3⟩, ⟨m4, m5⟩, m6⟩ := hm
   rw [tf_true m1] at HMA
   have hvc : vecC (fun d => frontL (partL c d)) = #[.int .i64 (frV c 0), .int .i64 (frV c 1), .int .i64 (frV c 2), .int .i64 (frV c 3)] := rfl
   rw [hvc] at HVE
   have X : RCtx (MsgD.right ⟨kind, fr, tt, v0, v1, v2, v3, bs, es, ks, c⟩) ((es = [] ∧ ks = .nil) ∧ c = []) (Sol9 es ks c) (frV c 0 = v0 ∧ frV c 1 = v1 ∧ frV c 2 = v2 ∧ frV c 3 = v3) ps ps.length es.length ks.len c.length kind fr tt v0 v1 v2 v3 (frV c 0) (frV c 1) (frV c 2) (frV c 3) al a0 a1 a2 cl c0 c1 c2 w :=
    ⟨HMA.out, HSO.out, HVE.out, Iff.rfl, HSM.out, fun p hp W f => (HBU.out p hp W f).mono fun e w' h => ⟨by rw [h.1]; unfold pW; rw [Bool.not_not]; rfl, h.2⟩, HSH.out, HRD.out, rfl, HBX.out, m6, m2, m3, m4, m5,
     ⟨fun h => (HDEF.out.1 h).2.2.2.2, fun h => HDEF.out.2 ⟨m1, ⟨m2, m3⟩, ⟨m4, m5⟩, m6, h⟩⟩⟩
   by_cases k2 : kind = 2
   · exact r25_k2 X k2
   · exact r25_kn X k2
 rw [tf_false (show ¬ MsgD.right ⟨kind, fr, tt, v0, v1, v2, v3, bs, es, ks, c⟩ from fun h => hm ⟨(HDEF.out.1 h).1, (HDEF.out.1 h).2.1, (HDEF.out.1 h).2.2.1, (HDEF.out.1 h).2.2.2.1⟩)]
 clear HDEF HSO HVE HSM HBU HSH HBX HRD
 generalize ps.length = ln at *
 generalize es.length = n at *
 generalize ks.len = m at *
 generalize c.length = k at *
 by_cases m2 : fr < 0
 · clear hm HMA
   go_enter Tryz.func13, Tryz.ntmps13
   go_wp2
   go_ret
   exact ⟨rfl, HFA.out⟩
 by_cases m3 : 4 ≤ fr
 · clear hm HMA
   go_enter Tryz.func13, Tryz.ntmps13
   go_wp2
   go_ret
   exact ⟨rfl, HFA.out⟩
 by_cases m4 : tt < 0
 · clear hm HMA
   go_enter Tryz.func13, Tryz.ntmps13
   go_wp2
   go_ret
   exact ⟨rfl, HFA.out⟩
 by_cases m5 : 4 ≤ tt
 · clear hm HMA
   go_enter Tryz.func13, Tryz.ntmps13
   go_wp2
   go_ret
   exact ⟨rfl, HFA.out⟩
 by_cases m6 : fr = tt
 · have m6' : ((fr : Int) == tt) = true := by rw [m6]; exact beq_self_eq_true _
   clear hm HMA m6
   go_enter Tryz.func13, Tryz.ntmps13
   go_wp2
   go_ret
   exact ⟨rfl, HFA.out⟩
 have m6' : ((fr : Int) == tt) = false := beq_false_of_ne m6
 have m1 : ¬ MayV (vecF v0 v1 v2 v3) := fun h => hm ⟨h, ⟨by omega, by omega⟩, ⟨by omega, by omega⟩, m6⟩
 rw [tf_false m1] at HMA
 clear hm m1 m6
 go_enter Tryz.func13, Tryz.ntmps13
 go_wp2_with (go_at_call 36; refine (HMA.out _).mono ?_; rintro e w1 ⟨rfl, hw1⟩; have HW1 := Lib.hid (HFA.out.then1 hw1); clear hw1)
 go_ret
 exact ⟨rfl, HW1.out⟩
end Go.Proofs.YtcahemkomfaabaaGreat
