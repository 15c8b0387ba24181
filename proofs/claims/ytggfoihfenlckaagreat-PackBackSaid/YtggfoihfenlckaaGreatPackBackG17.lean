/- Words for the law PackBack: Puts0, PackGet, GetAt, PackGet2. -/
import Derived.Test.YtggfoihfenlckaaGreatPackBackG10
import Derived.Test.YtggfoihfenlckaaGreatPackBackG14
import Derived.Test.YtggfoihfenlckaaGreatPackBackG16
import Derived.Deep.RegionLaw
set_option linter.unusedSimpArgs false
set_option linter.unusedVariables false
/- An Out, a copy that are kept. -/
namespace Go.Proofs.YtggfoihfenlckaaGreat
open Go.RowKit
theorem own_lt {w : World} {e : TypeId} {size : Nat} {v : Value} {n : Nat} {xs : List Value} (h : w.ownsRow 0 e size v n xs) : ∀ k, v.ownBlock = some k → k < w.heap.size := fun k hk => (h.lt k hk).2
theorem NewV.fresh {w wi : World} {v v' : Value} (h : NewV w v) (hs : w.heap.size ≤ wi.heap.size) (f : Fresh wi v v') : NewV w v' := fun k hk => by
  rcases f k hk with h1 | h1
  · exact h k h1
  · omega
theorem OutAt.keep {w w' : World} {ob : Nat} {v : Value} {bs : List UInt8} (h : OutAt w ob v bs) {S : Nat → Prop} (f : Frm S w w') (h1 : ¬ S ob) (h2 : ∀ k, v.ownBlock = some k → ¬ S k) : OutAt w' ob v bs :=
  ⟨f.blk h.cell h1, f.owns h.own h2, h.apart⟩
end Go.Proofs.YtggfoihfenlckaaGreat
/- pack: count, GetCtx: the walks. -/
namespace Go.Proofs.YtggfoihfenlckaaGreat
open Go.RowKit
set_option maxHeartbeats 1000000 in
set_option maxRecDepth 1000000 in
theorem pcount_any (ib : Nat) (st : Option (List UInt8)) (w : World) (h : InSt w ib st) :
    Calls Tryz.prog 76 #[.pointer (some ⟨ib, 0, none⟩)] w fun e w' => ∃ (n : Nat) (st' : Option (List UInt8)), e = .returned (.int .i64 n) ∧ CntStep st 60000 n st' ∧ InSt w' ib st' ∧ Frm (Only ib) w w' := by
  obtain ⟨v, s1, hs⟩ := NumStep.total st 60000
  have hvr := num_in hs
  have HN := Lib.hid (inum_at ib st 60000 v s1 w h hs (by omega) (by omega))
  clear h
  have HS := Lib.hid hs; clear hs
  obtain ⟨L, hL⟩ : ∃ L, L = (leftOf s1).length := ⟨_, rfl⟩
  by_cases c1 : v < 0
  · have hpost : ∀ w', InSt w' ib none → CntStep st 60000 0 none := fun w' _ => ⟨v, s1, HS.out, by
      cases s1 with
      | none => exact ⟨rfl, rfl⟩
      | some r => exact .inr ⟨.inl c1, rfl, rfl⟩⟩
    have HPOST := Lib.hid hpost; clear hpost
    go_enter Tryz.func76, Tryz.ntmps76
    go_wp2_with (first
      | (go_at_call 77; refine HN.out.mono ?_; rintro e w1 ⟨rfl, hi, hf⟩; have HI := Lib.hid hi; clear hi; have HF := Lib.hid hf; clear hf)
      | (go_at_call 79; obtain ⟨a, c, hh⟩ := HI.out.heap; refine (fail_go ib _ _ w1 hh).mono ?_; rintro e w2 ⟨rfl, hi2, hf2⟩; have HI2 := Lib.hid hi2; clear hi2 hh; have HF2 := Lib.hid hf2; clear hf2))
    go_ret
    exact ⟨0, none, rfl, HPOST.out w2 HI2.out, HI2.out, HF.out.trans HF2.out fun _ _ h => h⟩
  · by_cases c2 : (L : Int) < v
    · have hpost : ∀ w', InSt w' ib none → CntStep st 60000 0 none := fun w' _ => ⟨v, s1, HS.out, by
        cases s1 with
        | none => exact ⟨rfl, rfl⟩
        | some r => exact .inr ⟨.inr (by rw [hL] at c2; exact c2), rfl, rfl⟩⟩
      have HPOST := Lib.hid hpost; clear hpost
      have HL := Lib.hid hL; clear hL
      go_enter Tryz.func76, Tryz.ntmps76
      go_wp2_with (first
        | (go_at_call 77; refine HN.out.mono ?_; rintro e w1 ⟨rfl, hi, hf⟩; have HI := Lib.hid hi; clear hi; have HF := Lib.hid hf; clear hf)
        | (go_at_call 18; refine (left_go ib s1 w1 HI.out).mono ?_; rintro e w2 ⟨rfl, rfl⟩; rw [← HL.out])
        | (go_at_call 79; obtain ⟨a, c, hh⟩ := HI.out.heap; refine (fail_go ib _ _ w1 hh).mono ?_; rintro e w2 ⟨rfl, hi2, hf2⟩; have HI2 := Lib.hid hi2; clear hi2 hh; have HF2 := Lib.hid hf2; clear hf2))
      go_ret
      exact ⟨0, none, rfl, HPOST.out w2 HI2.out, HI2.out, HF.out.trans HF2.out fun _ _ h => h⟩
    · obtain ⟨n, rfl⟩ := Int.eq_ofNat_of_zero_le (show 0 ≤ v by omega)
      have hpost : ∃ st', CntStep st 60000 n st' ∧ st' = s1 := ⟨s1, ⟨n, s1, HS.out, by
        cases s1 with
        | none => exact ⟨by rw [hL] at c2; simp [leftOf] at c2; omega, rfl⟩
        | some r => exact .inl ⟨by omega, by rw [hL] at c2; simpa [leftOf] using c2, by omega, rfl⟩⟩, rfl⟩
      have HPOST := Lib.hid hpost; clear hpost
      have HL := Lib.hid hL; clear hL
      go_enter Tryz.func76, Tryz.ntmps76
      go_wp2_with (first
        | (go_at_call 77; refine HN.out.mono ?_; rintro e w1 ⟨rfl, hi, hf⟩; have HI := Lib.hid hi; clear hi; have HF := Lib.hid hf; clear hf)
        | (go_at_call 18; refine (left_go ib s1 w1 HI.out).mono ?_; rintro e w2 ⟨rfl, rfl⟩; rw [← HL.out]))
      go_ret
      obtain ⟨st', h1, rfl⟩ := HPOST.out
      exact ⟨n, _, rfl, h1, HI.out, HF.out⟩
/-- What of a list of own cells is made, while blocks of S turn. -/
structure MadeAt (S : Nat → Prop) (w ww : World) (e : TypeId) (size : Nat) (v : Value) (n : Nat) (xs : List Value) : Prop where
  own : ww.ownsRow 0 e size v n xs
  new : NewV w v
  frm : Frm S w ww
theorem MadeAt.keep {S : Nat → Prop} {w ww w' : World} {e : TypeId} {size : Nat} {v : Value} {n : Nat} {xs : List Value} (low : ∀ k, S k → k < w.heap.size) (h : MadeAt S w ww e size v n xs) (f : Frm S ww w') : MadeAt S w w' e size v n xs :=
  ⟨f.owns h.own fun b hb hs => by have := h.new b hb; have := low b hs; omega, h.new, h.frm.trans f fun _ _ h => h⟩
theorem MadeAt.step {S : Nat → Prop} {w w1 w' : World} {e e' : TypeId} {size size' : Nat} {v v' : Value} {n n' : Nat} {xs xs' : List Value} (h : MadeAt S w w1 e size v n xs) (own : w'.ownsRow 0 e' size' v' n' xs') (fm : Frm (RowS v) w1 w') (fr : Fresh w1 v v') : MadeAt S w w' e' size' v' n' xs' :=
  ⟨own, NewV.fresh (w := w) (wi := w1) (v := v) (v' := v') h.new h.frm.size fr, h.frm.trans fm fun i hi hs => by have := h.new i hs; omega⟩
theorem MadeAt.rdq {S : Nat → Prop} {w ww : World} {e : TypeId} {size : Nat} {v : Value} {n : Nat} {xs : List Value} (h : MadeAt S w ww e size v n xs) : RdQ (fun k => w.heap.size ≤ k) ww v n xs := ⟨Rd.own h.own, fun _ k hk => h.new k hk⟩
theorem SpStep.total (B : Lim) (st : Option (List UInt8)) : ∃ (a b c : Int) (s1 s2 s3 : Option (List UInt8)), NumStep st B.dc a s1 ∧ NumStep s1 B.n b s2 ∧ NumStep s2 B.n c s3 := by
  obtain ⟨a, s1, h1⟩ := NumStep.total st B.dc
  obtain ⟨b, s2, h2⟩ := NumStep.total s1 B.n
  obtain ⟨c, s3, h3⟩ := NumStep.total s2 B.n
  exact ⟨a, b, c, s1, s2, s3, h1, h2, h3⟩
theorem SpRun.fits {B : Lim} {st t : Option (List UInt8)} {k : Nat} {c : CtxL} (h : SpRun B st k c t) : FitsC c := fun s hs => by
  obtain ⟨h1, h2, h3⟩ := Run.all (P := fun s => inR s.1 ∧ inR s.2.1 ∧ inR s.2.2) (fun h => SpStep.fits h) h s hs
  exact ⟨h1.1, h1.2, h2.1, h2.2, h3.1, h3.2⟩
theorem spC_snoc (c : CtxL) (a b d : Int) : spC c ++ [.int .i64 a, .int .i64 b, .int .i64 d] = spC (c ++ [(a, b, d)]) := by rw [spC_append]; rfl
def CtxPost (st : Option (List UInt8)) (ib : Nat) (w : World) (e : Ending) (w' : World) : Prop :=
  ∃ cv c s, e = .returned cv ∧ RdQ (fun b => w.heap.size ≤ b) w' cv c.length (spC c) ∧ CtxRes st c s ∧ FitsC c ∧ (c.length ≤ (leftOf st).length) ∧ InSt w' ib s ∧ Frm (Only ib) w w'
theorem CntStep.left {st s : Option (List UInt8)} {m : Int} {n : Nat} (h : CntStep st m n s) : n ≤ (leftOf st).length := by
  cases s with
  | some r =>
    obtain ⟨rfl, h1, _⟩ := h.good
    show n ≤ (numB n ++ r).length
    rw [List.length_append]; omega
  | none =>
    obtain ⟨v, s1, h1, h2⟩ := h
    cases s1 with
    | none => rw [h2.1]; exact Nat.zero_le _
    | some q =>
      rcases h2 with ⟨_, _, _, d⟩ | ⟨_, c, _⟩
      · cases d
      · rw [c]; exact Nat.zero_le _
set_option maxHeartbeats 2000000 in
set_option maxRecDepth 1000000 in
theorem pGetCtx_any (ib : Nat) (st : Option (List UInt8)) (w : World) (h : InSt w ib st) (hl : (leftOf st).length ≤ 60000) :
    Calls Tryz.prog 26 #[.pointer (some ⟨ib, 0, none⟩)] w (CtxPost st ib w) := by
  obtain ⟨i0, hi, hz0, hz1, hz2⟩ := info_parts info_span
  have HC := Lib.hid (pcount_any ib st w h)
  have low : ∀ k, Only ib k → k < w.heap.size := fun k hk => by rw [show k = ib from hk]; exact h.lt
  have HLO := Lib.hid low; clear low
  clear h
  go_enter Tryz.func26, Tryz.ntmps26
  go_wp2_with (go_at_call 76; refine HC.out.mono ?_; rintro e w1 ⟨n, s1, rfl, hc1, hi1, hf1⟩; have HC1 := Lib.hid hc1; have hn : n ≤ 60000 := by { have := hc1.left; omega }; clear hc1; have HI1 := Lib.hid hi1; clear hi1; have HF1 := Lib.hid hf1; clear hf1)
  go_loopw [3, 6] (fun cv i ww => ∃ (k : Nat) (c : CtxL) (s : Option (List UInt8)), k ≤ n ∧ i = .int .i64 k ∧ SpRun bdP s1 k c s ∧ InSt ww ib s ∧ MadeAt (Only ib) w ww 122 3 cv k (spC c)) (fun _ i _ => n - (intOf i).toNat)
  case atStart => exact ⟨0, [], s1, Nat.zero_le _, rfl, .zero, HI1.out, World.ownsRow_nil _ 0 _ 3, (fun b hb => by simp [Value.ownBlock] at hb), HF1.out⟩
  case round =>
    obtain ⟨k, c, s, hk, rfl, hrun, hin, hmd⟩ := hrel
    have HRUN := Lib.hid hrun; clear hrun
    have HIN := Lib.hid hin; clear hin
    obtain ⟨aV, cV, rfl⟩ := (Rd.own hmd.own).sl
    have HMD := Lib.hid hmd; clear hmd
    by_cases hlt : k < n
    · obtain ⟨d, a, b, t1, t2, t3, g1, g2, g3⟩ := SpStep.total bdP s
      have HG1 := Lib.hid g1; clear g1
      have HG2 := Lib.hid g2; clear g2
      have HG3 := Lib.hid g3; clear g3
      go_wp2_with (first
        | (go_at_call 77; refine (inum_at ib t2 1099511627776 b t3 _ HI4.out HG3.out (by omega) (by omega)).mono ?_; rintro e w5 ⟨rfl, hi5, hf5⟩; have HI5 := Lib.hid hi5; clear hi5; have HF5 := Lib.hid hf5; clear hf5)
        | (go_at_call 77; refine (inum_at ib t1 1099511627776 a t2 _ HI3.out HG2.out (by omega) (by omega)).mono ?_; rintro e w4 ⟨rfl, hi4, hf4⟩; have HI4 := Lib.hid hi4; clear hi4; have HF4 := Lib.hid hf4; clear hf4)
        | (go_at_call 77; refine (inum_at ib s 4 d t1 _ HIN.out HG1.out (by omega) (by omega)).mono ?_; rintro e w3 ⟨rfl, hi3, hf3⟩; have HI3 := Lib.hid hi3; clear hi3; have HF3 := Lib.hid hf3; clear hf3)
        | (at_builtin; have hm5 := ((HMD.out.keep HLO.out HF3.out).keep HLO.out HF4.out).keep HLO.out HF5.out; have HM5 := Lib.hid hm5; clear hm5; go_loud (refine wpList_app1 w5 [.int .i64 d, .int .i64 a, .int .i64 b] rfl (.tmp 8) (.tmp 16) 31 rfl 122 i0 _ 3 24 Tryz.underlying31 hi hz0 hz1 hz2 (by decide) (by decide) _ _ _ HM5.out.own 1 1 rfl rfl rfl ?c1 ?c2 ?c3 ?_)))
      case c1 => simp [Value.oneCell']
      case c2 => simp only [maxLen]; omega
      case c3 => omega
      intro ad cc w6 own6 fm6 fr6
      have HIK := Lib.hid (show InSt w6 ib t3 from HI5.out.keep fm6 fun j hj hs => by
        have := HM5.out.new j hs
        have := HLO.out ib rfl
        omega)
      have HST := Lib.hid (HM5.out.step own6 fm6 fr6)
      clear own6 fm6 fr6
      go_wp2
      go_roundw
      case rel => exact ⟨k + 1, c ++ [(d, a, b)], t3, by omega, by go_num, .snoc HRUN.out ⟨_, _, HG1.out, HG2.out, HG3.out⟩, HIK.out, by rw [← spC_snoc]; exact HST.out⟩
      case measure => simp [intOf]; omega
    · obtain rfl : n = k := by omega
      have hcl := HRUN.out.len
      have HBAD := Lib.hid (bad_go ib s wr HIN.out)
      cases s with
      | none =>
        have HPOST := Lib.hid (ctx_bad bdP_ok wideP (M := 60000) (by omega) (by omega) HC1.out HRUN.out (.inl rfl))
        go_wp2_with (first
          | (go_at_call 17; refine HBAD.out.mono ?_; rintro e w2 ⟨rfl, rfl⟩)
          | (go_at_call 79; obtain ⟨a, c, hh⟩ := HIN.out.heap; refine (fail_go ib _ _ wr hh).mono ?_; rintro e w2 ⟨rfl, hi2, hf2⟩; have HI2 := Lib.hid hi2; clear hi2 hh; have HF2 := Lib.hid hf2; clear hf2))
        go_ret
        exact ⟨_, [], none, rfl, ⟨.inl ⟨none, rfl, rfl, rfl⟩, fun h => absurd rfl h⟩, HPOST.out, (fun s hs => by cases hs), Nat.zero_le _, HI2.out, HMD.out.frm.trans HF2.out fun _ _ h => h⟩
      | some r =>
        have hcr := cRight_any wr (.slice aV n cV) c (by unfold CtxAt; rw [hcl]; exact Rd.own HMD.out.own) (SpRun.fits HRUN.out) (by omega)
        have HCR := Lib.hid hcr; clear hcr
        by_cases hr : RightC c
        · rw [tf_true hr] at HCR
          have HPOST := Lib.hid (ctx_good HC1.out HRUN.out hr); clear hr
          have HFI := Lib.hid (SpRun.fits HRUN.out)
          have hnl := HC1.out.left
          go_wp2_with (first
            | (go_at_call 17; refine HBAD.out.mono ?_; rintro e w2 ⟨rfl, rfl⟩)
            | (go_at_call 78; refine HCR.out.mono ?_; rintro e w2 ⟨rfl, hf2⟩; have HF2 := Lib.hid hf2; clear hf2))
          go_ret
          exact ⟨_, c, some r, rfl, by rw [hcl]; exact HMD.out.rdq.keep HF2.out (fun _ _ s => s.elim), HPOST.out, HFI.out, by omega, HIN.out.keep HF2.out (fun _ _ h => h), HMD.out.frm.trans HF2.out fun _ _ h => h.elim⟩
        · rw [tf_false hr] at HCR
          have HPOST := Lib.hid (ctx_bad bdP_ok wideP (M := 60000) (by omega) (by omega) HC1.out HRUN.out (.inr hr)); clear hr
          go_wp2_with (first
            | (go_at_call 17; refine HBAD.out.mono ?_; rintro e w2 ⟨rfl, rfl⟩)
            | (go_at_call 78; refine HCR.out.mono ?_; rintro e w2 ⟨rfl, hf2⟩; have HIN2 := Lib.hid (HIN.out.keep hf2 (fun _ _ h => h)); have HF2 := Lib.hid hf2; clear hf2)
            | (go_at_call 79; obtain ⟨a, c, hh⟩ := HIN2.out.heap; refine (fail_go ib _ _ w2 hh).mono ?_; rintro e w3 ⟨rfl, hi2, hf2⟩; have HI2 := Lib.hid hi2; clear hi2 hh; have HF3 := Lib.hid hf2; clear hf2))
          go_ret
          exact ⟨_, [], none, rfl, ⟨.inl ⟨none, rfl, rfl, rfl⟩, fun h => absurd rfl h⟩, HPOST.out, (fun s hs => by cases hs), Nat.zero_le _, HI2.out, (HMD.out.frm.trans HF2.out fun _ _ h => h.elim).trans HF3.out fun _ _ h => h⟩
end Go.Proofs.YtggfoihfenlckaaGreat
/- What of a tree is made while it is read: how it lies. -/
namespace Go.Proofs.YtggfoihfenlckaaGreat
open Go.RowKit
theorem stp_app1 {P : Program} {ops : Array Oper} {o : Oper} {a : Act} (w : World) {K : Act → World → Prop} {Q : Exit → Act → World → Prop} {E : Prop} (news : List Value) (hgd : o.guard = none) (s x : Operand) (t : TypeId)
    (ho : o.op = .call { callee := .builtin .append, args := #[s, x], argTypes := #[t, t] })
    (e : TypeId) (i : TypeInfo) (z : Value) (size bytes : Nat) (ht : P.underlying t = some (.slice e)) (hi : P.info? e = some i) (hz : i.zero = some z)
    (hsize : i.size = size) (hby : i.bytes = bytes) (hzs : z.cells.size = size) (hsz : 0 < size)
    (v : Value) (n : Nat) (xs : List Value) (hown : w.ownsRow 0 e size v n xs) (m c : Nat) (hv : a.eval s = v) (hx : a.eval x = .slice (some ⟨w.heap.size, 0, none⟩) m c)
    (hnl : news.length = m * size) (h1 : ∀ u ∈ news, u.oneCell' = true) (h63 : n + m ≤ maxLen) (hbytes : (n + m) * bytes ≤ 140737488355328)
    (h : ∀ ad c w', w'.ownsRow 0 e size (.slice ad (n + m) c) (n + m) (xs ++ news) → Frm (RowS v) w w' → Fresh w v (.slice ad (n + m) c) → K (a.put o.dst (.slice ad (n + m) c)) w') :
    if Region.wanted o (yielded ops a.tmps) = true then Oper.wp P o a (w.alloc (.cells news.toArray e)) K Q else E := by
  have hw : Region.wanted o (yielded ops a.tmps) = true := by simp [Region.wanted, hgd]
  rw [if_pos hw]
  have hs : Src P size t (.slice (some ⟨w.heap.size, 0, none⟩) m c) m news (w.alloc (.cells news.toArray e)) :=
    Src.ofSlice _ ht ⟨w.heap.size, 0, none⟩ m c news hnl (fun j u hj => by
      have hadd : (⟨w.heap.size, 0, none⟩ : Addr).add j = ⟨w.heap.size, j, none⟩ := by unfold Addr.add; split <;> simp_all
      rw [hadd, cell_of_row (w.alloc (.cells news.toArray e)) w.heap.size j news.toArray e (0, 0) (heap_alloc_new w _)]
      simpa using hj) h1
  obtain ⟨v', w', hr, h2, h3, h4, ⟨ad, c', rfl⟩, h6⟩ := run_app (P := P) (w.alloc (.cells news.toArray e)) t t o.type e i z size bytes ht hi hz hsize hby hzs hsz v n xs (hown.alloc _) _ m news hs h63 hbytes
  unfold Oper.wp execOp
  simp only [ho, resolve, invoke, builtin, Sem.run_bind, Sem.run_pure, Result.andThen_ok, List.map_toArray, List.map_cons, List.map_nil, hv, hx, hr]
  refine h ad c' w' h2 ((Frm.alloc (RowS v) w _).trans h3 (fun _ _ h => h)) fun k hk => ?_
  rcases h4 k hk with h | h
  · exact .inl h
  · refine .inr ?_
    simp at h
    omega
def GetQ (w : World) (X : Nat → Prop) (h3 : Nat) (ev kv : Value) (b : Nat) : Prop := w.heap.size ≤ b ∧ ¬ X b ∧ b ≠ h3 ∧ ev.ownBlock ≠ some b ∧ kv.ownBlock ≠ some b
/-- What is made: in blocks behind w, none of them with X; its own cells lie in h3; S: what of w may have turned. -/
structure GetAt (S X : Nat → Prop) (w ww : World) (h3 : Nat) (es : List Ent) (l : List KidQ) (ev kv : Value) : Prop where
  low : ∀ k, S k → k < w.heap.size
  xnew : ∀ k, X k → w.heap.size ≤ k
  xlt : ∀ k, X k → k < ww.heap.size
  frm : Frm S w ww
  b3 : ww.heap[h3]? = some (.cells #[ev, kv] 35 (0, 0))
  new3 : w.heap.size ≤ h3
  nx3 : ¬ X h3
  eown : ww.ownsRow 0 137 4 ev es.length (entC es)
  enew : ∀ b, ev.ownBlock = some b → w.heap.size ≤ b ∧ ¬ X b ∧ b ≠ h3
  kown : ww.ownsRow 0 139 3 kv l.length (l.flatMap KidQ.cells)
  knew : ∀ b, kv.ownBlock = some b → w.heap.size ≤ b ∧ ¬ X b ∧ b ≠ h3 ∧ ev.ownBlock ≠ some b
  kids : ∀ q ∈ l, TreeAt (GetQ w X h3 ev kv) ww q.ev q.kv q.es q.sub
section
variable {S X : Nat → Prop} {w ww w1 w' : World} {h3 : Nat} {es : List Ent} {l : List KidQ} {ev kv ev' kv' : Value}
theorem GetAt.keep (h : GetAt S X w ww h3 es l ev kv) (f : Frm (fun k => S k ∨ X k) ww w') : GetAt S X w w' h3 es l ev kv := by
  have no : ∀ b, w.heap.size ≤ b → ¬ X b → ¬ (S b ∨ X b) := fun b hb hx hs => hs.elim (fun s => by have := h.low b s; omega) hx
  refine ⟨h.low, h.xnew, fun k hk => Nat.lt_of_lt_of_le (h.xlt k hk) f.size, ?_, f.blk h.b3 (no _ h.new3 h.nx3), h.new3, h.nx3, f.owns h.eown fun b hb => no b (h.enew b hb).1 (h.enew b hb).2.1, h.enew, f.owns h.kown fun b hb => no b (h.knew b hb).1 (h.knew b hb).2.1, h.knew, fun q hq => (h.kids q hq).turn fun b hb hQ => ⟨f.block b hb (no b hQ.1 hQ.2.1), hQ⟩⟩
  exact h.frm.trans f fun i hi hs => hs.elim id fun hx => by have := h.xnew i hx; omega
theorem GetAt.keepS (h : GetAt S X w ww h3 es l ev kv) (f : Frm S ww w') : GetAt S X w w' h3 es l ev kv := h.keep (f.mono fun _ _ s => .inl s)
theorem GetAt.keep0 (h : GetAt S X w ww h3 es l ev kv) (f : Frm NoS ww w') : GetAt S X w w' h3 es l ev kv := h.keep (f.mono fun _ _ s => s.elim)
theorem GetAt.l3 (h : GetAt S X w ww h3 es l ev kv) : h3 < ww.heap.size := lt_of_block h.b3
theorem GetAt.start (low : ∀ k, S k → k < w.heap.size) (xnew : ∀ k, X k → w.heap.size ≤ k) (xlt : ∀ k, X k → k < ww.heap.size) (f : Frm S w ww) (b3 : ww.heap[h3]? = some (.cells #[.slice none 0 0, .slice none 0 0] 35 (0, 0))) (new3 : w.heap.size ≤ h3) (nx3 : ¬ X h3) :
    GetAt S X w ww h3 [] [] (.slice none 0 0) (.slice none 0 0) :=
  ⟨low, xnew, xlt, f, b3, new3, nx3, World.ownsRow_nil _ 0 _ 4, (fun b hb => by simp [Value.ownBlock] at hb), World.ownsRow_nil _ 0 _ 3, (fun b hb => by simp [Value.ownBlock] at hb), fun q hq => by cases hq⟩
/-- One entry more: it is laid behind the others, then stored. -/
theorem GetAt.stepE (h : GetAt S X w w1 h3 es [] ev (.slice none 0 0)) {e : Ent} (own : w'.ownsRow 0 137 4 ev' (es.length + 1) (entC es ++ e.cells)) (fm : Frm (RowS ev) w1 w') (fr : Fresh w1 ev ev') :
    GetAt S X w (w'.setCell ⟨h3, 0, none⟩ ev') h3 (es ++ [e]) [] ev' (.slice none 0 0) := by
  have hb3 : ¬ RowS ev h3 := fun hs => (h.enew h3 hs).2.2 rfl
  have hset : Frm (fun b => b = h3) w' (w'.setCell ⟨h3, 0, none⟩ ev') := Frm.setCell (S := fun b => b = h3) w' (p := ⟨h3, 0, none⟩) (.inl rfl) _
  have l3 := h.l3
  have hne : ∀ b, ev'.ownBlock = some b → w.heap.size ≤ b ∧ ¬ X b ∧ b ≠ h3 := fun b hb => by
    rcases fr b hb with h1 | h1
    · exact h.enew b h1
    · have := h.frm.size
      exact ⟨by omega, fun hx => by have := h.xlt b hx; omega, by omega⟩
  refine ⟨h.low, h.xnew, fun k hk => Nat.lt_of_lt_of_le (h.xlt k hk) (Nat.le_trans fm.size hset.size), ?_, set_at' (fm.blk h.b3 hb3) 0 ev', h.new3, h.nx3, ?_, hne, World.ownsRow_nil _ 0 _ 3, (fun b hb => by simp [Value.ownBlock] at hb), fun q hq => by cases hq⟩
  · have f1 : Frm S w w' := h.frm.trans fm fun i hi hs => by have := (h.enew i hs).1; omega
    exact f1.trans hset fun i hi hs => by have hs : i = h3 := hs; have := h.new3; omega
  · rw [List.length_append, entC_append]
    have : entC [e] = e.cells := by simp [entC]
    rw [this]
    exact hset.owns own fun b hb hs => (hne b hb).2.2 hs
/-- One kid more. -/
theorem GetAt.stepK (h : GetAt S X w w1 h3 es l ev kv) {q : KidQ} (hq : TreeAt (GetQ w X h3 ev kv) w1 q.ev q.kv q.es q.sub) (own : w'.ownsRow 0 139 3 kv' (l.length + 1) (l.flatMap KidQ.cells ++ q.cells)) (fm : Frm (RowS kv) w1 w') (fr : Fresh w1 kv kv') :
    GetAt S X w (w'.setCell ⟨h3, 1, none⟩ kv') h3 es (l ++ [q]) ev kv' := by
  have hb3 : ¬ RowS kv h3 := fun hs => (h.knew h3 hs).2.2.1 rfl
  have hset : Frm (fun b => b = h3) w' (w'.setCell ⟨h3, 1, none⟩ kv') := Frm.setCell (S := fun b => b = h3) w' (p := ⟨h3, 1, none⟩) (.inl rfl) _
  have l3 := h.l3
  have hne : ∀ b, kv'.ownBlock = some b → w.heap.size ≤ b ∧ ¬ X b ∧ b ≠ h3 ∧ ev.ownBlock ≠ some b := fun b hb => by
    rcases fr b hb with h1 | h1
    · exact h.knew b h1
    · have := h.frm.size
      exact ⟨by omega, fun hx => by have := h.xlt b hx; omega, by omega, fun he => by have := own_lt h.eown b he; omega⟩
  have turn : ∀ b, b < w1.heap.size → GetQ w X h3 ev kv b → (w'.setCell ⟨h3, 1, none⟩ kv').heap[b]? = w1.heap[b]? ∧ GetQ w X h3 ev kv' b := fun b hb hQ => by
    refine ⟨?_, hQ.1, hQ.2.1, hQ.2.2.1, hQ.2.2.2.1, fun e => ?_⟩
    · rw [hset.block b (Nat.lt_of_lt_of_le hb fm.size) hQ.2.2.1, fm.block b hb hQ.2.2.2.2]
    · rcases fr b e with h1 | h1
      · exact hQ.2.2.2.2 h1
      · omega
  refine ⟨h.low, h.xnew, fun k hk => Nat.lt_of_lt_of_le (h.xlt k hk) (Nat.le_trans fm.size hset.size), ?_, set_at' (fm.blk h.b3 hb3) 1 kv', h.new3, h.nx3, ?_, h.enew, ?_, hne, fun x hx => ?_⟩
  · have f1 : Frm S w w' := h.frm.trans fm fun i hi hs => by have := (h.knew i hs).1; omega
    exact f1.trans hset fun i hi hs => by have hs : i = h3 := hs; have := h.new3; omega
  · have o1 := fm.owns h.eown fun b hb hs => (h.knew b hs).2.2.2 hb
    exact hset.owns o1 fun b hb hs => (h.enew b hb).2.2 hs
  · rw [List.length_append, List.flatMap_append]
    have : [q].flatMap KidQ.cells = q.cells := by simp
    rw [this]
    exact hset.owns own fun b hb hs => (hne b hb).2.2.1 hs
  · rcases List.mem_append.1 hx with hx | hx
    · exact (h.kids x hx).turn turn
    · rw [List.mem_singleton] at hx
      subst hx
      exact hq.turn turn
/-- What was made is a tree. -/
theorem GetAt.done (h : GetAt S X w ww h3 es l ev kv) : TreeAt (fun b => w.heap.size ≤ b ∧ ¬ X b ∧ b ≠ h3) ww ev kv es (mkK l) := by
  refine ⟨⟨Rd.own h.eown, fun _ b hb => h.enew b hb⟩, outK l, ⟨?_, fun _ b hb => ⟨(h.knew b hb).1, (h.knew b hb).2.1, (h.knew b hb).2.2.1⟩⟩, mkK_for fun q hq => (h.kids q hq).turn fun b hb hQ => ⟨rfl, hQ.1, hQ.2.1, hQ.2.2.1⟩⟩
  rw [mkK_cells, mkK_len]
  exact Rd.own h.kown
/-- A tree that was made in memory behind w1. -/
theorem GetAt.kid (h : GetAt S X w w1 h3 es l ev kv) {e2 k2 : Value} {es2 : List Ent} {ks2 : KidsL} (ht : TreeAt (fun b => w1.heap.size ≤ b) ww e2 k2 es2 ks2) (hs : w1.heap.size ≤ ww.heap.size) : TreeAt (GetQ w X h3 ev kv) ww e2 k2 es2 ks2 :=
  ht.turn fun b hb hQ => ⟨rfl, by have := h.frm.size; omega, fun hx => by have := h.xlt b hx; omega, by have := h.l3; omega, fun he => by have := own_lt h.eown b he; omega, fun he => by have := own_lt h.kown b he; omega⟩
end
end Go.Proofs.YtggfoihfenlckaaGreat
/- pack: get: the walk. -/
namespace Go.Proofs.YtggfoihfenlckaaGreat
open Go.RowKit
/- ### no more is left than was -/
theorem NumStep.left {st s : Option (List UInt8)} {m v : Int} (h : NumStep st m v s) : (leftOf s).length ≤ (leftOf st).length := by
  cases s with
  | none => exact Nat.zero_le _
  | some r =>
    obtain ⟨rfl, _⟩ := num_good h
    show r.length ≤ (numB v ++ r).length
    rw [List.length_append]; omega
theorem TextStep.left {st s : Option (List UInt8)} {m : Int} {v : ByteArray} (h : TextStep st m v s) : (leftOf s).length ≤ (leftOf st).length := by
  cases s with
  | none => exact Nat.zero_le _
  | some r =>
    obtain ⟨rfl, _⟩ := text_good h
    show r.length ≤ (textB v ++ r).length
    rw [List.length_append]; omega
theorem CntStep.less {st s : Option (List UInt8)} {m : Int} {n : Nat} (h : CntStep st m n s) : (leftOf s).length ≤ (leftOf st).length := by
  cases s with
  | none => exact Nat.zero_le _
  | some r =>
    obtain ⟨rfl, _⟩ := h.good
    show r.length ≤ (numB n ++ r).length
    rw [List.length_append]; omega
theorem GetRes.left {B : Lim} {d : Nat} {st s : Option (List UInt8)} {es : List Ent} {ks : KidsL} (h : GetRes B d st es ks s) : (leftOf s).length ≤ (leftOf st).length := by
  rcases h with ⟨bs, r, rfl, rfl, h⟩ | ⟨rfl, _⟩
  · show r.length ≤ bs.length
    rw [h.eq, List.length_append]; omega
  · exact Nat.zero_le _
theorem EntStep.total (B : Lim) (st : Option (List UInt8)) : ∃ (e : Ent) (s1 s2 s3 s4 : Option (List UInt8)), NumStep st B.dc e.dc s1 ∧ NumStep s1 B.n e.n s2 ∧ TextStep s2 B.s e.s s3 ∧ NumStep s3 B.k e.k s4 := by
  obtain ⟨a, s1, h1⟩ := NumStep.total st B.dc
  obtain ⟨b, s2, h2⟩ := NumStep.total s1 B.n
  obtain ⟨c, s3, h3⟩ := TextStep.total s2 B.s
  obtain ⟨d, s4, h4⟩ := NumStep.total s3 B.k
  exact ⟨⟨a, b, c, d⟩, s1, s2, s3, s4, h1, h2, h3, h4⟩
def GetPost (B : Lim) (D : Nat) (st : Option (List UInt8)) (ib : Nat) (w : World) (e : Ending) (w' : World) : Prop :=
  ∃ ev kv es ks s, e = .returned (.agg #[ev, kv]) ∧ TreeAt (fun b => w.heap.size ≤ b) w' ev kv es ks ∧ GetRes B D st es ks s ∧ InSt w' ib s ∧ Frm (Only ib) w w'
set_option maxHeartbeats 2000000 in
set_option maxRecDepth 1000000 in
theorem pget_zero (ib : Nat) (st : Option (List UInt8)) (w : World) (h : InSt w ib st) : Calls Tryz.prog 80 #[.pointer (some ⟨ib, 0, none⟩), .int .i64 0] w (GetPost bdP 0 st ib w) := by
  have hlt := h.lt
  have HF := Lib.hid (fun w1 (f : Frm NoS w w1) => (h.keep f fun _ _ => id).heap)
  clear h
  obtain ⟨WB, hWB⟩ : ∃ WB, WB = (w.alloc (.cells #[.slice none 0 0, .slice none 0 0] 35)).alloc (.cells #[.slice none 0 0, .slice none 0 0] 35) := ⟨_, rfl⟩
  obtain ⟨hb3, hfb, hbs⟩ := two_blocks w (.cells #[.slice none 0 0, .slice none 0 0] 35) #[.slice none 0 0, .slice none 0 0] 35
  have hb2 : WB.heap[w.heap.size]? = some (.cells #[.slice none 0 0, .slice none 0 0] 35 (0, 0)) := by rw [hWB, Below.heap_alloc _ _ _ (by simp)]; exact heap_alloc_new w _
  rw [← hWB] at hb3 hfb hbs
  have HB2 := Lib.hid hb2; clear hb2
  have HB3 := Lib.hid hb3; clear hb3
  have HFB := Lib.hid hfb; clear hfb
  have HBS := Lib.hid hbs; clear hbs
  have HWB := Lib.hid hWB; clear hWB
  have hno : ¬ Only ib w.heap.size := fun h => by have h : w.heap.size = ib := h; omega
  have hno1 : ¬ Only ib (w.heap.size + 1) := fun h => by have h : w.heap.size + 1 = ib := h; omega
  have HNO := Lib.hid hno; clear hno
  have HNO1 := Lib.hid hno1; clear hno1
  go_enter Tryz.func80, Tryz.ntmps80
  go_wp2_with (first
    | (go_at_call 79; rw [← HWB.out]; obtain ⟨a, c, hh⟩ := HF.out WB HFB.out; refine (fail_go ib _ _ WB hh).mono ?_; rintro e w1 ⟨rfl, hi2, hf2⟩; have HI1 := Lib.hid (show InSt w1 ib none from hi2); clear hi2 hh; have HF1 := Lib.hid hf2; clear hf2)
    | (go_at_call 76; refine (pcount_any ib none w1 HI1.out).mono ?_; rintro e w2 ⟨n, s1, rfl, hc1, hi2, hf2⟩; obtain ⟨rfl, rfl⟩ := hc1.none_; clear hc1; have HI2 := Lib.hid hi2; clear hi2; have HF2 := Lib.hid hf2; clear hf2))
  go_loopw [13] (fun i ww => i = .int .i64 0 ∧ ww = w2) (fun _ _ => 0)
  case atStart => exact ⟨rfl, rfl⟩
  case round =>
    obtain ⟨rfl, rfl⟩ := hrel
    go_wp2_with (go_at_call 76; refine (pcount_any ib none wr HI2.out).mono ?_; rintro e w3 ⟨n, s1, rfl, hc1, hi2, hf2⟩; obtain ⟨rfl, rfl⟩ := hc1.none_; clear hc1; have HI3 := Lib.hid hi2; clear hi2; have HF3 := Lib.hid hf2; clear hf2)
    go_loopw [34] (fun i ww => i = .int .i64 0 ∧ ww = w3) (fun _ _ => 0)
    case atStart => exact ⟨rfl, rfl⟩
    case round =>
      obtain ⟨rfl, rfl⟩ := hrel
      have k2 := HF3.out.blk (HF2.out.blk (HF1.out.blk HB2.out HNO.out) HNO.out) HNO.out
      have k3 := HF3.out.blk (HF2.out.blk (HF1.out.blk HB3.out HNO1.out) HNO1.out) HNO1.out
      have y0 := cell_at' k2 0 rfl
      have y1 := cell_at' k2 1 rfl
      have f0 := free_at' k2 0
      have f1 := free_at' k2 1
      have z0 := cell_at' k3 0 rfl
      have z1 := cell_at' k3 1 rfl
      have hl2 := lt_of_block k2
      have K2 := Lib.hid k2; clear k2 k3
      go_wp2
      clear y0 y1
      have y0 := cell_at' (set_at' (set_at' K2.out 0 (.slice none 0 0)) 1 (.slice none 0 0)) 0 rfl
      have y1 := cell_at' (set_at' (set_at' K2.out 0 (.slice none 0 0)) 1 (.slice none 0 0)) 1 rfl
      refine bodyPost_ret (v := .agg #[.slice none 0 0, .slice none 0 0]) (by simp [results, Tryz.results80, go_sem, y0, y1]) rfl ⟨_, _, [], .nil, none, rfl, ?_, get_zero _ _ _ _, HI3.out.keep (two_set _ _ _ _) ?_, ?_⟩
      · exact ⟨⟨.inl ⟨none, rfl, rfl, rfl⟩, fun h => absurd rfl h⟩, [], ⟨.inl ⟨none, rfl, rfl, rfl⟩, fun h => absurd rfl h⟩, rfl⟩
      · intro j hj hs
        have hs : j = w.heap.size := hs
        omega
      · have f1 := (((HFB.out.mono (T := Only ib) fun _ _ h => h.elim).trans HF1.out fun _ _ h => h).trans HF2.out fun _ _ h => h).trans HF3.out fun _ _ h => h
        exact f1.trans (two_set _ _ _ _) fun i hi hs => by have hs : i = w.heap.size := hs; omega
end Go.Proofs.YtggfoihfenlckaaGreat