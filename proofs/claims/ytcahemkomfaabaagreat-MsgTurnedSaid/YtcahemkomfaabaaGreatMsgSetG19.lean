/- Words for the law MsgSet: MsgFit, MsgBld, MsgTo. -/
import Derived.Test.YtcahemkomfaabaaGreatMsgSetG8
import Derived.Test.YtcahemkomfaabaaGreatMsgSetG9
import Derived.Test.YtcahemkomfaabaaGreatMsgSetG14
import Derived.Test.YtcahemkomfaabaaGreatMsgSetG16
import Derived.Test.YtcahemkomfaabaaGreatMsgSetG18
set_option linter.unusedSimpArgs false
set_option linter.unusedVariables false
set_option maxHeartbeats 32000000
set_option maxRecDepth 1000000
namespace Go.Proofs.YtcahemkomfaabaaGreat
open Go.RowKit
def DecFit (x : List UInt8) : Prop := x.length ≤ 6000 ∨ ∃ m : MsgD, x = m.enc ∧ m.right ∧ MsgOkS m ∧ x.length ≤ 60000
theorem DecFit.len {x : List UInt8} (h : DecFit x) : x.length ≤ 60000 := by
 rcases h with h | ⟨_, _, _, _, h⟩
 · omega
 · exact h
theorem BunRes.left {st s : Option (List UInt8)} {b : BunD} (h : BunRes st b s) : (leftOf s).length ≤ (leftOf st).length := by
 rcases h with ⟨r, h1, _, h3⟩ | ⟨h1, _, _⟩
 · subst h1 h3
   show r.length ≤ (b.enc ++ r).length
   rw [List.length_append]; omega
 · subst h1; exact Nat.zero_le _
theorem bunRun_left {st t : Option (List UInt8)} {k : Nat} {l : List BunD} (h : Run BunRes st k l t) : (leftOf t).length ≤ (leftOf st).length := by
 induction h with
 | zero => exact Nat.le_refl _
 | snoc _ h2 ih => exact Nat.le_trans (BunRes.left h2) ih
def HeadRd (mk m2 : Int) (x : List UInt8) (kind fr tt v0 v1 v2 v3 : Int) (s4 : Option (List UInt8)) : Prop :=
 ∃ s1 s2 s3, NumStep (some x) mk kind s1 ∧ NumStep s1 m2 fr s2 ∧ NumStep s2 m2 tt s3 ∧ VecRes s3 v0 v1 v2 v3 s4
theorem HeadRd.left {mk m2 : Int} {x : List UInt8} {kind fr tt v0 v1 v2 v3 : Int} {s4 : Option (List UInt8)} (h : HeadRd mk m2 x kind fr tt v0 v1 v2 v3 s4) : (leftOf s4).length ≤ x.length := by
 obtain ⟨s1, s2, s3, g1, g2, g3, g4⟩ := h
 have h1 := NumStep.left g1
 have h2 := NumStep.left g2
 have h3 := NumStep.left g3
 have h4 := g4.left
 have h0 : (leftOf (some x)).length = x.length := rfl
 omega
theorem fit_state {mk m2 : Int} (hmk : 4 ≤ mk) (hmk' : mk ≤ 9223372036854775807) (hm2 : 4 ≤ m2) (hm2' : m2 ≤ 9223372036854775807) {x : List UInt8} (hf : DecFit x) {kind fr tt v0 v1 v2 v3 n : Int} {s4 s5 s : Option (List UInt8)} {k : Nat} {l : List BunD} (hd : HeadRd mk m2 x kind fr tt v0 v1 v2 v3 s4) (g5 : NumStep s4 16 n s5) (g6 : Run BunRes s5 k l s) :
 (leftOf s).length ≤ 60000 ∧ (k < n.toNat → BunFit s) ∧ (k = n.toNat → kind = 2 → CauFit s) := by
 have hx := hf.len
 have h1 := hd.left
 have h2 := NumStep.left g5
 have h3 := bunRun_left g6
 refine ⟨by omega, fun hk => ?_, fun hk hkd => ?_⟩
 · rcases hf with hf | ⟨m, rfl, hr, hok, -⟩
   · exact .small (by omega)
   · obtain ⟨s1, s2, s3, g1, g2, g3, g4⟩ := hd
     have hkd := hr.kind
     have hln := hr.len
     obtain ⟨q1, q2, q3, -, -⟩ := id hr
     unfold MsgD.enc at g1
     obtain ⟨e1, rfl⟩ := g1.det (num_make _ ⟨by omega, by omega⟩ hmk')
     obtain ⟨e2, rfl⟩ := g2.det (num_make _ ⟨by omega, by omega⟩ hm2')
     obtain ⟨e3, rfl⟩ := g3.det (num_make _ ⟨by omega, by omega⟩ hm2')
     obtain ⟨-, rfl⟩ := g4.det (VecRes.make _ q1)
     obtain ⟨e8, rfl⟩ := g5.det (num_make _ ⟨by omega, by omega⟩ (by decide))
     have hkl : k < m.bs.length := by omega
     obtain ⟨-, rfl⟩ := Run.det (R := BunRes) (fun h k => h.det k) g6 (run_take m.tail hr.each k (by omega))
     have hdr : m.bs.drop k = m.bs[k] :: m.bs.drop (k + 1) := List.drop_eq_getElem_cons hkl
     rw [hdr, List.flatMap_cons, List.append_assoc]
     exact BunFit.known (hr.each _ (List.getElem_mem hkl)) (hok.each _ (List.getElem_mem hkl))
 · rcases hf with hf | ⟨m, rfl, hr, hok, -⟩
   · exact .small (by omega)
   · obtain ⟨s1, s2, s3, g1, g2, g3, g4⟩ := hd
     have hkd' := hr.kind
     have hln := hr.len
     obtain ⟨q1, q2, q3, -, -⟩ := id hr
     unfold MsgD.enc at g1
     obtain ⟨e1, rfl⟩ := g1.det (num_make _ ⟨by omega, by omega⟩ hmk')
     obtain ⟨e2, rfl⟩ := g2.det (num_make _ ⟨by omega, by omega⟩ hm2')
     obtain ⟨e3, rfl⟩ := g3.det (num_make _ ⟨by omega, by omega⟩ hm2')
     obtain ⟨-, rfl⟩ := g4.det (VecRes.make _ q1)
     obtain ⟨e8, rfl⟩ := g5.det (num_make _ ⟨by omega, by omega⟩ (by decide))
     have hkl : k = m.bs.length := by omega
     subst hkl
     obtain ⟨-, rfl⟩ := Run.det (R := BunRes) (fun h k => h.det k) g6 (run_take m.tail hr.each _ (Nat.le_refl _))
     have hk2 : m.kind = 2 := e1 ▸ hkd
     have ht : m.tail = encX m.es m.ks m.c ++ [] := by unfold MsgD.tail; rw [if_pos hk2, List.append_nil]
     rw [List.drop_length, List.flatMap_nil, List.nil_append, ht]
     exact CauFit.known (hr.cau hk2) hok.st
theorem zero_okS : MsgOkS MsgD.zero := ⟨fun b hb => (by cases hb), Nat.zero_le _, ⟨⟨⟨Nat.zero_le _, fun e he => by cases he⟩, Nat.zero_le _, trivial⟩, Nat.zero_le _, fun s hs => (by cases hs), Nat.zero_le _⟩⟩
theorem head_total (mk m2 : Int) (x : List UInt8) : ∃ kind fr tt v0 v1 v2 v3 s1 s2 s3 s4 n s5, NumStep (some x) mk kind s1 ∧ NumStep s1 m2 fr s2 ∧ NumStep s2 m2 tt s3 ∧ VecRes s3 v0 v1 v2 v3 s4 ∧ NumStep s4 16 n s5 := by
 obtain ⟨kind, s1, h1⟩ := NumStep.total (some x) mk
 obtain ⟨fr, s2, h2⟩ := NumStep.total s1 m2
 obtain ⟨tt, s3, h3⟩ := NumStep.total s2 m2
 obtain ⟨v0, v1, v2, v3, s4, h4⟩ := VecRes.total s3
 obtain ⟨n, s5, h5⟩ := NumStep.total s4 16
 exact ⟨kind, fr, tt, v0, v1, v2, v3, s1, s2, s3, s4, n, s5, h1, h2, h3, h4, h5⟩
theorem num_in16 {st s : Option (List UInt8)} {v : Int} (h : NumStep st 16 v s) : -16 ≤ v ∧ v ≤ 16 := by
 unfold NumStep at h
 cases st with
 | none => obtain ⟨rfl, -⟩ := h; omega
 | some bs =>
  rcases h with ⟨r, -, -, h1, h2, -⟩ | ⟨-, rfl, -⟩
  · omega
  · omega
theorem decTop_good {l : List UInt8} {m : MsgD} (h0 : Crc.oneE l = 0) (h : DecRes (Crc.oneB l) (some m)) : DecTop l 0 m := .inr ⟨h0, .inl ⟨rfl, h⟩⟩
theorem decTop_bad {l : List UInt8} (h0 : Crc.oneE l = 0) (h : DecRes (Crc.oneB l) none) : DecTop l 2 MsgD.zero := .inr ⟨h0, .inr ⟨rfl, rfl, h⟩⟩
theorem decTop_one {l : List UInt8} (h0 : Crc.oneE l ≠ 0) : DecTop l (Crc.oneE l) MsgD.zero := .inl ⟨h0, rfl, rfl⟩
theorem bunC_append (a b : List BunP) : bunC (a ++ b) = bunC a ++ bunC b := by simp [bunC]
theorem bunC_one (p : BunP) : bunC [p] = p.cells := by simp [bunC]
theorem bunC_snoc (a : List BunP) (p : BunP) : bunC (a ++ [p]) = bunC a ++ p.cells := by rw [bunC_append, bunC_one]
theorem bunC_length : ∀ ps : List BunP, (bunC ps).length = ps.length * 10
 | [] => rfl
 | p :: ps => by
  have e : bunC (p :: ps) = p.cells ++ bunC ps := rfl
  have hl : p.cells.length = 10 := rfl
  rw [e, List.length_append, bunC_length ps, hl, List.length_cons]
  omega
def MgQ (w : World) (X : Nat → Prop) (lv : Value) (b : Nat) : Prop := w.heap.size ≤ b ∧ ¬ X b ∧ lv.ownBlock ≠ some b
structure Bld (T : TypeId) (S X : Nat → Prop) (w ww : World) (ps : List BunP) (lv : Value) : Prop where
 low : ∀ k, S k → k < w.heap.size
 xnew : ∀ k, X k → w.heap.size ≤ k
 xlt : ∀ k, X k → k < ww.heap.size
 frm : Frm S w ww
 own : ww.ownsRow 0 T 10 lv ps.length (bunC ps)
 new : ∀ b, lv.ownBlock = some b → w.heap.size ≤ b ∧ ¬ X b
section
variable {T : TypeId} {S X : Nat → Prop} {w ww w1 w' : World} {ps : List BunP} {lv lv' : Value}
theorem Bld.start (low : ∀ k, S k → k < w.heap.size) (xnew : ∀ k, X k → w.heap.size ≤ k) (xlt : ∀ k, X k → k < ww.heap.size) (f : Frm S w ww) : Bld T S X w ww [] (.slice none 0 0) :=
 ⟨low, xnew, xlt, f, World.ownsRow_nil ww 0 T 10, fun b hb => by cases hb⟩
theorem Bld.keep (h : Bld T S X w ww ps lv) (f : Frm (fun k => S k ∨ X k) ww w') : Bld T S X w w' ps lv :=
 ⟨h.low, h.xnew, fun k hk => Nat.lt_of_lt_of_le (h.xlt k hk) f.size, h.frm.trans f fun i hi hs => hs.elim id fun hx => absurd hi (by have := h.xnew i hx; omega),
  f.owns h.own fun k hk hs => by
   have h1 := h.new k hk
   rcases hs with hs | hs
   · have := h.low k hs; omega
   · exact h1.2 hs, h.new⟩
theorem Bld.keepS (h : Bld T S X w ww ps lv) (f : Frm S ww w') : Bld T S X w w' ps lv := h.keep (f.mono fun _ _ s => .inl s)
theorem Bld.keepX (h : Bld T S X w ww ps lv) (f : Frm X ww w') : Bld T S X w w' ps lv := h.keep (f.mono fun _ _ s => .inr s)
theorem Bld.keep0 (h : Bld T S X w ww ps lv) (f : Frm NoS ww w') : Bld T S X w w' ps lv := h.keep (f.mono fun _ _ s => s.elim)
theorem Bld.step (h : Bld T S X w w1 ps lv) {p : BunP} (own : w'.ownsRow 0 T 10 lv' (ps.length + 1) (bunC ps ++ p.cells)) (fm : Frm (RowS lv) w1 w') (fr : Fresh w1 lv lv') : Bld T S X w w' (ps ++ [p]) lv' :=
 ⟨h.low, h.xnew, fun k hk => Nat.lt_of_lt_of_le (h.xlt k hk) fm.size, h.frm.trans fm fun i hi hr => absurd hi (by have := (h.new i hr).1; omega),
  by rw [List.length_append, bunC_snoc]; exact own, fun b hb => by
   rcases fr b hb with h1 | h1
   · exact h.new b h1
   · exact ⟨by have := h.frm.size; omega, fun hx => by have := h.xlt b hx; omega⟩⟩
theorem Bld.buns {Q : Nat → Prop} (h : Bld T S X w ww ps lv) (hc : ∀ p ∈ ps, CauAt Q ww p.ev p.kv p.cv p.b.es p.b.ks p.b.c) : BunsP Q ww lv ps := ⟨Rd.own h.own, hc⟩
def EachQ (Q : Nat → Prop) (w : World) (ps : List BunP) : Prop := ∀ p ∈ ps, TreeAt Q w p.ev p.kv p.b.es p.b.ks ∧ CtxQ Q w p.cv p.b.c
theorem EachQ.turn {Q Q' : Nat → Prop} (h : EachQ Q w ps) (f : ∀ b, b < w.heap.size → Q b → w'.heap[b]? = w.heap[b]? ∧ Q' b) : EachQ Q' w' ps := fun p hp => ⟨(h p hp).1.turn f, RdQ.turn (h p hp).2 f⟩
theorem EachQ.nil (Q : Nat → Prop) (w : World) : EachQ Q w [] := fun p hp => by cases hp
theorem EachQ.keep (h : EachQ (MgQ w X lv) ww ps) (hB : Bld T S X w ww ps lv) (f : Frm (fun k => S k ∨ X k) ww w') : EachQ (MgQ w X lv) w' ps :=
 h.turn fun b hb hq => ⟨f.block b hb fun hs => by
  rcases hs with hs | hs
  · have := hB.low b hs; have := hq.1; omega
  · exact hq.2.1 hs, hq⟩
theorem EachQ.keepS (h : EachQ (MgQ w X lv) ww ps) (hB : Bld T S X w ww ps lv) (f : Frm S ww w') : EachQ (MgQ w X lv) w' ps := h.keep hB (f.mono fun _ _ s => .inl s)
theorem EachQ.keepX (h : EachQ (MgQ w X lv) ww ps) (hB : Bld T S X w ww ps lv) (f : Frm X ww w') : EachQ (MgQ w X lv) w' ps := h.keep hB (f.mono fun _ _ s => .inr s)
theorem EachQ.step (h : EachQ (MgQ w X lv) w1 ps) (hB : Bld T S X w w1 ps lv) {p : BunP} (hp : TreeAt (MgQ w X lv) w1 p.ev p.kv p.b.es p.b.ks ∧ CtxQ (MgQ w X lv) w1 p.cv p.b.c) (fm : Frm (RowS lv) w1 w') (fr : Fresh w1 lv lv') : EachQ (MgQ w X lv') w' (ps ++ [p]) := by
 have h1 : EachQ (MgQ w X lv) w1 (ps ++ [p]) := fun q hq => by
  rcases List.mem_append.1 hq with hq | hq
  · exact h q hq
  · rw [List.mem_singleton.1 hq]; exact hp
 exact h1.turn fun b hb hq => ⟨fm.block b hb hq.2.2, hq.1, hq.2.1, fun he => by
  rcases fr b he with h2 | h2
  · exact hq.2.2 h2
  · omega⟩
theorem Bld.fresh (h : Bld T S X w w1 ps lv) (b : Nat) (hb : w1.heap.size ≤ b) : MgQ w X lv b :=
 ⟨by have := h.frm.size; omega, fun hx => by have := h.xlt b hx; omega, fun he => by have := (h.own.lt b he).2; omega⟩
theorem Bld.newP (h : Bld T S X w w1 ps lv) {p : BunP} (ht : TreeAt (fun b => w1.heap.size ≤ b) ww p.ev p.kv p.b.es p.b.ks) (hc : CtxQ (fun b => w1.heap.size ≤ b) ww p.cv p.b.c) : TreeAt (MgQ w X lv) ww p.ev p.kv p.b.es p.b.ks ∧ CtxQ (MgQ w X lv) ww p.cv p.b.c :=
 ⟨ht.turn fun b _ hq => ⟨rfl, h.fresh b hq⟩, RdQ.turn hc fun b _ hq => ⟨rfl, h.fresh b hq⟩⟩
theorem EachQ.cau {Q : Nat → Prop} (h : EachQ Q w ps) : ∀ p ∈ ps, CauAt Q w p.ev p.kv p.cv p.b.es p.b.ks p.b.c := fun p hp => ⟨(h p hp).1, CtxQ.at_ (h p hp).2⟩
theorem BunP.one (p : BunP) (h1 : p.ev.oneCell' = true) (h2 : p.kv.oneCell' = true) (h3 : p.cv.oneCell' = true) : ∀ u ∈ p.cells, u.oneCell' = true := by
 intro u hu
 simp only [BunP.cells, List.mem_cons, List.not_mem_nil, or_false] at hu
 rcases hu with rfl | rfl | rfl | rfl | rfl | rfl | rfl | rfl | rfl | rfl
 · rfl
 · rfl
 · rfl
 · rfl
 · rfl
 · rfl
 · rfl
 · exact h1
 · exact h2
 · exact h3
end
theorem eleven_set (w : World) (b : Nat) (x0 x1 x2 x3 x4 x5 x6 x7 x8 x9 x10 : Value) : Frm (Only b) w ((((((((((((w).setCell ⟨b, 0, none⟩ x0).setCell ⟨b, 1, none⟩ x1).setCell ⟨b, 2, none⟩ x2).setCell ⟨b, 3, none⟩ x3).setCell ⟨b, 4, none⟩ x4).setCell ⟨b, 5, none⟩ x5).setCell ⟨b, 6, none⟩ x6).setCell ⟨b, 7, none⟩ x7).setCell ⟨b, 8, none⟩ x8).setCell ⟨b, 9, none⟩ x9).setCell ⟨b, 10, none⟩ x10) :=
 ((((((((((((((((((((only_set w b 0 x0).trans (only_set _ b 1 x1) fun _ _ h => h)).trans (only_set _ b 2 x2) fun _ _ h => h)).trans (only_set _ b 3 x3) fun _ _ h => h)).trans (only_set _ b 4 x4) fun _ _ h => h)).trans (only_set _ b 5 x5) fun _ _ h => h)).trans (only_set _ b 6 x6) fun _ _ h => h)).trans (only_set _ b 7 x7) fun _ _ h => h)).trans (only_set _ b 8 x8) fun _ _ h => h)).trans (only_set _ b 9 x9) fun _ _ h => h)).trans (only_set _ b 10 x10) fun _ _ h => h)
theorem eleven_cells {w : World} {b : Nat} {a0 a1 a2 a3 a4 a5 a6 a7 a8 a9 a10 : Value} {T : TypeId} (h : w.heap[b]? = some (.cells #[a0, a1, a2, a3, a4, a5, a6, a7, a8, a9, a10] T (0, 0))) (x0 x1 x2 x3 x4 x5 x6 x7 x8 x9 x10 : Value) (W : World) (hW : W = ((((((((((((w).setCell ⟨b, 0, none⟩ x0).setCell ⟨b, 1, none⟩ x1).setCell ⟨b, 2, none⟩ x2).setCell ⟨b, 3, none⟩ x3).setCell ⟨b, 4, none⟩ x4).setCell ⟨b, 5, none⟩ x5).setCell ⟨b, 6, none⟩ x6).setCell ⟨b, 7, none⟩ x7).setCell ⟨b, 8, none⟩ x8).setCell ⟨b, 9, none⟩ x9).setCell ⟨b, 10, none⟩ x10)) :
 W.heap[b]? = some (.cells #[x0, x1, x2, x3, x4, x5, x6, x7, x8, x9, x10] T (0, 0)) := by
 subst hW
 have e0 : ((w).setCell ⟨b, 0, none⟩ x0).heap[b]? = some (.cells #[x0, a1, a2, a3, a4, a5, a6, a7, a8, a9, a10] T (0, 0)) := set_at' h 0 x0
 have e1 : (((w).setCell ⟨b, 0, none⟩ x0).setCell ⟨b, 1, none⟩ x1).heap[b]? = some (.cells #[x0, x1, a2, a3, a4, a5, a6, a7, a8, a9, a10] T (0, 0)) := set_at' e0 1 x1
 have e2 : ((((w).setCell ⟨b, 0, none⟩ x0).setCell ⟨b, 1, none⟩ x1).setCell ⟨b, 2, none⟩ x2).heap[b]? = some (.cells #[x0, x1, x2, a3, a4, a5, a6, a7, a8, a9, a10] T (0, 0)) := set_at' e1 2 x2
 have e3 : (((((w).setCell ⟨b, 0, none⟩ x0).setCell ⟨b, 1, none⟩ x1).setCell ⟨b, 2, none⟩ x2).setCell ⟨b, 3, none⟩ x3).heap[b]? = some (.cells #[x0, x1, x2, x3, a4, a5, a6, a7, a8, a9, a10] T (0, 0)) := set_at' e2 3 x3
 have e4 : ((((((w).setCell ⟨b, 0, none⟩ x0).setCell ⟨b, 1, none⟩ x1).setCell ⟨b, 2, none⟩ x2).setCell ⟨b, 3, none⟩ x3).setCell ⟨b, 4, none⟩ x4).heap[b]? = some (.cells #[x0, x1, x2, x3, x4, a5, a6, a7, a8, a9, a10] T (0, 0)) := set_at' e3 4 x4
 have e5 : (((((((w).setCell ⟨b, 0, none⟩ x0).setCell ⟨b, 1, none⟩ x1).setCell ⟨b, 2, none⟩ x2).setCell ⟨b, 3, none⟩ x3).setCell ⟨b, 4, none⟩ x4).setCell ⟨b, 5, none⟩ x5).heap[b]? = some (.cells #[x0, x1, x2, x3, x4, x5, a6, a7, a8, a9, a10] T (0, 0)) := set_at' e4 5 x5
 have e6 : ((((((((w).setCell ⟨b, 0, none⟩ x0).setCell ⟨b, 1, none⟩ x1).setCell ⟨b, 2, none⟩ x2).setCell ⟨b, 3, none⟩ x3).setCell ⟨b, 4, none⟩ x4).setCell ⟨b, 5, none⟩ x5).setCell ⟨b, 6, none⟩ x6).heap[b]? = some (.cells #[x0, x1, x2, x3, x4, x5, x6, a7, a8, a9, a10] T (0, 0)) := set_at' e5 6 x6
 have e7 : (((((((((w).setCell ⟨b, 0, none⟩ x0).setCell ⟨b, 1, none⟩ x1).setCell ⟨b, 2, none⟩ x2).setCell ⟨b, 3, none⟩ x3).setCell ⟨b, 4, none⟩ x4).setCell ⟨b, 5, none⟩ x5).setCell ⟨b, 6, none⟩ x6).setCell ⟨b, 7, none⟩ x7).heap[b]? = some (.cells #[x0, x1, x2, x3, x4, x5, x6, x7, a8, a9, a10] T (0, 0)) := set_at' e6 7 x7
 have e8 : ((((((((((w).setCell ⟨b, 0, none⟩ x0).setCell ⟨b, 1, none⟩ x1).setCell ⟨b, 2, none⟩ x2).setCell ⟨b, 3, none⟩ x3).setCell ⟨b, 4, none⟩ x4).setCell ⟨b, 5, none⟩ x5).setCell ⟨b, 6, none⟩ x6).setCell ⟨b, 7, none⟩ x7).setCell ⟨b, 8, none⟩ x8).heap[b]? = some (.cells #[x0, x1, x2, x3, x4, x5, x6, x7, x8, a9, a10] T (0, 0)) := set_at' e7 8 x8
 have e9 : (((((((((((w).setCell ⟨b, 0, none⟩ x0).setCell ⟨b, 1, none⟩ x1).setCell ⟨b, 2, none⟩ x2).setCell ⟨b, 3, none⟩ x3).setCell ⟨b, 4, none⟩ x4).setCell ⟨b, 5, none⟩ x5).setCell ⟨b, 6, none⟩ x6).setCell ⟨b, 7, none⟩ x7).setCell ⟨b, 8, none⟩ x8).setCell ⟨b, 9, none⟩ x9).heap[b]? = some (.cells #[x0, x1, x2, x3, x4, x5, x6, x7, x8, x9, a10] T (0, 0)) := set_at' e8 9 x9
 have e10 : ((((((((((((w).setCell ⟨b, 0, none⟩ x0).setCell ⟨b, 1, none⟩ x1).setCell ⟨b, 2, none⟩ x2).setCell ⟨b, 3, none⟩ x3).setCell ⟨b, 4, none⟩ x4).setCell ⟨b, 5, none⟩ x5).setCell ⟨b, 6, none⟩ x6).setCell ⟨b, 7, none⟩ x7).setCell ⟨b, 8, none⟩ x8).setCell ⟨b, 9, none⟩ x9).setCell ⟨b, 10, none⟩ x10).heap[b]? = some (.cells #[x0, x1, x2, x3, x4, x5, x6, x7, x8, x9, x10] T (0, 0)) := set_at' e9 10 x10
 exact e10
theorem eleven_at {w : World} {b : Nat} {a0 a1 a2 a3 a4 a5 a6 a7 a8 a9 a10 : Value} {T : TypeId} {f : Nat × Nat} (h : w.heap[b]? = some (.cells #[a0, a1, a2, a3, a4, a5, a6, a7, a8, a9, a10] T f)) : w.cell? ⟨b, 0, none⟩ = some a0 ∧ w.cell? ⟨b, 1, none⟩ = some a1 ∧ w.cell? ⟨b, 2, none⟩ = some a2 ∧ w.cell? ⟨b, 3, none⟩ = some a3 ∧ w.cell? ⟨b, 4, none⟩ = some a4 ∧ w.cell? ⟨b, 5, none⟩ = some a5 ∧ w.cell? ⟨b, 6, none⟩ = some a6 ∧ w.cell? ⟨b, 7, none⟩ = some a7 ∧ w.cell? ⟨b, 8, none⟩ = some a8 ∧ w.cell? ⟨b, 9, none⟩ = some a9 ∧ w.cell? ⟨b, 10, none⟩ = some a10 :=
 ⟨cell_at' h 0 rfl, cell_at' h 1 rfl, cell_at' h 2 rfl, cell_at' h 3 rfl, cell_at' h 4 rfl, cell_at' h 5 rfl, cell_at' h 6 rfl, cell_at' h 7 rfl, cell_at' h 8 rfl, cell_at' h 9 rfl, cell_at' h 10 rfl⟩
theorem eleven_fr {w : World} {b : Nat} {cs : Array Value} {T : TypeId} (h : w.heap[b]? = some (.cells cs T (0, 0))) : w.frozen? ⟨b, 0, none⟩ = false ∧ w.frozen? ⟨b, 1, none⟩ = false ∧ w.frozen? ⟨b, 2, none⟩ = false ∧ w.frozen? ⟨b, 3, none⟩ = false ∧ w.frozen? ⟨b, 4, none⟩ = false ∧ w.frozen? ⟨b, 5, none⟩ = false ∧ w.frozen? ⟨b, 6, none⟩ = false ∧ w.frozen? ⟨b, 7, none⟩ = false ∧ w.frozen? ⟨b, 8, none⟩ = false ∧ w.frozen? ⟨b, 9, none⟩ = false ∧ w.frozen? ⟨b, 10, none⟩ = false :=
 ⟨free_at' h 0, free_at' h 1, free_at' h 2, free_at' h 3, free_at' h 4, free_at' h 5, free_at' h 6, free_at' h 7, free_at' h 8, free_at' h 9, free_at' h 10⟩
theorem info_bunA : (Tryz.prog.info? 64).map (fun i => (i.zero, i.size, i.bytes)) = some (some (.agg #[.int .i64 0, .int .i64 0, .int .i64 0, .int .i64 0, .int .i64 0, .int .i64 0, .int .i64 0, .slice none 0 0, .slice none 0 0, .slice none 0 0]), 10, 128) := by kernel_rfl
theorem info_bunB : (Tryz.prog.info? 60).map (fun i => (i.zero, i.size, i.bytes)) = some (some (.agg #[.int .i64 0, .int .i64 0, .int .i64 0, .int .i64 0, .int .i64 0, .int .i64 0, .int .i64 0, .slice none 0 0, .slice none 0 0, .slice none 0 0]), 10, 128) := by kernel_rfl
theorem To25_any (Q : Nat → Prop) (m : MsgD) (ps : List BunP) (w : World) (lv ev kv cv : Value) (h : MsgAt Q w m ps lv ev kv cv) (hl : m.bs.length ≤ 100) :
 Calls Tryz.prog 12 #[m.ag lv ev kv cv] w fun e w' => ∃ lv', e = .returned (m.ag lv' ev kv cv) ∧ MsgAt Q w' m ps lv' ev kv cv ∧ Frm NoS w w' := by
 obtain ⟨i0, hi, hz0, hz1, hz2⟩ := info_parts info_bunA
 have hl' : ps.length ≤ 100 := by rw [h.len]; exact hl
 have HEQ := Lib.hid h.eq
 have HCA := Lib.hid h.cau
 have HCB := Lib.hid h.bs.cau
 have HSH := Lib.hid (fun p hp => (h.bs.cau p hp).shape)
 obtain ⟨kind, fr, tt, v0, v1, v2, v3, bs, es, ks, c⟩ := m
 dsimp only at HEQ HCA
 have hrd := h.bs.rd
 obtain ⟨a0, c0, a1, c1, a2, c2, rfl, rfl, rfl⟩ := h.cau.shape
 obtain ⟨al, cl, rfl⟩ := h.bs.rd.sl
 have HRD := Lib.hid hrd
 clear h hl hrd
 dsimp only [MsgD.ag]
 generalize es.length = n at *
 generalize ks.len = m at *
 generalize c.length = k at *
 generalize hln : ps.length = ln at *
 have HLEN := Lib.hid hln; clear hln
 obtain ⟨WB, hWB⟩ : ∃ WB, WB = ((w.alloc (.cells #[.int .i64 kind, .int .i64 fr, .int .i64 tt, .int .i64 v0, .int .i64 v1, .int .i64 v2, .int .i64 v3, .slice al ln cl, .slice a0 n c0, .slice a1 m c1, .slice a2 k c2] 34)).alloc (.cells #[.int .i64 0, .int .i64 0, .int .i64 0, .int .i64 0, .int .i64 0, .int .i64 0, .int .i64 0, .slice none 0 0, .slice none 0 0, .slice none 0 0, .slice none 0 0] 40)).alloc (.cells #[.int .i64 kind, .int .i64 fr, .int .i64 tt, .int .i64 v0, .int .i64 v1, .int .i64 v2, .int .i64 v3, .slice none 0 0, .slice a0 n c0, .slice a1 m c1, .slice a2 k c2] 40) := ⟨_, rfl⟩
 have hb0 : WB.heap[w.heap.size]? = some (.cells #[.int .i64 kind, .int .i64 fr, .int .i64 tt, .int .i64 v0, .int .i64 v1, .int .i64 v2, .int .i64 v3, .slice al ln cl, .slice a0 n c0, .slice a1 m c1, .slice a2 k c2] 34 (0, 0)) := by rw [hWB, Below.heap_alloc _ _ _ (by simp; omega), Below.heap_alloc _ _ _ (by simp)]; exact heap_alloc_new w _
 have hb1 : WB.heap[w.heap.size + 1]? = some (.cells #[.int .i64 0, .int .i64 0, .int .i64 0, .int .i64 0, .int .i64 0, .int .i64 0, .int .i64 0, .slice none 0 0, .slice none 0 0, .slice none 0 0, .slice none 0 0] 40 (0, 0)) := by
  rw [hWB, Below.heap_alloc _ _ _ (by simp)]
  have := heap_alloc_new (w.alloc (.cells #[.int .i64 kind, .int .i64 fr, .int .i64 tt, .int .i64 v0, .int .i64 v1, .int .i64 v2, .int .i64 v3, .slice al ln cl, .slice a0 n c0, .slice a1 m c1, .slice a2 k c2] 34)) (.cells #[.int .i64 0, .int .i64 0, .int .i64 0, .int .i64 0, .int .i64 0, .int .i64 0, .int .i64 0, .slice none 0 0, .slice none 0 0, .slice none 0 0, .slice none 0 0] 40)
  simpa using this
 have hb2 : WB.heap[w.heap.size + 1 + 1]? = some (.cells #[.int .i64 kind, .int .i64 fr, .int .i64 tt, .int .i64 v0, .int .i64 v1, .int .i64 v2, .int .i64 v3, .slice none 0 0, .slice a0 n c0, .slice a1 m c1, .slice a2 k c2] 40 (0, 0)) := by
  rw [hWB]
  have := heap_alloc_new ((w.alloc (.cells #[.int .i64 kind, .int .i64 fr, .int .i64 tt, .int .i64 v0, .int .i64 v1, .int .i64 v2, .int .i64 v3, .slice al ln cl, .slice a0 n c0, .slice a1 m c1, .slice a2 k c2] 34)).alloc (.cells #[.int .i64 0, .int .i64 0, .int .i64 0, .int .i64 0, .int .i64 0, .int .i64 0, .int .i64 0, .slice none 0 0, .slice none 0 0, .slice none 0 0, .slice none 0 0] 40)) (.cells #[.int .i64 kind, .int .i64 fr, .int .i64 tt, .int .i64 v0, .int .i64 v1, .int .i64 v2, .int .i64 v3, .slice none 0 0, .slice a0 n c0, .slice a1 m c1, .slice a2 k c2] 40)
  simpa using this
 have hfb : Frm NoS w WB := by rw [hWB]; exact ((Frm.alloc NoS w _).then1 (Frm.alloc _ _ _)).then1 (Frm.alloc _ _ _)
 have hB : Bld 64 NoS (fun k => k = w.heap.size ∨ k = w.heap.size + 1 ∨ k = w.heap.size + 1 + 1) w WB [] (.slice none 0 0) :=
  Bld.start (fun k hk => hk.elim) (fun k hk => by omega) (fun k hk => by have := lt_of_block hb2; omega) hfb
 have HB := Lib.hid hB
 have H0 := Lib.hid hb0
 have H1 := Lib.hid hb1
 have H2 := Lib.hid hb2
 have HWB := Lib.hid hWB
 clear hb0 hb1 hb2 hfb hB hWB
 go_enter Tryz.func12, Tryz.ntmps12
 go_wp2
 go_loopw [19] (fun i ww => ∃ (q : Nat) (lv' : Value), q ≤ ln ∧ i = .int .i64 q ∧ Bld 64 NoS (fun k => k = w.heap.size ∨ k = w.heap.size + 1 ∨ k = w.heap.size + 1 + 1) w ww (ps.take q) lv' ∧ ww.heap[w.heap.size]? = some (.cells #[.int .i64 kind, .int .i64 fr, .int .i64 tt, .int .i64 v0, .int .i64 v1, .int .i64 v2, .int .i64 v3, .slice al ln cl, .slice a0 n c0, .slice a1 m c1, .slice a2 k c2] 34 (0, 0)) ∧ ww.heap[w.heap.size + 1]? = some (.cells #[.int .i64 0, .int .i64 0, .int .i64 0, .int .i64 0, .int .i64 0, .int .i64 0, .int .i64 0, .slice none 0 0, .slice none 0 0, .slice none 0 0, .slice none 0 0] 40 (0, 0)) ∧ ww.heap[w.heap.size + 1 + 1]? = some (.cells #[.int .i64 kind, .int .i64 fr, .int .i64 tt, .int .i64 v0, .int .i64 v1, .int .i64 v2, .int .i64 v3, lv', .slice a0 n c0, .slice a1 m c1, .slice a2 k c2] 40 (0, 0))) (fun i _ => ln - (intOf i).toNat)
 case atStart => rw [← HWB.out]; exact ⟨0, _, Nat.zero_le _, rfl, HB.out, H0.out, H1.out, H2.out⟩
 case round =>
  clear HB H0 H1 H2 HWB
  obtain ⟨q, lv', hq, rfl, hB, h0, h1, h2⟩ := hrel
  have htl : (ps.take q).length = q := by rw [List.length_take, HLEN.out]; omega
  obtain ⟨aV, cV, rfl⟩ := (Rd.own hB.own).sl
  rw [htl] at h2
  have hown := hB.own
  rw [htl] at hown
  rw [htl] at hB
  have HB := Lib.hid hB; clear hB
  have H0 := Lib.hid h0; clear h0
  have H1 := Lib.hid h1; clear h1
  have H2 := Lib.hid h2; clear h2
  have HOWN := Lib.hid hown; clear hown htl
  by_cases hlt : q < ln
  · have hlk : q < ps.length := by rw [HLEN.out]; exact hlt
    have hrd := HRD.out.keep0 HB.out.frm
    rcases Rd.shape hrd with ⟨ad, he, hz⟩ | ⟨b, off, cc, he, hmax⟩
    · exfalso; omega
    · injection he with e1 e2 e3
      subst e1 e3
      clear e2
      obtain ⟨q0, q1, q2, q3, q4, q5, q6, q7, q8, q9⟩ := bun_at hrd q hlk
      clear hrd
      have hsh := HSH.out _ (getD_mem BunP.zero hlk)
      have htk := take_succ BunP.zero hlk
      obtain ⟨p, hgd⟩ : ∃ p, p = ps.getD q BunP.zero := ⟨_, rfl⟩
      rw [← hgd] at q0 q1 q2 q3 q4 q5 q6 q7 q8 q9 hsh htk
      clear hgd
      obtain ⟨⟨dc, af, la, u0, u1, u2, u3, es', ks', c'⟩, ev', kv', cv'⟩ := p
      dsimp only at q0 q1 q2 q3 q4 q5 q6 q7 q8 q9 hsh
      obtain ⟨a3, c3, a4, c4, a5, c5, rfl, rfl, rfl⟩ := hsh
      have hpc : BunP.cells ⟨⟨dc, af, la, u0, u1, u2, u3, es', ks', c'⟩, .slice a3 es'.length c3, .slice a4 ks'.len c4, .slice a5 c'.length c5⟩ = [.int .i64 dc, .int .i64 af, .int .i64 la, .int .i64 u0, .int .i64 u1, .int .i64 u2, .int .i64 u3, .slice a3 es'.length c3, .slice a4 ks'.len c4, .slice a5 c'.length c5] := rfl
      have HPC := Lib.hid hpc; clear hpc
      have HTK := Lib.hid htk; clear htk
      have hone := BunP.one ⟨⟨dc, af, la, u0, u1, u2, u3, es', ks', c'⟩, .slice a3 es'.length c3, .slice a4 ks'.len c4, .slice a5 c'.length c5⟩ rfl rfl rfl
      rw [HPC.out] at hone
      have HONE := Lib.hid hone; clear hone
      generalize es'.length = n' at *
      generalize ks'.len = m' at *
      generalize c'.length = k' at *
      go_wp2_with fail
      have z2 := cell_at' H2.out 7 rfl
      have z0 := cell_at' H0.out 7 rfl
      have hbs : b < wr.heap.size := World.block_lt_of_cell? _ _ q0
      have hbw : b < w.heap.size := by
       rcases HRD.out with ⟨ad, he, hz, _⟩ | ⟨b', off', c', he, _, _, hc⟩
       · exfalso; omega
       · injection he with e1 e2 e3
         injection e1 with e1
         have hc0 := hc 0 _ (show (bunC ps)[0]? = some _ from List.getElem?_eq_getElem (by
          rw [bunC_length, HLEN.out]; omega))
         have := World.block_lt_of_cell? _ _ hc0
         cases e1
         exact this
      refine wp_region_G (S := fun w' => w'.cell? ⟨w.heap.size + 1 + 1, 7, none⟩ = some (.slice aV q cV) ∧ w'.cell? ⟨w.heap.size, 7, none⟩ = some (.slice (some ⟨b, off, none⟩) ln cl) ∧ w'.cell? ⟨b, off + q * 10, none⟩ = some (.int .i64 dc) ∧ w'.cell? ⟨b, off + q * 10 + 1, none⟩ = some (.int .i64 af) ∧ w'.cell? ⟨b, off + q * 10 + 2, none⟩ = some (.int .i64 la) ∧ w'.cell? ⟨b, off + q * 10 + 3, none⟩ = some (.int .i64 u0) ∧ w'.cell? ⟨b, off + q * 10 + 4, none⟩ = some (.int .i64 u1) ∧ w'.cell? ⟨b, off + q * 10 + 5, none⟩ = some (.int .i64 u2) ∧ w'.cell? ⟨b, off + q * 10 + 6, none⟩ = some (.int .i64 u3) ∧ w'.cell? ⟨b, off + q * 10 + 7, none⟩ = some (.slice a3 n' c3) ∧ w'.cell? ⟨b, off + q * 10 + 8, none⟩ = some (.slice a4 m' c4) ∧ w'.cell? ⟨b, off + q * 10 + 9, none⟩ = some (.slice a5 k' c5)) 10 (by kernel_rfl) ⟨z2, z0, q0, q1, q2, q3, q4, q5, q6, q7, q8, q9⟩ ?_
      intro hS
      have HKS := Lib.hid (fun Y Y' (f : Frm NoS Y Y') (hS : Y.cell? ⟨w.heap.size + 1 + 1, 7, none⟩ = some (.slice aV q cV) ∧ Y.cell? ⟨w.heap.size, 7, none⟩ = some (.slice (some ⟨b, off, none⟩) ln cl) ∧ Y.cell? ⟨b, off + q * 10, none⟩ = some (.int .i64 dc) ∧ Y.cell? ⟨b, off + q * 10 + 1, none⟩ = some (.int .i64 af) ∧ Y.cell? ⟨b, off + q * 10 + 2, none⟩ = some (.int .i64 la) ∧ Y.cell? ⟨b, off + q * 10 + 3, none⟩ = some (.int .i64 u0) ∧ Y.cell? ⟨b, off + q * 10 + 4, none⟩ = some (.int .i64 u1) ∧ Y.cell? ⟨b, off + q * 10 + 5, none⟩ = some (.int .i64 u2) ∧ Y.cell? ⟨b, off + q * 10 + 6, none⟩ = some (.int .i64 u3) ∧ Y.cell? ⟨b, off + q * 10 + 7, none⟩ = some (.slice a3 n' c3) ∧ Y.cell? ⟨b, off + q * 10 + 8, none⟩ = some (.slice a4 m' c4) ∧ Y.cell? ⟨b, off + q * 10 + 9, none⟩ = some (.slice a5 k' c5)) => (⟨f.cell' hS.1 id, f.cell' hS.2.1 id, f.cell' hS.2.2.1 id, f.cell' hS.2.2.2.1 id, f.cell' hS.2.2.2.2.1 id, f.cell' hS.2.2.2.2.2.1 id, f.cell' hS.2.2.2.2.2.2.1 id, f.cell' hS.2.2.2.2.2.2.2.1 id, f.cell' hS.2.2.2.2.2.2.2.2.1 id, f.cell' hS.2.2.2.2.2.2.2.2.2.1 id, f.cell' hS.2.2.2.2.2.2.2.2.2.2.1 id, f.cell' hS.2.2.2.2.2.2.2.2.2.2.2 id⟩ : Y'.cell? ⟨w.heap.size + 1 + 1, 7, none⟩ = some (.slice aV q cV) ∧ Y'.cell? ⟨w.heap.size, 7, none⟩ = some (.slice (some ⟨b, off, none⟩) ln cl) ∧ Y'.cell? ⟨b, off + q * 10, none⟩ = some (.int .i64 dc) ∧ Y'.cell? ⟨b, off + q * 10 + 1, none⟩ = some (.int .i64 af) ∧ Y'.cell? ⟨b, off + q * 10 + 2, none⟩ = some (.int .i64 la) ∧ Y'.cell? ⟨b, off + q * 10 + 3, none⟩ = some (.int .i64 u0) ∧ Y'.cell? ⟨b, off + q * 10 + 4, none⟩ = some (.int .i64 u1) ∧ Y'.cell? ⟨b, off + q * 10 + 5, none⟩ = some (.int .i64 u2) ∧ Y'.cell? ⟨b, off + q * 10 + 6, none⟩ = some (.int .i64 u3) ∧ Y'.cell? ⟨b, off + q * 10 + 7, none⟩ = some (.slice a3 n' c3) ∧ Y'.cell? ⟨b, off + q * 10 + 8, none⟩ = some (.slice a4 m' c4) ∧ Y'.cell? ⟨b, off + q * 10 + 9, none⟩ = some (.slice a5 k' c5)))
      clear z0 z2 q0 q1 q2 q3 q4 q5 q6 q7 q8 q9
      have HBY := Lib.hid (HB.out.keep0 (Frm.drew NoS wr))
      have HOY := Lib.hid ((Frm.drew NoS wr).owns HOWN.out fun _ _ => id)
      have H0Y := Lib.hid ((Frm.drew NoS wr).blk H0.out id)
      have H1Y := Lib.hid ((Frm.drew NoS wr).blk H1.out id)
      have H2Y := Lib.hid ((Frm.drew NoS wr).blk H2.out id)
      clear HB HOWN H0 H1 H2
      generalize wr.drew = Y0 at *
      refine tkG 0 22 rfl rfl (v := ?_) (.inl ⟨by rfl, ?_⟩) ?_
      rotate_left 1
      · (intro w hSw; (try dsimp only at hSw); go_simp; (try with_reducible rfl))
      refine tkG 1 23 rfl rfl (v := ?_) (.inl ⟨by rfl, ?_⟩) ?_
      rotate_left 1
      · (intro w hSw; (try dsimp only at hSw); go_simp; (try with_reducible rfl))
      try simp only [Act.put, List.setIfInBounds_toArray, List.set_cons_zero, List.set_cons_succ]
      refine tkG 2 24 rfl rfl (v := ?_) (.inl ⟨by rfl, ?_⟩) ?_
      rotate_left 1
      · (intro w hSw; (try dsimp only at hSw); go_simp; (try with_reducible rfl))
      refine tkG 3 25 rfl rfl (v := ?_) (.inl ⟨by rfl, ?_⟩) ?_
      rotate_left 1
      · (intro w hSw; (try dsimp only at hSw); go_simp; (try with_reducible rfl))
      try simp only [Act.put, List.setIfInBounds_toArray, List.set_cons_zero, List.set_cons_succ]
      refine tkG 4 26 rfl rfl (v := ?_) (.inl ⟨by rfl, ?_⟩) ?_
      rotate_left 1
      · (intro w hSw; (try dsimp only at hSw); go_simp; (try with_reducible rfl))
      refine tkG 5 27 rfl rfl (v := ?_) (.inl ⟨by rfl, ?_⟩) ?_
      rotate_left 1
      · (intro w hSw; (try dsimp only at hSw); go_simp; (try with_reducible rfl))
      try simp only [Act.put, List.setIfInBounds_toArray, List.set_cons_zero, List.set_cons_succ]
      refine tkG 6 28 rfl rfl (v := ?_) (.inl ⟨by rfl, ?_⟩) ?_
      rotate_left 1
      · (intro w hSw; (try dsimp only at hSw); go_simp; (try with_reducible rfl))
      try simp only [Act.put, List.setIfInBounds_toArray, List.set_cons_zero, List.set_cons_succ]
      refine one_opG (i := 7) (by kernel_rfl) rfl (fun K hK => ?_)
      go_simp
      have hS3 := HKS.out _ _ (Frm.alloc NoS Y0 (.cells #[.int .i64 dc, .int .i64 af, .int .i64 la, .int .i64 u0, .int .i64 u1, .int .i64 u2, .int .i64 u3, .slice a3 n' c3, .slice a4 m' c4, .slice a5 k' c5] 64)) hS
      refine hK.out _ _ hS3 ?_
      clear hK K
      try simp only [Act.put, List.setIfInBounds_toArray, List.set_cons_zero, List.set_cons_succ]
      refine one_opG (i := 8) (by kernel_rfl) rfl (fun K hK => ?_)
      refine stp_app1 Y0 [.int .i64 dc, .int .i64 af, .int .i64 la, .int .i64 u0, .int .i64 u1, .int .i64 u2, .int .i64 u3, .slice a3 n' c3, .slice a4 m' c4, .slice a5 k' c5] rfl (.tmp 23) (.tmp 29) 38 rfl 64 i0 _ 10 128 Tryz.underlying38 hi hz0 hz1 hz2 (by decide) (by decide) (.slice aV q cV) q _ HOY.out 1 1 (by simp [Act.eval]) (by simp [Act.eval]) rfl HONE.out (by simp only [maxLen]; omega) (by omega) ?_
      intro ad c6 w6 own6 fm6 fr6
      have hnx : ∀ x, x = w.heap.size ∨ x = w.heap.size + 1 ∨ x = w.heap.size + 1 + 1 → ¬ RowS (.slice aV q cV) x := fun x hx hr => (HBY.out.new x hr).2 hx
      have hno : ¬ RowS (.slice aV q cV) b := fun hr => by have := (HBY.out.new b hr).1; omega
      have hS6 : w6.cell? ⟨w.heap.size + 1 + 1, 7, none⟩ = some (.slice aV q cV) ∧ w6.cell? ⟨w.heap.size, 7, none⟩ = some (.slice (some ⟨b, off, none⟩) ln cl) ∧ w6.cell? ⟨b, off + q * 10, none⟩ = some (.int .i64 dc) ∧ w6.cell? ⟨b, off + q * 10 + 1, none⟩ = some (.int .i64 af) ∧ w6.cell? ⟨b, off + q * 10 + 2, none⟩ = some (.int .i64 la) ∧ w6.cell? ⟨b, off + q * 10 + 3, none⟩ = some (.int .i64 u0) ∧ w6.cell? ⟨b, off + q * 10 + 4, none⟩ = some (.int .i64 u1) ∧ w6.cell? ⟨b, off + q * 10 + 5, none⟩ = some (.int .i64 u2) ∧ w6.cell? ⟨b, off + q * 10 + 6, none⟩ = some (.int .i64 u3) ∧ w6.cell? ⟨b, off + q * 10 + 7, none⟩ = some (.slice a3 n' c3) ∧ w6.cell? ⟨b, off + q * 10 + 8, none⟩ = some (.slice a4 m' c4) ∧ w6.cell? ⟨b, off + q * 10 + 9, none⟩ = some (.slice a5 k' c5) := ⟨fm6.cell' hS.1 (hnx _ (.inr (.inr rfl))), fm6.cell' hS.2.1 (hnx _ (.inl rfl)), fm6.cell' hS.2.2.1 hno, fm6.cell' hS.2.2.2.1 hno, fm6.cell' hS.2.2.2.2.1 hno, fm6.cell' hS.2.2.2.2.2.1 hno, fm6.cell' hS.2.2.2.2.2.2.1 hno, fm6.cell' hS.2.2.2.2.2.2.2.1 hno, fm6.cell' hS.2.2.2.2.2.2.2.2.1 hno, fm6.cell' hS.2.2.2.2.2.2.2.2.2.1 hno, fm6.cell' hS.2.2.2.2.2.2.2.2.2.2.1 hno, fm6.cell' hS.2.2.2.2.2.2.2.2.2.2.2 hno⟩
      have hcf : w6.frozen? ⟨w.heap.size + 1 + 1, 7, none⟩ = false := free_at' (fm6.blk H2Y.out (hnx _ (.inr (.inr rfl)))) 7
      have hset : Frm (Only (w.heap.size + 1 + 1)) w6 (w6.setCell ⟨w.heap.size + 1 + 1, 7, none⟩ (.slice ad (q + 1) c6)) := only_set _ _ _ _
      have H0K := Lib.hid (hset.blk (fm6.blk H0Y.out (hnx _ (.inl rfl))) fun hs => by have hs : w.heap.size = w.heap.size + 1 + 1 := hs; omega)
      have H1K := Lib.hid (hset.blk (fm6.blk H1Y.out (hnx _ (.inr (.inl rfl)))) fun hs => by have hs : w.heap.size + 1 = w.heap.size + 1 + 1 := hs; omega)
      have H2K := Lib.hid (show (w6.setCell ⟨w.heap.size + 1 + 1, 7, none⟩ (.slice ad (q + 1) c6)).heap[w.heap.size + 1 + 1]? = some (.cells #[.int .i64 kind, .int .i64 fr, .int .i64 tt, .int .i64 v0, .int .i64 v1, .int .i64 v2, .int .i64 v3, .slice ad (q + 1) c6, .slice a0 n c0, .slice a1 m c1, .slice a2 k c2] 40 (0, 0)) from set_at' (fm6.blk H2Y.out (hnx _ (.inr (.inr rfl)))) 7 (.slice ad (q + 1) c6))
      have hstp := HBY.out.step (p := ⟨⟨dc, af, la, u0, u1, u2, u3, es', ks', c'⟩, .slice a3 n' c3, .slice a4 m' c4, .slice a5 k' c5⟩) (lv' := .slice ad (q + 1) c6) (w' := w6) (by rw [show (ps.take q).length = q by rw [List.length_take, HLEN.out]; omega]; exact own6) fm6 fr6
      have HBK := Lib.hid ((hstp.keepX (hset.mono fun i _ hs => .inr (.inr hs))))
      have hl6 : w.heap.size + 1 + 1 < w6.heap.size := lt_of_block (fm6.blk H2Y.out (hnx _ (.inr (.inr rfl))))
      have hrow := hS6.1
      refine hK.out _ _ hS6 ?_
      clear hK K own6 fm6 fr6 hnx hno hset hS3 hstp
      try simp only [Act.put, List.setIfInBounds_toArray, List.set_cons_zero, List.set_cons_succ]
      refine tkG 9 31 rfl rfl (v := ?_) (.inl ⟨by rfl, ?_⟩) ?_
      rotate_left 1
      · (intro w hSw; (try dsimp only at hSw); go_simp; (try with_reducible rfl))
      try simp only [Act.put, List.setIfInBounds_toArray, List.set_cons_zero, List.set_cons_succ]
      refine last_opG (by kernel_rfl) (by kernel_rfl) rfl (fun K hK => ?_)
      go_simp
      refine hK.out _ _ ?_
      clear hK K hrow hcf
      go_wp2
      go_roundw
      case rel => exact ⟨q + 1, _, by omega, by go_num, HTK.out ▸ HBK.out, H0K.out, H1K.out, H2K.out⟩
      case measure => simp [intOf]; omega
  · obtain rfl : ln = q := by omega
    have hta : ps.take ln = ps := List.take_of_length_le (by rw [HLEN.out]; exact Nat.le_refl _)
    rw [hta] at HB
    have HTA := Lib.hid hta
    clear hlt hq hta
    obtain ⟨z0, z1, z2, z3, z4, z5, z6, z7, z8, z9, z10⟩ := eleven_at H2.out
    obtain ⟨y0, y1, y2, y3, y4, y5, y6, y7, y8, y9, y10⟩ := eleven_at H1.out
    obtain ⟨g0, g1, g2, g3, g4, g5, g6, g7, g8, g9, g10⟩ := eleven_fr H1.out
    have zl := lt_of_block H2.out
    have yl := lt_of_block H1.out
    go_wp2
    clear z0 y0 g0 z1 y1 g1 z2 y2 g2 z3 y3 g3 z4 y4 g4 z5 y5 g5 z6 y6 g6 z7 y7 g7 z8 y8 g8 z9 y9 g9 z10 y10 g10 zl yl
    have hel := eleven_cells H1.out (.int .i64 kind) (.int .i64 fr) (.int .i64 tt) (.int .i64 v0) (.int .i64 v1) (.int .i64 v2) (.int .i64 v3) (.slice aV ln cV) (.slice a0 n c0) (.slice a1 m c1) (.slice a2 k c2) _ rfl
    obtain ⟨y0, y1, y2, y3, y4, y5, y6, y7, y8, y9, y10⟩ := eleven_at hel
    have hset := eleven_set wr (w.heap.size + 1) (.int .i64 kind) (.int .i64 fr) (.int .i64 tt) (.int .i64 v0) (.int .i64 v1) (.int .i64 v2) (.int .i64 v3) (.slice aV ln cV) (.slice a0 n c0) (.slice a1 m c1) (.slice a2 k c2)
    have hBF := HB.out.keepX (hset.mono fun i _ hs => .inr (.inl hs))
    exact bodyPost_ret (v := .agg #[.int .i64 kind, .int .i64 fr, .int .i64 tt, .int .i64 v0, .int .i64 v1, .int .i64 v2, .int .i64 v3, .slice aV ln cV, .slice a0 n c0, .slice a1 m c1, .slice a2 k c2]) (by simp [results, Tryz.results12, go_sem, y0, y1, y2, y3, y4, y5, y6, y7, y8, y9, y10]) rfl ⟨_, rfl, ⟨hBF.buns fun p hp => (HCB.out p hp).keep0 hBF.frm, HEQ.out, HCA.out.keep0 hBF.frm⟩, hBF.frm⟩
theorem Of25_any (Q : Nat → Prop) (m : MsgD) (ps : List BunP) (w : World) (lv ev kv cv : Value) (h : MsgAt Q w m ps lv ev kv cv) (hl : m.bs.length ≤ 100) :
 Calls Tryz.prog 18 #[m.ag lv ev kv cv] w fun e w' => ∃ lv', e = .returned (m.ag lv' ev kv cv) ∧ MsgAt Q w' m ps lv' ev kv cv ∧ Frm NoS w w' := by
 obtain ⟨i0, hi, hz0, hz1, hz2⟩ := info_parts info_bunB
 have hl' : ps.length ≤ 100 := by rw [h.len]; exact hl
 have HEQ := Lib.hid h.eq
 have HCA := Lib.hid h.cau
 have HCB := Lib.hid h.bs.cau
 have HSH := Lib.hid (fun p hp => (h.bs.cau p hp).shape)
 obtain ⟨kind, fr, tt, v0, v1, v2, v3, bs, es, ks, c⟩ := m
 dsimp only at HEQ HCA
 have hrd := h.bs.rd
 obtain ⟨a0, c0, a1, c1, a2, c2, rfl, rfl, rfl⟩ := h.cau.shape
 obtain ⟨al, cl, rfl⟩ := h.bs.rd.sl
 have HRD := Lib.hid hrd
 clear h hl hrd
 dsimp only [MsgD.ag]
 generalize es.length = n at *
 generalize ks.len = m at *
 generalize c.length = k at *
 generalize hln : ps.length = ln at *
 have HLEN := Lib.hid hln; clear hln
 obtain ⟨WB, hWB⟩ : ∃ WB, WB = ((w.alloc (.cells #[.int .i64 kind, .int .i64 fr, .int .i64 tt, .int .i64 v0, .int .i64 v1, .int .i64 v2, .int .i64 v3, .slice al ln cl, .slice a0 n c0, .slice a1 m c1, .slice a2 k c2] 40)).alloc (.cells #[.int .i64 0, .int .i64 0, .int .i64 0, .int .i64 0, .int .i64 0, .int .i64 0, .int .i64 0, .slice none 0 0, .slice none 0 0, .slice none 0 0, .slice none 0 0] 34)).alloc (.cells #[.int .i64 kind, .int .i64 fr, .int .i64 tt, .int .i64 v0, .int .i64 v1, .int .i64 v2, .int .i64 v3, .slice none 0 0, .slice a0 n c0, .slice a1 m c1, .slice a2 k c2] 34) := ⟨_, rfl⟩
 have hb0 : WB.heap[w.heap.size]? = some (.cells #[.int .i64 kind, .int .i64 fr, .int .i64 tt, .int .i64 v0, .int .i64 v1, .int .i64 v2, .int .i64 v3, .slice al ln cl, .slice a0 n c0, .slice a1 m c1, .slice a2 k c2] 40 (0, 0)) := by rw [hWB, Below.heap_alloc _ _ _ (by simp; omega), Below.heap_alloc _ _ _ (by simp)]; exact heap_alloc_new w _
 have hb1 : WB.heap[w.heap.size + 1]? = some (.cells #[.int .i64 0, .int .i64 0, .int .i64 0, .int .i64 0, .int .i64 0, .int .i64 0, .int .i64 0, .slice none 0 0, .slice none 0 0, .slice none 0 0, .slice none 0 0] 34 (0, 0)) := by
  rw [hWB, Below.heap_alloc _ _ _ (by simp)]
  have := heap_alloc_new (w.alloc (.cells #[.int .i64 kind, .int .i64 fr, .int .i64 tt, .int .i64 v0, .int .i64 v1, .int .i64 v2, .int .i64 v3, .slice al ln cl, .slice a0 n c0, .slice a1 m c1, .slice a2 k c2] 40)) (.cells #[.int .i64 0, .int .i64 0, .int .i64 0, .int .i64 0, .int .i64 0, .int .i64 0, .int .i64 0, .slice none 0 0, .slice none 0 0, .slice none 0 0, .slice none 0 0] 34)
  simpa using this
 have hb2 : WB.heap[w.heap.size + 1 + 1]? = some (.cells #[.int .i64 kind, .int .i64 fr, .int .i64 tt, .int .i64 v0, .int .i64 v1, .int .i64 v2, .int .i64 v3, .slice none 0 0, .slice a0 n c0, .slice a1 m c1, .slice a2 k c2] 34 (0, 0)) := by
  rw [hWB]
  have := heap_alloc_new ((w.alloc (.cells #[.int .i64 kind, .int .i64 fr, .int .i64 tt, .int .i64 v0, .int .i64 v1, .int .i64 v2, .int .i64 v3, .slice al ln cl, .slice a0 n c0, .slice a1 m c1, .slice a2 k c2] 40)).alloc (.cells #[.int .i64 0, .int .i64 0, .int .i64 0, .int .i64 0, .int .i64 0, .int .i64 0, .int .i64 0, .slice none 0 0, .slice none 0 0, .slice none 0 0, .slice none 0 0] 34)) (.cells #[.int .i64 kind, .int .i64 fr, .int .i64 tt, .int .i64 v0, .int .i64 v1, .int .i64 v2, .int .i64 v3, .slice none 0 0, .slice a0 n c0, .slice a1 m c1, .slice a2 k c2] 34)
  simpa using this
 have hfb : Frm NoS w WB := by rw [hWB]; exact ((Frm.alloc NoS w _).then1 (Frm.alloc _ _ _)).then1 (Frm.alloc _ _ _)
 have hB : Bld 60 NoS (fun k => k = w.heap.size ∨ k = w.heap.size + 1 ∨ k = w.heap.size + 1 + 1) w WB [] (.slice none 0 0) :=
  Bld.start (fun k hk => hk.elim) (fun k hk => by omega) (fun k hk => by have := lt_of_block hb2; omega) hfb
 have HB := Lib.hid hB
 have H0 := Lib.hid hb0
 have H1 := Lib.hid hb1
 have H2 := Lib.hid hb2
 have HWB := Lib.hid hWB
 clear hb0 hb1 hb2 hfb hB hWB
 go_enter Tryz.func18, Tryz.ntmps18
 go_wp2
 go_loopw [19] (fun i ww => ∃ (q : Nat) (lv' : Value), q ≤ ln ∧ i = .int .i64 q ∧ Bld 60 NoS (fun k => k = w.heap.size ∨ k = w.heap.size + 1 ∨ k = w.heap.size + 1 + 1) w ww (ps.take q) lv' ∧ ww.heap[w.heap.size]? = some (.cells #[.int .i64 kind, .int .i64 fr, .int .i64 tt, .int .i64 v0, .int .i64 v1, .int .i64 v2, .int .i64 v3, .slice al ln cl, .slice a0 n c0, .slice a1 m c1, .slice a2 k c2] 40 (0, 0)) ∧ ww.heap[w.heap.size + 1]? = some (.cells #[.int .i64 0, .int .i64 0, .int .i64 0, .int .i64 0, .int .i64 0, .int .i64 0, .int .i64 0, .slice none 0 0, .slice none 0 0, .slice none 0 0, .slice none 0 0] 34 (0, 0)) ∧ ww.heap[w.heap.size + 1 + 1]? = some (.cells #[.int .i64 kind, .int .i64 fr, .int .i64 tt, .int .i64 v0, .int .i64 v1, .int .i64 v2, .int .i64 v3, lv', .slice a0 n c0, .slice a1 m c1, .slice a2 k c2] 34 (0, 0))) (fun i _ => ln - (intOf i).toNat)
 case atStart => rw [← HWB.out]; exact ⟨0, _, Nat.zero_le _, rfl, HB.out, H0.out, H1.out, H2.out⟩
 case round =>
  clear HB H0 H1 H2 HWB
  obtain ⟨q, lv', hq, rfl, hB, h0, h1, h2⟩ := hrel
  have htl : (ps.take q).length = q := by rw [List.length_take, HLEN.out]; omega
  obtain ⟨aV, cV, rfl⟩ := (Rd.own hB.own).sl
  rw [htl] at h2
  have hown := hB.own
  rw [htl] at hown
  rw [htl] at hB
  have HB := Lib.hid hB; clear hB
  have H0 := Lib.hid h0; clear h0
  have H1 := Lib.hid h1; clear h1
  have H2 := Lib.hid h2; clear h2
  have HOWN := Lib.hid hown; clear hown htl
  by_cases hlt : q < ln
  · have hlk : q < ps.length := by rw [HLEN.out]; exact hlt
    have hrd := HRD.out.keep0 HB.out.frm
    rcases Rd.shape hrd with ⟨ad, he, hz⟩ | ⟨b, off, cc, he, hmax⟩
    · exfalso; omega
    · injection he with e1 e2 e3
      subst e1 e3
      clear e2
      obtain ⟨q0, q1, q2, q3, q4, q5, q6, q7, q8, q9⟩ := bun_at hrd q hlk
      clear hrd
      have hsh := HSH.out _ (getD_mem BunP.zero hlk)
      have htk := take_succ BunP.zero hlk
      obtain ⟨p, hgd⟩ : ∃ p, p = ps.getD q BunP.zero := ⟨_, rfl⟩
      rw [← hgd] at q0 q1 q2 q3 q4 q5 q6 q7 q8 q9 hsh htk
      clear hgd
      obtain ⟨⟨dc, af, la, u0, u1, u2, u3, es', ks', c'⟩, ev', kv', cv'⟩ := p
      dsimp only at q0 q1 q2 q3 q4 q5 q6 q7 q8 q9 hsh
      obtain ⟨a3, c3, a4, c4, a5, c5, rfl, rfl, rfl⟩ := hsh
      have hpc : BunP.cells ⟨⟨dc, af, la, u0, u1, u2, u3, es', ks', c'⟩, .slice a3 es'.length c3, .slice a4 ks'.len c4, .slice a5 c'.length c5⟩ = [.int .i64 dc, .int .i64 af, .int .i64 la, .int .i64 u0, .int .i64 u1, .int .i64 u2, .int .i64 u3, .slice a3 es'.length c3, .slice a4 ks'.len c4, .slice a5 c'.length c5] := rfl
      have HPC := Lib.hid hpc; clear hpc
      have HTK := Lib.hid htk; clear htk
      have hone := BunP.one ⟨⟨dc, af, la, u0, u1, u2, u3, es', ks', c'⟩, .slice a3 es'.length c3, .slice a4 ks'.len c4, .slice a5 c'.length c5⟩ rfl rfl rfl
      rw [HPC.out] at hone
      have HONE := Lib.hid hone; clear hone
      generalize es'.length = n' at *
      generalize ks'.len = m' at *
      generalize c'.length = k' at *
      go_wp2_with fail
      have z2 := cell_at' H2.out 7 rfl
      have z0 := cell_at' H0.out 7 rfl
      have hbs : b < wr.heap.size := World.block_lt_of_cell? _ _ q0
      have hbw : b < w.heap.size := by
       rcases HRD.out with ⟨ad, he, hz, _⟩ | ⟨b', off', c', he, _, _, hc⟩
       · exfalso; omega
       · injection he with e1 e2 e3
         injection e1 with e1
         have hc0 := hc 0 _ (show (bunC ps)[0]? = some _ from List.getElem?_eq_getElem (by
          rw [bunC_length, HLEN.out]; omega))
         have := World.block_lt_of_cell? _ _ hc0
         cases e1
         exact this
      refine wp_region_G (S := fun w' => w'.cell? ⟨w.heap.size + 1 + 1, 7, none⟩ = some (.slice aV q cV) ∧ w'.cell? ⟨w.heap.size, 7, none⟩ = some (.slice (some ⟨b, off, none⟩) ln cl) ∧ w'.cell? ⟨b, off + q * 10, none⟩ = some (.int .i64 dc) ∧ w'.cell? ⟨b, off + q * 10 + 1, none⟩ = some (.int .i64 af) ∧ w'.cell? ⟨b, off + q * 10 + 2, none⟩ = some (.int .i64 la) ∧ w'.cell? ⟨b, off + q * 10 + 3, none⟩ = some (.int .i64 u0) ∧ w'.cell? ⟨b, off + q * 10 + 4, none⟩ = some (.int .i64 u1) ∧ w'.cell? ⟨b, off + q * 10 + 5, none⟩ = some (.int .i64 u2) ∧ w'.cell? ⟨b, off + q * 10 + 6, none⟩ = some (.int .i64 u3) ∧ w'.cell? ⟨b, off + q * 10 + 7, none⟩ = some (.slice a3 n' c3) ∧ w'.cell? ⟨b, off + q * 10 + 8, none⟩ = some (.slice a4 m' c4) ∧ w'.cell? ⟨b, off + q * 10 + 9, none⟩ = some (.slice a5 k' c5)) 10 (by kernel_rfl) ⟨z2, z0, q0, q1, q2, q3, q4, q5, q6, q7, q8, q9⟩ ?_
      intro hS
      have HKS := Lib.hid (fun Y Y' (f : Frm NoS Y Y') (hS : Y.cell? ⟨w.heap.size + 1 + 1, 7, none⟩ = some (.slice aV q cV) ∧ Y.cell? ⟨w.heap.size, 7, none⟩ = some (.slice (some ⟨b, off, none⟩) ln cl) ∧ Y.cell? ⟨b, off + q * 10, none⟩ = some (.int .i64 dc) ∧ Y.cell? ⟨b, off + q * 10 + 1, none⟩ = some (.int .i64 af) ∧ Y.cell? ⟨b, off + q * 10 + 2, none⟩ = some (.int .i64 la) ∧ Y.cell? ⟨b, off + q * 10 + 3, none⟩ = some (.int .i64 u0) ∧ Y.cell? ⟨b, off + q * 10 + 4, none⟩ = some (.int .i64 u1) ∧ Y.cell? ⟨b, off + q * 10 + 5, none⟩ = some (.int .i64 u2) ∧ Y.cell? ⟨b, off + q * 10 + 6, none⟩ = some (.int .i64 u3) ∧ Y.cell? ⟨b, off + q * 10 + 7, none⟩ = some (.slice a3 n' c3) ∧ Y.cell? ⟨b, off + q * 10 + 8, none⟩ = some (.slice a4 m' c4) ∧ Y.cell? ⟨b, off + q * 10 + 9, none⟩ = some (.slice a5 k' c5)) => (⟨f.cell' hS.1 id, f.cell' hS.2.1 id, f.cell' hS.2.2.1 id, f.cell' hS.2.2.2.1 id, f.cell' hS.2.2.2.2.1 id, f.cell' hS.2.2.2.2.2.1 id, f.cell' hS.2.2.2.2.2.2.1 id, f.cell' hS.2.2.2.2.2.2.2.1 id, f.cell' hS.2.2.2.2.2.2.2.2.1 id, f.cell' hS.2.2.2.2.2.2.2.2.2.1 id, f.cell' hS.2.2.2.2.2.2.2.2.2.2.1 id, f.cell' hS.2.2.2.2.2.2.2.2.2.2.2 id⟩ : Y'.cell? ⟨w.heap.size + 1 + 1, 7, none⟩ = some (.slice aV q cV) ∧ Y'.cell? ⟨w.heap.size, 7, none⟩ = some (.slice (some ⟨b, off, none⟩) ln cl) ∧ Y'.cell? ⟨b, off + q * 10, none⟩ = some (.int .i64 dc) ∧ Y'.cell? ⟨b, off + q * 10 + 1, none⟩ = some (.int .i64 af) ∧ Y'.cell? ⟨b, off + q * 10 + 2, none⟩ = some (.int .i64 la) ∧ Y'.cell? ⟨b, off + q * 10 + 3, none⟩ = some (.int .i64 u0) ∧ Y'.cell? ⟨b, off + q * 10 + 4, none⟩ = some (.int .i64 u1) ∧ Y'.cell? ⟨b, off + q * 10 + 5, none⟩ = some (.int .i64 u2) ∧ Y'.cell? ⟨b, off + q * 10 + 6, none⟩ = some (.int .i64 u3) ∧ Y'.cell? ⟨b, off + q * 10 + 7, none⟩ = some (.slice a3 n' c3) ∧ Y'.cell? ⟨b, off + q * 10 + 8, none⟩ = some (.slice a4 m' c4) ∧ Y'.cell? ⟨b, off + q * 10 + 9, none⟩ = some (.slice a5 k' c5)))
      clear z0 z2 q0 q1 q2 q3 q4 q5 q6 q7 q8 q9
      have HBY := Lib.hid (HB.out.keep0 (Frm.drew NoS wr))
      have HOY := Lib.hid ((Frm.drew NoS wr).owns HOWN.out fun _ _ => id)
      have H0Y := Lib.hid ((Frm.drew NoS wr).blk H0.out id)
      have H1Y := Lib.hid ((Frm.drew NoS wr).blk H1.out id)
      have H2Y := Lib.hid ((Frm.drew NoS wr).blk H2.out id)
      clear HB HOWN H0 H1 H2
      generalize wr.drew = Y0 at *
      refine tkG 0 22 rfl rfl (v := ?_) (.inl ⟨by rfl, ?_⟩) ?_
      rotate_left 1
      · (intro w hSw; (try dsimp only at hSw); go_simp; (try with_reducible rfl))
      refine tkG 1 23 rfl rfl (v := ?_) (.inl ⟨by rfl, ?_⟩) ?_
      rotate_left 1
      · (intro w hSw; (try dsimp only at hSw); go_simp; (try with_reducible rfl))
      try simp only [Act.put, List.setIfInBounds_toArray, List.set_cons_zero, List.set_cons_succ]
      refine tkG 2 24 rfl rfl (v := ?_) (.inl ⟨by rfl, ?_⟩) ?_
      rotate_left 1
      · (intro w hSw; (try dsimp only at hSw); go_simp; (try with_reducible rfl))
      refine tkG 3 25 rfl rfl (v := ?_) (.inl ⟨by rfl, ?_⟩) ?_
      rotate_left 1
      · (intro w hSw; (try dsimp only at hSw); go_simp; (try with_reducible rfl))
      try simp only [Act.put, List.setIfInBounds_toArray, List.set_cons_zero, List.set_cons_succ]
      refine tkG 4 26 rfl rfl (v := ?_) (.inl ⟨by rfl, ?_⟩) ?_
      rotate_left 1
      · (intro w hSw; (try dsimp only at hSw); go_simp; (try with_reducible rfl))
      refine tkG 5 27 rfl rfl (v := ?_) (.inl ⟨by rfl, ?_⟩) ?_
      rotate_left 1
      · (intro w hSw; (try dsimp only at hSw); go_simp; (try with_reducible rfl))
      try simp only [Act.put, List.setIfInBounds_toArray, List.set_cons_zero, List.set_cons_succ]
      refine tkG 6 28 rfl rfl (v := ?_) (.inl ⟨by rfl, ?_⟩) ?_
      rotate_left 1
      · (intro w hSw; (try dsimp only at hSw); go_simp; (try with_reducible rfl))
      try simp only [Act.put, List.setIfInBounds_toArray, List.set_cons_zero, List.set_cons_succ]
      refine one_opG (i := 7) (by kernel_rfl) rfl (fun K hK => ?_)
      go_simp
      have hS3 := HKS.out _ _ (Frm.alloc NoS Y0 (.cells #[.int .i64 dc, .int .i64 af, .int .i64 la, .int .i64 u0, .int .i64 u1, .int .i64 u2, .int .i64 u3, .slice a3 n' c3, .slice a4 m' c4, .slice a5 k' c5] 60)) hS
      refine hK.out _ _ hS3 ?_
      clear hK K
      try simp only [Act.put, List.setIfInBounds_toArray, List.set_cons_zero, List.set_cons_succ]
      refine one_opG (i := 8) (by kernel_rfl) rfl (fun K hK => ?_)
      refine stp_app1 Y0 [.int .i64 dc, .int .i64 af, .int .i64 la, .int .i64 u0, .int .i64 u1, .int .i64 u2, .int .i64 u3, .slice a3 n' c3, .slice a4 m' c4, .slice a5 k' c5] rfl (.tmp 23) (.tmp 29) 24 rfl 60 i0 _ 10 128 Tryz.underlying24 hi hz0 hz1 hz2 (by decide) (by decide) (.slice aV q cV) q _ HOY.out 1 1 (by simp [Act.eval]) (by simp [Act.eval]) rfl HONE.out (by simp only [maxLen]; omega) (by omega) ?_
      intro ad c6 w6 own6 fm6 fr6
      have hnx : ∀ x, x = w.heap.size ∨ x = w.heap.size + 1 ∨ x = w.heap.size + 1 + 1 → ¬ RowS (.slice aV q cV) x := fun x hx hr => (HBY.out.new x hr).2 hx
      have hno : ¬ RowS (.slice aV q cV) b := fun hr => by have := (HBY.out.new b hr).1; omega
      have hS6 : w6.cell? ⟨w.heap.size + 1 + 1, 7, none⟩ = some (.slice aV q cV) ∧ w6.cell? ⟨w.heap.size, 7, none⟩ = some (.slice (some ⟨b, off, none⟩) ln cl) ∧ w6.cell? ⟨b, off + q * 10, none⟩ = some (.int .i64 dc) ∧ w6.cell? ⟨b, off + q * 10 + 1, none⟩ = some (.int .i64 af) ∧ w6.cell? ⟨b, off + q * 10 + 2, none⟩ = some (.int .i64 la) ∧ w6.cell? ⟨b, off + q * 10 + 3, none⟩ = some (.int .i64 u0) ∧ w6.cell? ⟨b, off + q * 10 + 4, none⟩ = some (.int .i64 u1) ∧ w6.cell? ⟨b, off + q * 10 + 5, none⟩ = some (.int .i64 u2) ∧ w6.cell? ⟨b, off + q * 10 + 6, none⟩ = some (.int .i64 u3) ∧ w6.cell? ⟨b, off + q * 10 + 7, none⟩ = some (.slice a3 n' c3) ∧ w6.cell? ⟨b, off + q * 10 + 8, none⟩ = some (.slice a4 m' c4) ∧ w6.cell? ⟨b, off + q * 10 + 9, none⟩ = some (.slice a5 k' c5) := ⟨fm6.cell' hS.1 (hnx _ (.inr (.inr rfl))), fm6.cell' hS.2.1 (hnx _ (.inl rfl)), fm6.cell' hS.2.2.1 hno, fm6.cell' hS.2.2.2.1 hno, fm6.cell' hS.2.2.2.2.1 hno, fm6.cell' hS.2.2.2.2.2.1 hno, fm6.cell' hS.2.2.2.2.2.2.1 hno, fm6.cell' hS.2.2.2.2.2.2.2.1 hno, fm6.cell' hS.2.2.2.2.2.2.2.2.1 hno, fm6.cell' hS.2.2.2.2.2.2.2.2.2.1 hno, fm6.cell' hS.2.2.2.2.2.2.2.2.2.2.1 hno, fm6.cell' hS.2.2.2.2.2.2.2.2.2.2.2 hno⟩
      have hcf : w6.frozen? ⟨w.heap.size + 1 + 1, 7, none⟩ = false := free_at' (fm6.blk H2Y.out (hnx _ (.inr (.inr rfl)))) 7
      have hset : Frm (Only (w.heap.size + 1 + 1)) w6 (w6.setCell ⟨w.heap.size + 1 + 1, 7, none⟩ (.slice ad (q + 1) c6)) := only_set _ _ _ _
      have H0K := Lib.hid (hset.blk (fm6.blk H0Y.out (hnx _ (.inl rfl))) fun hs => by have hs : w.heap.size = w.heap.size + 1 + 1 := hs; omega)
      have H1K := Lib.hid (hset.blk (fm6.blk H1Y.out (hnx _ (.inr (.inl rfl)))) fun hs => by have hs : w.heap.size + 1 = w.heap.size + 1 + 1 := hs; omega)
      have H2K := Lib.hid (show (w6.setCell ⟨w.heap.size + 1 + 1, 7, none⟩ (.slice ad (q + 1) c6)).heap[w.heap.size + 1 + 1]? = some (.cells #[.int .i64 kind, .int .i64 fr, .int .i64 tt, .int .i64 v0, .int .i64 v1, .int .i64 v2, .int .i64 v3, .slice ad (q + 1) c6, .slice a0 n c0, .slice a1 m c1, .slice a2 k c2] 34 (0, 0)) from set_at' (fm6.blk H2Y.out (hnx _ (.inr (.inr rfl)))) 7 (.slice ad (q + 1) c6))
      have hstp := HBY.out.step (p := ⟨⟨dc, af, la, u0, u1, u2, u3, es', ks', c'⟩, .slice a3 n' c3, .slice a4 m' c4, .slice a5 k' c5⟩) (lv' := .slice ad (q + 1) c6) (w' := w6) (by rw [show (ps.take q).length = q by rw [List.length_take, HLEN.out]; omega]; exact own6) fm6 fr6
      have HBK := Lib.hid ((hstp.keepX (hset.mono fun i _ hs => .inr (.inr hs))))
      have hl6 : w.heap.size + 1 + 1 < w6.heap.size := lt_of_block (fm6.blk H2Y.out (hnx _ (.inr (.inr rfl))))
      have hrow := hS6.1
      refine hK.out _ _ hS6 ?_
      clear hK K own6 fm6 fr6 hnx hno hset hS3 hstp
      try simp only [Act.put, List.setIfInBounds_toArray, List.set_cons_zero, List.set_cons_succ]
      refine tkG 9 31 rfl rfl (v := ?_) (.inl ⟨by rfl, ?_⟩) ?_
      rotate_left 1
      · (intro w hSw; (try dsimp only at hSw); go_simp; (try with_reducible rfl))
      try simp only [Act.put, List.setIfInBounds_toArray, List.set_cons_zero, List.set_cons_succ]
      refine last_opG (by kernel_rfl) (by kernel_rfl) rfl (fun K hK => ?_)
      go_simp
      refine hK.out _ _ ?_
      clear hK K hrow hcf
      go_wp2
      go_roundw
      case rel => exact ⟨q + 1, _, by omega, by go_num, HTK.out ▸ HBK.out, H0K.out, H1K.out, H2K.out⟩
      case measure => simp [intOf]; omega
  · obtain rfl : ln = q := by omega
    have hta : ps.take ln = ps := List.take_of_length_le (by rw [HLEN.out]; exact Nat.le_refl _)
    rw [hta] at HB
    have HTA := Lib.hid hta
    clear hlt hq hta
    obtain ⟨z0, z1, z2, z3, z4, z5, z6, z7, z8, z9, z10⟩ := eleven_at H2.out
    obtain ⟨y0, y1, y2, y3, y4, y5, y6, y7, y8, y9, y10⟩ := eleven_at H1.out
    obtain ⟨g0, g1, g2, g3, g4, g5, g6, g7, g8, g9, g10⟩ := eleven_fr H1.out
    have zl := lt_of_block H2.out
    have yl := lt_of_block H1.out
    go_wp2
    clear z0 y0 g0 z1 y1 g1 z2 y2 g2 z3 y3 g3 z4 y4 g4 z5 y5 g5 z6 y6 g6 z7 y7 g7 z8 y8 g8 z9 y9 g9 z10 y10 g10 zl yl
    have hel := eleven_cells H1.out (.int .i64 kind) (.int .i64 fr) (.int .i64 tt) (.int .i64 v0) (.int .i64 v1) (.int .i64 v2) (.int .i64 v3) (.slice aV ln cV) (.slice a0 n c0) (.slice a1 m c1) (.slice a2 k c2) _ rfl
    obtain ⟨y0, y1, y2, y3, y4, y5, y6, y7, y8, y9, y10⟩ := eleven_at hel
    have hset := eleven_set wr (w.heap.size + 1) (.int .i64 kind) (.int .i64 fr) (.int .i64 tt) (.int .i64 v0) (.int .i64 v1) (.int .i64 v2) (.int .i64 v3) (.slice aV ln cV) (.slice a0 n c0) (.slice a1 m c1) (.slice a2 k c2)
    have hBF := HB.out.keepX (hset.mono fun i _ hs => .inr (.inl hs))
    exact bodyPost_ret (v := .agg #[.int .i64 kind, .int .i64 fr, .int .i64 tt, .int .i64 v0, .int .i64 v1, .int .i64 v2, .int .i64 v3, .slice aV ln cV, .slice a0 n c0, .slice a1 m c1, .slice a2 k c2]) (by simp [results, Tryz.results18, go_sem, y0, y1, y2, y3, y4, y5, y6, y7, y8, y9, y10]) rfl ⟨_, rfl, ⟨hBF.buns fun p hp => (HCB.out p hp).keep0 hBF.frm, HEQ.out, HCA.out.keep0 hBF.frm⟩, hBF.frm⟩
end Go.Proofs.YtcahemkomfaabaaGreat
